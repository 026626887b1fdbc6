/- The types; the calls' shapes. -/
import Derived.KernelRfl
import Derived.Test.YtlbbngkplehnpacGreatDoorKi
import Derived.Test.YtlbbngkplehnpacGreatDoorKl
set_option linter.all false
/- What the seat's types are. -/
namespace Go.Mx
open Go.Proofs
noncomputable def S.d24 : TypeDesc := ((S.tb 24).map (·.d)).getD .bool
noncomputable def S.d27 : TypeDesc := ((S.tb 27).map (·.d)).getD .bool
noncomputable def S.d35 : TypeDesc := ((S.tb 35).map (·.d)).getD .bool
noncomputable def S.d41 : TypeDesc := ((S.tb 41).map (·.d)).getD .bool
noncomputable def S.d53 : TypeDesc := ((S.tb 53).map (·.d)).getD .bool
noncomputable def S.d62 : TypeDesc := ((S.tb 62).map (·.d)).getD .bool
structure S.Ty (tb : Nat → Option TI) : Prop where
  t3 : tb 3 = some ⟨.int .i64, 1, 8, .i .i64 0, false, true, true⟩
  t4 : tb 4 = some ⟨.bool, 1, 1, .b false, false, true, true⟩
  t9 : tb 9 = some ⟨.string, 1, 16, .s [], false, true, true⟩
  t22 : tb 22 = some ⟨.slice 3, 1, 24, .nils, false, true, false⟩
  t24 : tb 24 = some ⟨S.d24, 3, 40, .agg [.i .i64 0, .i .i64 0, .nils], true, true, false⟩
  fa24_0 (b o) : fieldAddrA tb 24 (.p b o) 0 = some (.p b (o + 0))
  fa24_1 (b o) : fieldAddrA tb 24 (.p b o) 1 = some (.p b (o + 1))
  fa24_2 (b o) : fieldAddrA tb 24 (.p b o) 2 = some (.p b (o + 2))
  t25 : tb 25 = some ⟨.slice 62, 1, 24, .nils, false, true, false⟩
  t27 : tb 27 = some ⟨S.d27, 8, 128, .agg [.i .i64 0, .i .i64 0, .nils, .i .i64 0, .nils, .nils, .nils, .i .i64 0], true, true, false⟩
  fa27_0 (b o) : fieldAddrA tb 27 (.p b o) 0 = some (.p b (o + 0))
  fa27_1 (b o) : fieldAddrA tb 27 (.p b o) 1 = some (.p b (o + 3))
  fa27_2 (b o) : fieldAddrA tb 27 (.p b o) 2 = some (.p b (o + 4))
  fa27_3 (b o) : fieldAddrA tb 27 (.p b o) 3 = some (.p b (o + 5))
  fa27_4 (b o) : fieldAddrA tb 27 (.p b o) 4 = some (.p b (o + 6))
  fa27_5 (b o) : fieldAddrA tb 27 (.p b o) 5 = some (.p b (o + 7))
  t32 : tb 32 = some ⟨.slice 41, 1, 24, .nils, false, true, false⟩
  t35 : tb 35 = some ⟨S.d35, 1, 8, .nilf, false, true, false⟩
  t41 : tb 41 = some ⟨S.d41, 1, 8, .nilf, false, true, false⟩
  t48 : tb 48 = some ⟨.slice 35, 1, 24, .nils, false, true, false⟩
  t51 : tb 51 = some ⟨.slice 9, 1, 24, .nils, false, true, false⟩
  t53 : tb 53 = some ⟨S.d53, 5, 72, .agg [.nils, .nils, .b false, .i .i64 0, .b false], true, true, false⟩
  fa53_0 (b o) : fieldAddrA tb 53 (.p b o) 0 = some (.p b (o + 0))
  fa53_1 (b o) : fieldAddrA tb 53 (.p b o) 1 = some (.p b (o + 1))
  fa53_2 (b o) : fieldAddrA tb 53 (.p b o) 2 = some (.p b (o + 2))
  fa53_3 (b o) : fieldAddrA tb 53 (.p b o) 3 = some (.p b (o + 3))
  fa53_4 (b o) : fieldAddrA tb 53 (.p b o) 4 = some (.p b (o + 4))
  t54 : tb 54 = some ⟨.slice 53, 1, 24, .nils, false, true, false⟩
  t62 : tb 62 = some ⟨S.d62, 2, 16, .agg [.i .i64 0, .i .i64 0], true, true, true⟩
  fa62_0 (b o) : fieldAddrA tb 62 (.p b o) 0 = some (.p b (o + 0))
  fa62_1 (b o) : fieldAddrA tb 62 (.p b o) 1 = some (.p b (o + 1))
set_option maxRecDepth 100000
theorem S.ty : S.Ty S.tb where
  t3 := by kernel_rfl
  t4 := by kernel_rfl
  t9 := by kernel_rfl
  t22 := by kernel_rfl
  t24 := by kernel_rfl
  fa24_0 _ _ := by kernel_rfl
  fa24_1 _ _ := by kernel_rfl
  fa24_2 _ _ := by kernel_rfl
  t25 := by kernel_rfl
  t27 := by kernel_rfl
  fa27_0 _ _ := by kernel_rfl
  fa27_1 _ _ := by kernel_rfl
  fa27_2 _ _ := by kernel_rfl
  fa27_3 _ _ := by kernel_rfl
  fa27_4 _ _ := by kernel_rfl
  fa27_5 _ _ := by kernel_rfl
  t32 := by kernel_rfl
  t35 := by kernel_rfl
  t41 := by kernel_rfl
  t48 := by kernel_rfl
  t51 := by kernel_rfl
  t53 := by kernel_rfl
  fa53_0 _ _ := by kernel_rfl
  fa53_1 _ _ := by kernel_rfl
  fa53_2 _ _ := by kernel_rfl
  fa53_3 _ _ := by kernel_rfl
  fa53_4 _ _ := by kernel_rfl
  t54 := by kernel_rfl
  t62 := by kernel_rfl
  fa62_0 _ _ := by kernel_rfl
  fa62_1 _ _ := by kernel_rfl
theorem S.Ty.n {tb} (T : S.Ty tb) : ElT tb 22 3 := ⟨⟨_, T.t22, rfl⟩, ⟨_, T.t3, rfl, rfl, by decide⟩⟩
theorem S.Ty.s {tb} (T : S.Ty tb) : ElT tb 51 9 := ⟨⟨_, T.t51, rfl⟩, ⟨_, T.t9, rfl, rfl, by decide⟩⟩
theorem TS {tb} (T : S.Ty tb) : type_of% (And.intro T.t3 <| And.intro T.t4 <| And.intro T.t9 <| And.intro T.t22 <| And.intro T.t24 <| And.intro T.fa24_0 <| And.intro T.fa24_1 <| And.intro T.fa24_2 <| And.intro T.t25 <| And.intro T.t27 <| And.intro T.fa27_0 <| And.intro T.fa27_1 <| And.intro T.fa27_2 <| And.intro T.fa27_3 <| And.intro T.fa27_4 <| And.intro T.fa27_5 <| And.intro T.t32 <| And.intro T.t35 <| And.intro T.t41 <| And.intro T.t48 <| And.intro T.t51 <| And.intro T.t53 <| And.intro T.fa53_0 <| And.intro T.fa53_1 <| And.intro T.fa53_2 <| And.intro T.fa53_3 <| And.intro T.fa53_4 <| And.intro T.t54 <| And.intro T.t62 <| And.intro T.fa62_0 T.fa62_1) :=
  And.intro T.t3 <| And.intro T.t4 <| And.intro T.t9 <| And.intro T.t22 <| And.intro T.t24 <| And.intro T.fa24_0 <| And.intro T.fa24_1 <| And.intro T.fa24_2 <| And.intro T.t25 <| And.intro T.t27 <| And.intro T.fa27_0 <| And.intro T.fa27_1 <| And.intro T.fa27_2 <| And.intro T.fa27_3 <| And.intro T.fa27_4 <| And.intro T.fa27_5 <| And.intro T.t32 <| And.intro T.t35 <| And.intro T.t41 <| And.intro T.t48 <| And.intro T.t51 <| And.intro T.t53 <| And.intro T.fa53_0 <| And.intro T.fa53_1 <| And.intro T.fa53_2 <| And.intro T.fa53_3 <| And.intro T.fa53_4 <| And.intro T.t54 <| And.intro T.t62 <| And.intro T.fa62_0 T.fa62_1
end Go.Mx

namespace Go.Mx
open Go.Proofs
structure S.Bd (tb : Nat → Option TI) : Prop where
  r : buildA tb 53 [(4, .b true)] = some (.agg [.nils, .nils, .b false, .i .i64 0, .b true])
  m : buildA tb 53 [(2, .b true), (4, .b true)] = some (.agg [.nils, .nils, .b true, .i .i64 0, .b true])
  k (n : Int) : buildA tb 53 [(2, .b true), (3, .i .i64 n)] = some (.agg [.nils, .nils, .b true, .i .i64 n, .b false])
set_option maxRecDepth 100000
theorem S.bd : S.Bd S.tb where
  r := by kernel_rfl
  m := by kernel_rfl
  k _ := by kernel_rfl
end Go.Mx

/- The calls: each by a run of the executor. -/
namespace Go.Mx
open Go.Proofs
def S.ls : List Lf := [.int .i64, .int .i64, .sl [.int .i64], .int .i64, .sl [.int .i64], .sl [.int .i64], .sl [.int .i64, .int .i64], .int .i64]
/-- The closures over results: what each sees. -/
def S.tabL : List (Nat × List Lf) := [(11, [.sl [.int .i64]]), (17, [.sl [.int .i64]]), (20, [.sl [.int .i64]]), (23, [.sl [.int .i64]])]
def S.tabf (g : Nat) : Option (List Lf) := look S.tabL g
def S.Tab (g : Nat) (ls : List Lf) : Prop := S.tabf g = some ls
def S.nc (g : Nat) : Bool := !(Nat.beq g 26 || Nat.beq g 115 || Nat.beq g 178)
theorem S.htab (g : Nat) (rl : List Lf) (h : S.tabf g = some rl) : S.Tab g rl ∧ rl.length ≤ 1000 ∧ wides rl ≤ 1000 ∧ noSs rl = true := by
  refine ⟨h, ?_⟩
  have h2 := look_mem h
  simp only [S.tabL, List.mem_cons, Prod.mk.injEq, List.not_mem_nil, or_false] at h2
  rcases h2 with ⟨rfl, rfl⟩ | ⟨rfl, rfl⟩ | ⟨rfl, rfl⟩ | ⟨rfl, rfl⟩
  · exact ⟨by decide, by simp [wides, wide1], rfl⟩
  · exact ⟨by decide, by simp [wides, wide1], rfl⟩
  · exact ⟨by decide, by simp [wides, wide1], rfl⟩
  · exact ⟨by decide, by simp [wides, wide1], rfl⟩
end Go.Mx
