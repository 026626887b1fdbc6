/- The types; the calls' shapes. -/
import Derived.KernelRfl
import Derived.Test.YtlbbngkplehnpaaGreatDoorKi
import Derived.Test.YtlbbngkplehnpaaGreatDoorKl
set_option linter.all false
/- What the seat's types are. -/
namespace Go.Mx
open Go.Proofs
noncomputable def S.d24 : TypeDesc := ((S.tb 24).map (·.d)).getD .bool
noncomputable def S.d26 : TypeDesc := ((S.tb 26).map (·.d)).getD .bool
noncomputable def S.d28 : TypeDesc := ((S.tb 28).map (·.d)).getD .bool
noncomputable def S.d41 : TypeDesc := ((S.tb 41).map (·.d)).getD .bool
noncomputable def S.d42 : TypeDesc := ((S.tb 42).map (·.d)).getD .bool
noncomputable def S.d50 : TypeDesc := ((S.tb 50).map (·.d)).getD .bool
structure S.Ty (tb : Nat → Option TI) : Prop where
  t2 : tb 2 = some ⟨.int .i64, 1, 8, .i .i64 0, false, true, true⟩
  t3 : tb 3 = some ⟨.int .i64, 1, 8, .i .i64 0, false, true, true⟩
  t4 : tb 4 = some ⟨.bool, 1, 1, .b false, false, true, true⟩
  t9 : tb 9 = some ⟨.string, 1, 16, .s [], false, true, true⟩
  t22 : tb 22 = some ⟨.slice 4, 1, 24, .nils, false, true, false⟩
  t24 : tb 24 = some ⟨S.d24, 3, 40, .agg [.i .i64 0, .i .i64 0, .nils], true, true, false⟩
  fa24_0 (b o) : fieldAddrA tb 24 (.p b o) 0 = some (.p b (o + 0))
  fa24_1 (b o) : fieldAddrA tb 24 (.p b o) 1 = some (.p b (o + 1))
  fa24_2 (b o) : fieldAddrA tb 24 (.p b o) 2 = some (.p b (o + 2))
  t26 : tb 26 = some ⟨S.d26, 2, 16, .agg [.i .i64 0, .i .i64 0], true, true, true⟩
  fa26_0 (b o) : fieldAddrA tb 26 (.p b o) 0 = some (.p b (o + 0))
  fa26_1 (b o) : fieldAddrA tb 26 (.p b o) 1 = some (.p b (o + 1))
  t28 : tb 28 = some ⟨S.d28, 11, 104, .agg [.i .i64 0, .i .i64 0, .nils, .i .i64 0, .i .i64 0, .i .i64 0, .i .i64 0, .i .i64 0, .i .i64 0, .i .i64 0, .i .i64 0], true, true, false⟩
  fa28_0 (b o) : fieldAddrA tb 28 (.p b o) 0 = some (.p b (o + 0))
  fa28_1 (b o) : fieldAddrA tb 28 (.p b o) 1 = some (.p b (o + 3))
  fa28_2 (b o) : fieldAddrA tb 28 (.p b o) 2 = some (.p b (o + 4))
  fa28_3 (b o) : fieldAddrA tb 28 (.p b o) 3 = some (.p b (o + 5))
  fa28_4 (b o) : fieldAddrA tb 28 (.p b o) 4 = some (.p b (o + 7))
  fa28_5 (b o) : fieldAddrA tb 28 (.p b o) 5 = some (.p b (o + 8))
  fa28_6 (b o) : fieldAddrA tb 28 (.p b o) 6 = some (.p b (o + 9))
  t33 : tb 33 = some ⟨.slice 41, 1, 24, .nils, false, true, false⟩
  t34 : tb 34 = some ⟨.slice 3, 1, 24, .nils, false, true, false⟩
  t41 : tb 41 = some ⟨S.d41, 1, 8, .nilf, false, true, false⟩
  t42 : tb 42 = some ⟨S.d42, 1, 8, .nilf, false, true, false⟩
  t45 : tb 45 = some ⟨.slice 42, 1, 24, .nils, false, true, false⟩
  t48 : tb 48 = some ⟨.slice 9, 1, 24, .nils, false, true, false⟩
  t50 : tb 50 = some ⟨S.d50, 5, 72, .agg [.nils, .nils, .b false, .i .i64 0, .b false], true, true, false⟩
  fa50_0 (b o) : fieldAddrA tb 50 (.p b o) 0 = some (.p b (o + 0))
  fa50_1 (b o) : fieldAddrA tb 50 (.p b o) 1 = some (.p b (o + 1))
  fa50_2 (b o) : fieldAddrA tb 50 (.p b o) 2 = some (.p b (o + 2))
  fa50_3 (b o) : fieldAddrA tb 50 (.p b o) 3 = some (.p b (o + 3))
  fa50_4 (b o) : fieldAddrA tb 50 (.p b o) 4 = some (.p b (o + 4))
  t51 : tb 51 = some ⟨.slice 50, 1, 24, .nils, false, true, false⟩
set_option maxRecDepth 100000
theorem S.ty : S.Ty S.tb where
  t2 := by kernel_rfl
  t3 := by kernel_rfl
  t4 := by kernel_rfl
  t9 := by kernel_rfl
  t22 := by kernel_rfl
  t24 := by kernel_rfl
  fa24_0 _ _ := by kernel_rfl
  fa24_1 _ _ := by kernel_rfl
  fa24_2 _ _ := by kernel_rfl
  t26 := by kernel_rfl
  fa26_0 _ _ := by kernel_rfl
  fa26_1 _ _ := by kernel_rfl
  t28 := by kernel_rfl
  fa28_0 _ _ := by kernel_rfl
  fa28_1 _ _ := by kernel_rfl
  fa28_2 _ _ := by kernel_rfl
  fa28_3 _ _ := by kernel_rfl
  fa28_4 _ _ := by kernel_rfl
  fa28_5 _ _ := by kernel_rfl
  fa28_6 _ _ := by kernel_rfl
  t33 := by kernel_rfl
  t34 := by kernel_rfl
  t41 := by kernel_rfl
  t42 := by kernel_rfl
  t45 := by kernel_rfl
  t48 := by kernel_rfl
  t50 := by kernel_rfl
  fa50_0 _ _ := by kernel_rfl
  fa50_1 _ _ := by kernel_rfl
  fa50_2 _ _ := by kernel_rfl
  fa50_3 _ _ := by kernel_rfl
  fa50_4 _ _ := by kernel_rfl
  t51 := by kernel_rfl
theorem S.Ty.n {tb} (T : S.Ty tb) : ElT tb 34 3 := ⟨⟨_, T.t34, rfl⟩, ⟨_, T.t3, rfl, rfl, by decide⟩⟩
theorem S.Ty.s {tb} (T : S.Ty tb) : ElT tb 48 9 := ⟨⟨_, T.t48, rfl⟩, ⟨_, T.t9, rfl, rfl, by decide⟩⟩
theorem TS {tb} (T : S.Ty tb) : type_of% (And.intro T.t2 <| And.intro T.t3 <| And.intro T.t4 <| And.intro T.t9 <| And.intro T.t22 <| And.intro T.t24 <| And.intro T.fa24_0 <| And.intro T.fa24_1 <| And.intro T.fa24_2 <| And.intro T.t26 <| And.intro T.fa26_0 <| And.intro T.fa26_1 <| And.intro T.t28 <| And.intro T.fa28_0 <| And.intro T.fa28_1 <| And.intro T.fa28_2 <| And.intro T.fa28_3 <| And.intro T.fa28_4 <| And.intro T.fa28_5 <| And.intro T.fa28_6 <| And.intro T.t33 <| And.intro T.t34 <| And.intro T.t41 <| And.intro T.t42 <| And.intro T.t45 <| And.intro T.t48 <| And.intro T.t50 <| And.intro T.fa50_0 <| And.intro T.fa50_1 <| And.intro T.fa50_2 <| And.intro T.fa50_3 <| And.intro T.fa50_4 T.t51) :=
  And.intro T.t2 <| And.intro T.t3 <| And.intro T.t4 <| And.intro T.t9 <| And.intro T.t22 <| And.intro T.t24 <| And.intro T.fa24_0 <| And.intro T.fa24_1 <| And.intro T.fa24_2 <| And.intro T.t26 <| And.intro T.fa26_0 <| And.intro T.fa26_1 <| And.intro T.t28 <| And.intro T.fa28_0 <| And.intro T.fa28_1 <| And.intro T.fa28_2 <| And.intro T.fa28_3 <| And.intro T.fa28_4 <| And.intro T.fa28_5 <| And.intro T.fa28_6 <| And.intro T.t33 <| And.intro T.t34 <| And.intro T.t41 <| And.intro T.t42 <| And.intro T.t45 <| And.intro T.t48 <| And.intro T.t50 <| And.intro T.fa50_0 <| And.intro T.fa50_1 <| And.intro T.fa50_2 <| And.intro T.fa50_3 <| And.intro T.fa50_4 T.t51
end Go.Mx

namespace Go.Mx
open Go.Proofs
structure S.Bd (tb : Nat → Option TI) : Prop where
  r : buildA tb 50 [(4, .b true)] = some (.agg [.nils, .nils, .b false, .i .i64 0, .b true])
  m : buildA tb 50 [(2, .b true), (4, .b true)] = some (.agg [.nils, .nils, .b true, .i .i64 0, .b true])
  k (n : Int) : buildA tb 50 [(2, .b true), (3, .i .i64 n)] = some (.agg [.nils, .nils, .b true, .i .i64 n, .b false])
set_option maxRecDepth 100000
theorem S.bd : S.Bd S.tb where
  r := by kernel_rfl
  m := by kernel_rfl
  k _ := by kernel_rfl
end Go.Mx

/- The calls: each by a run of the executor. -/
namespace Go.Mx
open Go.Proofs
def S.ls : List Lf := [.int .i64, .int .i64, .sl [.bool], .int .i64, .int .i64, .int .i64, .int .i64, .int .i64, .int .i64, .int .i64, .int .i64]
/-- The closures over results: what each sees. -/
def S.tabL : List (Nat × List Lf) := [(9, [.sl [.int .i64]]), (11, [.sl [.int .i64]])]
def S.tabf (g : Nat) : Option (List Lf) := look S.tabL g
def S.Tab (g : Nat) (ls : List Lf) : Prop := S.tabf g = some ls
def S.nc (g : Nat) : Bool := !(Nat.beq g 14 || Nat.beq g 102 || Nat.beq g 166)
theorem S.htab (g : Nat) (rl : List Lf) (h : S.tabf g = some rl) : S.Tab g rl ∧ rl.length ≤ 1000 ∧ wides rl ≤ 1000 ∧ noSs rl = true := by
  refine ⟨h, ?_⟩
  have h2 := look_mem h
  simp only [S.tabL, List.mem_cons, Prod.mk.injEq, List.not_mem_nil, or_false] at h2
  rcases h2 with ⟨rfl, rfl⟩ | ⟨rfl, rfl⟩
  · exact ⟨by decide, by simp [wides, wide1], rfl⟩
  · exact ⟨by decide, by simp [wides, wide1], rfl⟩
end Go.Mx
