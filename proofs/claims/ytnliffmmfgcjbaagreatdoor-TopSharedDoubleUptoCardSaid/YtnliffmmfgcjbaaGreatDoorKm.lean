/- The types; the calls' shapes. -/
import Derived.KernelRfl
import Derived.Test.YtnliffmmfgcjbaaGreatDoorKi
import Derived.Test.YtnliffmmfgcjbaaGreatDoorKl
set_option linter.all false
/- What the seat's types are. -/
namespace Go.Mx
open Go.Proofs
noncomputable def S.d24 : TypeDesc := ((S.tb 24).map (·.d)).getD .bool
noncomputable def S.d26 : TypeDesc := ((S.tb 26).map (·.d)).getD .bool
noncomputable def S.d38 : TypeDesc := ((S.tb 38).map (·.d)).getD .bool
noncomputable def S.d39 : TypeDesc := ((S.tb 39).map (·.d)).getD .bool
noncomputable def S.d49 : TypeDesc := ((S.tb 49).map (·.d)).getD .bool
structure S.Ty (tb : Nat → Option TI) : Prop where
  t3 : tb 3 = some ⟨.int .i64, 1, 8, .i .i64 0, false, true, true⟩
  t4 : tb 4 = some ⟨.bool, 1, 1, .b false, false, true, true⟩
  t9 : tb 9 = some ⟨.string, 1, 16, .s [], false, true, true⟩
  t22 : tb 22 = some ⟨.slice 4, 1, 24, .nils, false, true, false⟩
  t24 : tb 24 = some ⟨S.d24, 3, 40, .agg [.i .i64 0, .i .i64 0, .nils], true, true, false⟩
  fa24_0 (b o) : fieldAddrA tb 24 (.p b o) 0 = some (.p b (o + 0))
  fa24_1 (b o) : fieldAddrA tb 24 (.p b o) 1 = some (.p b (o + 1))
  fa24_2 (b o) : fieldAddrA tb 24 (.p b o) 2 = some (.p b (o + 2))
  t26 : tb 26 = some ⟨S.d26, 12, 160, .agg [.i .i64 0, .i .i64 0, .nils, .i .i64 0, .i .i64 0, .nils, .i .i64 0, .i .i64 0, .nils, .i .i64 0, .i .i64 0, .nils], true, true, false⟩
  fa26_0 (b o) : fieldAddrA tb 26 (.p b o) 0 = some (.p b (o + 0))
  fa26_1 (b o) : fieldAddrA tb 26 (.p b o) 1 = some (.p b (o + 3))
  fa26_2 (b o) : fieldAddrA tb 26 (.p b o) 2 = some (.p b (o + 6))
  fa26_3 (b o) : fieldAddrA tb 26 (.p b o) 3 = some (.p b (o + 9))
  t31 : tb 31 = some ⟨.slice 38, 1, 24, .nils, false, true, false⟩
  t38 : tb 38 = some ⟨S.d38, 1, 8, .nilf, false, true, false⟩
  t39 : tb 39 = some ⟨S.d39, 1, 8, .nilf, false, true, false⟩
  t43 : tb 43 = some ⟨.slice 39, 1, 24, .nils, false, true, false⟩
  t46 : tb 46 = some ⟨.slice 3, 1, 24, .nils, false, true, false⟩
  t47 : tb 47 = some ⟨.slice 9, 1, 24, .nils, false, true, false⟩
  t49 : tb 49 = some ⟨S.d49, 5, 72, .agg [.nils, .nils, .b false, .i .i64 0, .b false], true, true, false⟩
  fa49_0 (b o) : fieldAddrA tb 49 (.p b o) 0 = some (.p b (o + 0))
  fa49_1 (b o) : fieldAddrA tb 49 (.p b o) 1 = some (.p b (o + 1))
  fa49_2 (b o) : fieldAddrA tb 49 (.p b o) 2 = some (.p b (o + 2))
  fa49_3 (b o) : fieldAddrA tb 49 (.p b o) 3 = some (.p b (o + 3))
  fa49_4 (b o) : fieldAddrA tb 49 (.p b o) 4 = some (.p b (o + 4))
  t50 : tb 50 = some ⟨.slice 49, 1, 24, .nils, false, true, false⟩
set_option maxRecDepth 100000
theorem S.ty : S.Ty S.tb where
  t3 := by kernel_rfl
  t4 := by kernel_rfl
  t9 := by kernel_rfl
  t22 := by kernel_rfl
  t24 := by kernel_rfl
  fa24_0 _ _ := by kernel_rfl
  fa24_1 _ _ := by kernel_rfl
  fa24_2 _ _ := by kernel_rfl
  t26 := by kernel_rfl
  fa26_0 _ _ := by kernel_rfl
  fa26_1 _ _ := by kernel_rfl
  fa26_2 _ _ := by kernel_rfl
  fa26_3 _ _ := by kernel_rfl
  t31 := by kernel_rfl
  t38 := by kernel_rfl
  t39 := by kernel_rfl
  t43 := by kernel_rfl
  t46 := by kernel_rfl
  t47 := by kernel_rfl
  t49 := by kernel_rfl
  fa49_0 _ _ := by kernel_rfl
  fa49_1 _ _ := by kernel_rfl
  fa49_2 _ _ := by kernel_rfl
  fa49_3 _ _ := by kernel_rfl
  fa49_4 _ _ := by kernel_rfl
  t50 := by kernel_rfl
theorem S.Ty.n {tb} (T : S.Ty tb) : ElT tb 46 3 := ⟨⟨_, T.t46, rfl⟩, ⟨_, T.t3, rfl, rfl, by decide⟩⟩
theorem S.Ty.s {tb} (T : S.Ty tb) : ElT tb 47 9 := ⟨⟨_, T.t47, rfl⟩, ⟨_, T.t9, rfl, rfl, by decide⟩⟩
theorem TS {tb} (T : S.Ty tb) : type_of% (And.intro T.t3 <| And.intro T.t4 <| And.intro T.t9 <| And.intro T.t22 <| And.intro T.t24 <| And.intro T.fa24_0 <| And.intro T.fa24_1 <| And.intro T.fa24_2 <| And.intro T.t26 <| And.intro T.fa26_0 <| And.intro T.fa26_1 <| And.intro T.fa26_2 <| And.intro T.fa26_3 <| And.intro T.t31 <| And.intro T.t38 <| And.intro T.t39 <| And.intro T.t43 <| And.intro T.t46 <| And.intro T.t47 <| And.intro T.t49 <| And.intro T.fa49_0 <| And.intro T.fa49_1 <| And.intro T.fa49_2 <| And.intro T.fa49_3 <| And.intro T.fa49_4 T.t50) :=
  And.intro T.t3 <| And.intro T.t4 <| And.intro T.t9 <| And.intro T.t22 <| And.intro T.t24 <| And.intro T.fa24_0 <| And.intro T.fa24_1 <| And.intro T.fa24_2 <| And.intro T.t26 <| And.intro T.fa26_0 <| And.intro T.fa26_1 <| And.intro T.fa26_2 <| And.intro T.fa26_3 <| And.intro T.t31 <| And.intro T.t38 <| And.intro T.t39 <| And.intro T.t43 <| And.intro T.t46 <| And.intro T.t47 <| And.intro T.t49 <| And.intro T.fa49_0 <| And.intro T.fa49_1 <| And.intro T.fa49_2 <| And.intro T.fa49_3 <| And.intro T.fa49_4 T.t50
end Go.Mx

namespace Go.Mx
open Go.Proofs
structure S.Bd (tb : Nat → Option TI) : Prop where
  r : buildA tb 49 [(4, .b true)] = some (.agg [.nils, .nils, .b false, .i .i64 0, .b true])
  m : buildA tb 49 [(2, .b true), (4, .b true)] = some (.agg [.nils, .nils, .b true, .i .i64 0, .b true])
  k (n : Int) : buildA tb 49 [(2, .b true), (3, .i .i64 n)] = some (.agg [.nils, .nils, .b true, .i .i64 n, .b false])
set_option maxRecDepth 100000
theorem S.bd : S.Bd S.tb where
  r := by kernel_rfl
  m := by kernel_rfl
  k _ := by kernel_rfl
end Go.Mx

/- The calls: each by a run of the executor. -/
namespace Go.Mx
open Go.Proofs
def S.ls : List Lf := [.int .i64, .int .i64, .sl [.bool], .int .i64, .int .i64, .sl [.bool], .int .i64, .int .i64, .sl [.bool], .int .i64, .int .i64, .sl [.bool]]
/-- The closures over results: what each sees. -/
def S.tabL : List (Nat × List Lf) := [(9, [.int .i64, .int .i64, .sl [.bool]]), (13, [.int .i64, .int .i64, .sl [.bool]]), (14, [.int .i64, .int .i64, .sl [.bool]]), (15, [.int .i64, .int .i64, .sl [.bool]]), (18, [.int .i64, .int .i64, .sl [.bool]]), (21, [.int .i64, .int .i64, .sl [.bool]]), (24, [.int .i64, .int .i64, .sl [.bool]])]
def S.tabf (g : Nat) : Option (List Lf) := look S.tabL g
def S.Tab (g : Nat) (ls : List Lf) : Prop := S.tabf g = some ls
def S.nc (g : Nat) : Bool := !(Nat.beq g 25 || Nat.beq g 113 || Nat.beq g 177)
theorem S.htab (g : Nat) (rl : List Lf) (h : S.tabf g = some rl) : S.Tab g rl ∧ rl.length ≤ 1000 ∧ wides rl ≤ 1000 ∧ noSs rl = true := by
  refine ⟨h, ?_⟩
  have h2 := look_mem h
  simp only [S.tabL, List.mem_cons, Prod.mk.injEq, List.not_mem_nil, or_false] at h2
  rcases h2 with ⟨rfl, rfl⟩ | ⟨rfl, rfl⟩ | ⟨rfl, rfl⟩ | ⟨rfl, rfl⟩ | ⟨rfl, rfl⟩ | ⟨rfl, rfl⟩ | ⟨rfl, rfl⟩
  · exact ⟨by decide, by simp [wides, wide1], rfl⟩
  · exact ⟨by decide, by simp [wides, wide1], rfl⟩
  · exact ⟨by decide, by simp [wides, wide1], rfl⟩
  · exact ⟨by decide, by simp [wides, wide1], rfl⟩
  · exact ⟨by decide, by simp [wides, wide1], rfl⟩
  · exact ⟨by decide, by simp [wides, wide1], rfl⟩
  · exact ⟨by decide, by simp [wides, wide1], rfl⟩
end Go.Mx
