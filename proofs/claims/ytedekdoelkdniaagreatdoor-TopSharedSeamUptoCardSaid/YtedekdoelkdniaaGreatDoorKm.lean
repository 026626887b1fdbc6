/- The types; the calls' shapes. -/
import Derived.KernelRfl
import Derived.Test.YtedekdoelkdniaaGreatDoorKi
import Derived.Test.YtedekdoelkdniaaGreatDoorKl
set_option linter.all false
namespace Go.Mx
open Go.Proofs
noncomputable def S.d23 : TypeDesc := ((S.tb 23).map (·.d)).getD .bool
noncomputable def S.d27 : TypeDesc := ((S.tb 27).map (·.d)).getD .bool
noncomputable def S.d39 : TypeDesc := ((S.tb 39).map (·.d)).getD .bool
noncomputable def S.d40 : TypeDesc := ((S.tb 40).map (·.d)).getD .bool
noncomputable def S.d54 : TypeDesc := ((S.tb 54).map (·.d)).getD .bool
structure S.Ty (tb : Nat → Option TI) : Prop where
  t3 : tb 3 = some ⟨.int .i64, 1, 8, .i .i64 0, false, true, true⟩
  t4 : tb 4 = some ⟨.bool, 1, 1, .b false, false, true, true⟩
  t9 : tb 9 = some ⟨.string, 1, 16, .s [], false, true, true⟩
  t23 : tb 23 = some ⟨S.d23, 4, 32, .agg [.i .i64 0, .i .i64 0, .i .i64 0, .i .i64 0], true, true, true⟩
  fa23_0 (b o) : fieldAddrA tb 23 (.p b o) 0 = some (.p b (o + 0))
  fa23_1 (b o) : fieldAddrA tb 23 (.p b o) 1 = some (.p b (o + 1))
  fa23_2 (b o) : fieldAddrA tb 23 (.p b o) 2 = some (.p b (o + 2))
  fa23_3 (b o) : fieldAddrA tb 23 (.p b o) 3 = some (.p b (o + 3))
  t24 : tb 24 = some ⟨.slice 3, 1, 24, .nils, false, true, false⟩
  t25 : tb 25 = some ⟨.slice 61, 1, 24, .nils, false, true, false⟩
  t27 : tb 27 = some ⟨S.d27, 11, 136, .agg [.i .i64 0, .i .i64 0, .i .i64 0, .i .i64 0, .i .i64 0, .i .i64 0, .i .i64 0, .i .i64 0, .nils, .nils, .nils], true, true, false⟩
  fa27_0 (b o) : fieldAddrA tb 27 (.p b o) 0 = some (.p b (o + 0))
  fa27_1 (b o) : fieldAddrA tb 27 (.p b o) 1 = some (.p b (o + 4))
  fa27_2 (b o) : fieldAddrA tb 27 (.p b o) 2 = some (.p b (o + 5))
  fa27_3 (b o) : fieldAddrA tb 27 (.p b o) 3 = some (.p b (o + 6))
  fa27_4 (b o) : fieldAddrA tb 27 (.p b o) 4 = some (.p b (o + 7))
  fa27_5 (b o) : fieldAddrA tb 27 (.p b o) 5 = some (.p b (o + 8))
  fa27_6 (b o) : fieldAddrA tb 27 (.p b o) 6 = some (.p b (o + 9))
  fa27_7 (b o) : fieldAddrA tb 27 (.p b o) 7 = some (.p b (o + 10))
  t32 : tb 32 = some ⟨.slice 39, 1, 24, .nils, false, true, false⟩
  t39 : tb 39 = some ⟨S.d39, 1, 8, .nilf, false, true, false⟩
  t40 : tb 40 = some ⟨S.d40, 1, 8, .nilf, false, true, false⟩
  t49 : tb 49 = some ⟨.slice 40, 1, 24, .nils, false, true, false⟩
  t52 : tb 52 = some ⟨.slice 9, 1, 24, .nils, false, true, false⟩
  t54 : tb 54 = some ⟨S.d54, 5, 72, .agg [.nils, .nils, .b false, .i .i64 0, .b false], true, true, false⟩
  fa54_0 (b o) : fieldAddrA tb 54 (.p b o) 0 = some (.p b (o + 0))
  fa54_1 (b o) : fieldAddrA tb 54 (.p b o) 1 = some (.p b (o + 1))
  fa54_2 (b o) : fieldAddrA tb 54 (.p b o) 2 = some (.p b (o + 2))
  fa54_3 (b o) : fieldAddrA tb 54 (.p b o) 3 = some (.p b (o + 3))
  fa54_4 (b o) : fieldAddrA tb 54 (.p b o) 4 = some (.p b (o + 4))
  t55 : tb 55 = some ⟨.slice 54, 1, 24, .nils, false, true, false⟩
  t61 : tb 61 = some ⟨.array 2 3, 2, 16, .agg [.i .i64 0, .i .i64 0], true, true, true⟩
set_option maxRecDepth 100000
theorem S.ty : S.Ty S.tb where
  t3 := by kernel_rfl
  t4 := by kernel_rfl
  t9 := by kernel_rfl
  t23 := by kernel_rfl
  fa23_0 _ _ := by kernel_rfl
  fa23_1 _ _ := by kernel_rfl
  fa23_2 _ _ := by kernel_rfl
  fa23_3 _ _ := by kernel_rfl
  t24 := by kernel_rfl
  t25 := by kernel_rfl
  t27 := by kernel_rfl
  fa27_0 _ _ := by kernel_rfl
  fa27_1 _ _ := by kernel_rfl
  fa27_2 _ _ := by kernel_rfl
  fa27_3 _ _ := by kernel_rfl
  fa27_4 _ _ := by kernel_rfl
  fa27_5 _ _ := by kernel_rfl
  fa27_6 _ _ := by kernel_rfl
  fa27_7 _ _ := by kernel_rfl
  t32 := by kernel_rfl
  t39 := by kernel_rfl
  t40 := by kernel_rfl
  t49 := by kernel_rfl
  t52 := by kernel_rfl
  t54 := by kernel_rfl
  fa54_0 _ _ := by kernel_rfl
  fa54_1 _ _ := by kernel_rfl
  fa54_2 _ _ := by kernel_rfl
  fa54_3 _ _ := by kernel_rfl
  fa54_4 _ _ := by kernel_rfl
  t55 := by kernel_rfl
  t61 := by kernel_rfl
theorem S.Ty.n {tb} (T : S.Ty tb) : ElT tb 24 3 := ⟨⟨_, T.t24, rfl⟩, ⟨_, T.t3, rfl, rfl, by decide⟩⟩
theorem S.Ty.s {tb} (T : S.Ty tb) : ElT tb 52 9 := ⟨⟨_, T.t52, rfl⟩, ⟨_, T.t9, rfl, rfl, by decide⟩⟩
theorem TS {tb} (T : S.Ty tb) : type_of% (And.intro T.t3 <| And.intro T.t4 <| And.intro T.t9 <| And.intro T.t23 <| And.intro T.fa23_0 <| And.intro T.fa23_1 <| And.intro T.fa23_2 <| And.intro T.fa23_3 <| And.intro T.t24 <| And.intro T.t25 <| And.intro T.t27 <| And.intro T.fa27_0 <| And.intro T.fa27_1 <| And.intro T.fa27_2 <| And.intro T.fa27_3 <| And.intro T.fa27_4 <| And.intro T.fa27_5 <| And.intro T.fa27_6 <| And.intro T.fa27_7 <| And.intro T.t32 <| And.intro T.t39 <| And.intro T.t40 <| And.intro T.t49 <| And.intro T.t52 <| And.intro T.t54 <| And.intro T.fa54_0 <| And.intro T.fa54_1 <| And.intro T.fa54_2 <| And.intro T.fa54_3 <| And.intro T.fa54_4 <| And.intro T.t55 T.t61) :=
  And.intro T.t3 <| And.intro T.t4 <| And.intro T.t9 <| And.intro T.t23 <| And.intro T.fa23_0 <| And.intro T.fa23_1 <| And.intro T.fa23_2 <| And.intro T.fa23_3 <| And.intro T.t24 <| And.intro T.t25 <| And.intro T.t27 <| And.intro T.fa27_0 <| And.intro T.fa27_1 <| And.intro T.fa27_2 <| And.intro T.fa27_3 <| And.intro T.fa27_4 <| And.intro T.fa27_5 <| And.intro T.fa27_6 <| And.intro T.fa27_7 <| And.intro T.t32 <| And.intro T.t39 <| And.intro T.t40 <| And.intro T.t49 <| And.intro T.t52 <| And.intro T.t54 <| And.intro T.fa54_0 <| And.intro T.fa54_1 <| And.intro T.fa54_2 <| And.intro T.fa54_3 <| And.intro T.fa54_4 <| And.intro T.t55 T.t61
end Go.Mx

namespace Go.Mx
open Go.Proofs
structure S.Bd (tb : Nat → Option TI) : Prop where
  r : buildA tb 54 [(4, .b true)] = some (.agg [.nils, .nils, .b false, .i .i64 0, .b true])
  m : buildA tb 54 [(2, .b true), (4, .b true)] = some (.agg [.nils, .nils, .b true, .i .i64 0, .b true])
  k (n : Int) : buildA tb 54 [(2, .b true), (3, .i .i64 n)] = some (.agg [.nils, .nils, .b true, .i .i64 n, .b false])
set_option maxRecDepth 100000
theorem S.bd : S.Bd S.tb where
  r := by kernel_rfl
  m := by kernel_rfl
  k _ := by kernel_rfl
end Go.Mx

namespace Go.Mx
open Go.Proofs
def S.ls : List Lf := [.int .i64, .int .i64, .int .i64, .int .i64, .int .i64, .int .i64, .int .i64, .int .i64, .sl [.int .i64], .sl [.int .i64], .sl [.int .i64, .int .i64]]
def S.tabL : List (Nat × List Lf) := [(9, [.sl [.int .i64]]), (13, [.sl [.int .i64, .int .i64]]), (17, [.sl [.int .i64, .int .i64]]), (22, [.sl [.int .i64]]), (23, [.sl [.int .i64]])]
def S.tabf (g : Nat) : Option (List Lf) := look S.tabL g
def S.Tab (g : Nat) (ls : List Lf) : Prop := S.tabf g = some ls
def S.nc (g : Nat) : Bool := !(Nat.beq g 24 || Nat.beq g 104 || Nat.beq g 168)
theorem S.htab (g : Nat) (rl : List Lf) (h : S.tabf g = some rl) : S.Tab g rl ∧ rl.length ≤ 1000 ∧ wides rl ≤ 1000 ∧ noSs rl = true := by
  refine ⟨h, ?_⟩
  have h2 := look_mem h
  simp only [S.tabL, List.mem_cons, Prod.mk.injEq, List.not_mem_nil, or_false] at h2
  rcases h2 with ⟨rfl, rfl⟩ | ⟨rfl, rfl⟩ | ⟨rfl, rfl⟩ | ⟨rfl, rfl⟩ | ⟨rfl, rfl⟩
  · exact ⟨by decide, by simp [wides, wide1], rfl⟩
  · exact ⟨by decide, by simp [wides, wide1], rfl⟩
  · exact ⟨by decide, by simp [wides, wide1], rfl⟩
  · exact ⟨by decide, by simp [wides, wide1], rfl⟩
  · exact ⟨by decide, by simp [wides, wide1], rfl⟩
def S.mac0 : Az.Dc.Tr := .nd (.nd (.nd (.nd (.nd (.lf [0, 0]) (.lf [3, 5])) (.lf [1, 0, 0, 0, 0, 1, 1, 0])) (.nd (.nd (.lf [2, 1, 2]) (.lf [2, 2, 0, 3])) (.lf [1, 0, 0, 0, 0, 1, 1, 6]))) (.nd (.nd (.nd (.lf [1, 3, 2]) (.lf [12, 1, 0, 0, 0, 0, 1, 1, 13])) (.lf [34, 1, 1])) (.nd (.lf [1, 3, 2, 2, 2]) (.lf [0, 1, 6, 2])))) (.nd (.nd (.nd (.nd (.lf [1, 1, 2]) (.lf [2, 2, 0, 2])) (.lf [2, 0, 2])) (.nd (.nd (.lf [1, 27]) (.lf [14, 2, 0, 0, 0, 0, 1, 17, 2, 0, 0, 0, 0, 1, 18])) (.lf [1, 1, 0, 0, 0, 0, 1, 0, 0, 0, 0, 0, 1, 1]))) (.nd (.nd (.nd (.lf [1, 1, 0]) (.lf [28, 2, 1, 2])) (.lf [1, 0, 0, 0, 0, 1, 1, 9])) (.nd (.lf [1, 2, 0, 32, 36, 33, 61, 1]) (.lf [0, 4, 0, 5, 0, 0, 0]))))
def S.mac1 : Az.Dc.Tr := .nd (.nd (.nd (.nd (.nd (.lf [0, 1]) (.lf [1, 2, 3, 2])) (.lf [0, 62, 63, 63, 63, 63, 63, 63, 63, 63, 63, 63, 63, 15, 2, 2])) (.nd (.nd (.lf [1, 3, 1, 3, 2]) (.lf [9, 1, 27, 1, 2, 0, 0, 0, 1, 1, 11])) (.lf [4, 1, 0, 0, 1]))) (.nd (.nd (.nd (.lf [0, 2]) (.lf [0, 0, 0, 0, 1, 0, 0, 0, 0, 0, 1, 0, 0, 0, 0, 0, 1, 1])) (.lf [9, 1, 2, 0, 0, 0, 1, 1, 11, 1, 8, 3, 2, 0, 2])) (.nd (.lf [6, 0]) (.lf [6, 0, 0, 0, 0, 0, 0])))) (.nd (.nd (.nd (.nd (.lf [1, 3, 0]) (.lf [2, 3, 0])) (.lf [1, 1, 2, 0])) (.nd (.lf [1, 0, 0, 0, 0, 1, 3]) (.lf [1, 2, 2, 19]))) (.nd (.nd (.nd (.lf [32, 32, 40, 52, 52, 52, 38, 58, 1]) (.lf [34, 1])) (.lf [1, 0, 0, 0, 0, 1, 2, 0, 1])) (.nd (.lf [3, 4]) (.lf [1, 4, 0, 4]))))
def S.mac2 : Az.Dc.Tr := .nd (.nd (.nd (.nd (.nd (.lf [1, 0, 0, 0, 0, 0]) (.lf [26, 2, 1, 2, 13, 1, 15])) (.lf [2, 0, 0, 0, 0, 1, 3])) (.nd (.nd (.lf [1, 1, 4]) (.lf [4, 1, 3, 1])) (.lf [1, 0, 0, 0, 0, 1, 1, 0, 1, 0, 0, 0, 0, 1, 1]))) (.nd (.nd (.nd (.lf [1, 0, 0, 0, 0, 1]) (.lf [0, 4, 0, 0, 0, 0, 0])) (.lf [3, 19, 2])) (.nd (.lf [2, 0, 0, 0, 0, 0, 0, 0, 0, 1, 1]) (.lf [1, 2, 0, 0, 0, 1, 2, 14, 1, 27])))) (.nd (.nd (.nd (.nd (.lf [1, 2, 0]) (.lf [0, 0, 0, 0, 0, 0, 0, 0, 0, 0, 0, 0, 0, 0, 0, 0])) (.lf [30, 1])) (.nd (.nd (.lf [1, 1, 3]) (.lf [2, 0, 0, 0, 0, 1, 3, 1, 1, 11, 1])) (.lf [51, 15]))) (.nd (.nd (.nd (.lf [4, 1]) (.lf [20, 3])) (.lf [53, 61])) (.nd (.lf [50, 48, 30]) (.lf [24, 1, 26]))))
def S.mac3 : Az.Dc.Tr := .nd (.nd (.nd (.nd (.nd (.lf [0, 1, 1]) (.lf [1, 0, 0, 0, 0, 0, 1, 0, 0, 0, 0, 0, 1, 0, 0, 0, 0, 0, 1, 0, 0, 0, 0, 0, 1, 1])) (.lf [8, 1, 10])) (.nd (.nd (.lf [2, 2, 0, 62, 63, 63, 63, 63, 63, 63, 63, 63, 63, 63, 63, 15]) (.lf [1, 2, 0, 0, 0, 1, 2, 11, 1, 29, 1, 2, 0, 0, 0, 1, 1, 13])) (.lf [1, 1, 0, 0, 0, 0, 32, 32, 36, 42, 42, 42, 35, 29]))) (.nd (.nd (.nd (.lf [46, 62, 1]) (.lf [0, 4, 2])) (.lf [0, 4, 0, 1, 4])) (.nd (.lf [1, 0, 0, 0, 0, 1, 0, 0, 0, 0, 0, 1, 0, 0, 0, 0, 0]) (.lf [1, 2, 0, 46, 62, 1, 7, 1, 1, 2])))) (.nd (.nd (.nd (.nd (.lf [1, 1, 0, 0, 0, 0, 1, 1]) (.lf [2, 0, 0, 0, 0, 2, 0, 2])) (.lf [10, 2, 1, 2])) (.nd (.lf [1, 0, 0, 0, 0, 1, 1, 11]) (.lf [1, 2, 0, 0, 0, 1, 1, 16, 1, 2, 0, 0, 0, 1, 1]))) (.nd (.nd (.nd (.lf [1, 2, 0, 46, 62, 1]) (.lf [10, 1, 0, 0, 0, 0, 1, 1, 11])) (.lf [3, 0])) (.nd (.lf [0, 0, 0, 1, 0, 2, 0, 0, 0, 1]) (.lf [1, 3, 1, 20]))))
def S.mac4 : Az.Dc.Tr := .nd (.nd (.nd (.nd (.nd (.lf [1, 1]) (.lf [1, 0, 0, 0, 0, 1, 1, 19])) (.lf [1, 0, 0])) (.nd (.nd (.lf [1, 8]) (.lf [12, 2, 0, 1, 0, 62, 63, 63, 63, 63, 63, 63, 63, 63, 63, 63, 63, 15, 2, 2])) (.lf [1, 2, 0, 46, 62, 1, 10, 1, 1, 2]))) (.nd (.nd (.nd (.lf [1, 0, 0, 0, 0, 1, 2]) (.lf [2, 0, 0, 0, 0, 0, 0, 0, 0, 0, 0, 0, 0])) (.lf [5, 4])) (.nd (.lf [32, 36, 33, 61]) (.lf [5, 2, 4, 0, 4, 0, 0, 0, 0, 0, 1, 1, 5, 2, 4, 0, 4, 0, 0, 0, 0, 0, 1, 1])))) (.nd (.nd (.nd (.nd (.lf [0, 0, 0, 0, 1, 0, 0, 0, 0, 0, 1, 0, 0, 0, 0, 0]) (.lf [3, 1, 3])) (.lf [1, 1, 20])) (.nd (.nd (.lf [2, 1, 3, 0]) (.lf [2, 0, 0, 0, 0, 1, 3, 1, 1, 7, 1])) (.lf [17, 2, 0, 0, 0, 0, 1, 18]))) (.nd (.nd (.nd (.lf [50, 1, 1]) (.lf [45, 23, 2])) (.lf [6, 7, 7, 0, 1, 8, 2])) (.nd (.lf [1, 4, 2]) (.lf [1, 0, 0, 0, 0, 0, 1, 0, 0, 0, 0, 0, 1, 0, 0, 0, 0, 0, 1, 0, 0, 0, 0, 0, 1, 0, 0, 0, 0, 0, 1, 0, 0, 0, 0, 0, 1, 0, 0, 0, 0, 0, 1, 0, 0, 0, 0, 0]))))
def S.mac5 : Az.Dc.Tr := .nd (.nd (.nd (.nd (.nd (.lf [0, 4]) (.lf [0, 1, 0, 4, 0, 1])) (.lf [4, 0, 0])) (.nd (.nd (.lf [2, 0, 1]) (.lf [1, 2, 0, 0, 0, 1, 2, 14, 1, 27, 1, 2, 0, 0, 0, 1, 1, 16, 1, 2, 0, 0, 0, 1, 1, 0])) (.lf [1, 2, 1, 1, 5, 1, 0, 0, 0, 0, 1, 1]))) (.nd (.nd (.nd (.lf [1, 29]) (.lf [33, 1, 1])) (.lf [0, 0, 0, 0, 1, 0, 0, 0, 0, 0, 1, 0, 0, 0, 0, 0, 1, 0, 0, 0, 0, 0, 1, 0, 0, 0, 0, 0, 1, 3, 2, 1, 13, 1, 31, 1, 0, 0, 0, 0, 1, 1, 7, 1, 4, 6, 0, 0, 0, 0, 1, 0, 0, 0, 0, 0, 1, 0, 0, 0, 0, 0, 1, 1, 2, 1, 0, 0, 0, 0, 1, 0, 0, 0, 0, 0, 1, 3, 2, 1, 13, 1, 31, 1, 0, 0, 0, 0, 1, 0, 4, 8, 0, 0, 0, 0, 1, 0, 0, 0, 0, 0, 1, 0, 0, 0, 0, 0, 1, 1, 2, 1, 0, 0, 0, 0, 1, 0, 0, 0, 0, 0, 1, 3, 2, 1, 13, 1, 31, 1, 0, 0, 0, 0, 1, 0, 4, 10, 0, 0, 0, 0, 1, 0, 0, 0, 0, 0, 1, 0, 0, 0, 0, 0, 1, 0, 0, 0, 0, 0, 1, 0, 0, 0, 0, 0, 1, 3, 0, 1, 16, 1, 29, 1, 0, 0, 0, 0, 1, 1, 5, 1, 4, 12])) (.nd (.lf [2, 1, 4]) (.lf [0, 5, 0, 0, 0])))) (.nd (.nd (.nd (.nd (.lf [0, 0, 0, 0, 1, 0, 0, 0, 0, 0, 1, 0, 0, 0, 0, 0, 1, 0, 0, 0, 0, 0, 1, 0, 0, 0, 0, 0]) (.lf [2, 2, 3, 4])) (.lf [6, 7])) (.nd (.lf [15, 1, 0]) (.lf [1, 2, 0, 46, 62, 1, 26, 1, 1, 2]))) (.nd (.nd (.nd (.lf [1, 2, 2]) (.lf [2, 0, 42])) (.lf [23, 2])) (.nd (.lf [1, 0, 0, 0, 0, 32, 32, 36, 42, 42, 42, 35, 29, 2]) (.lf [1, 2, 17, 1]))))
def S.mac6 : Az.Dc.Tr := .nd (.nd (.nd (.nd (.nd (.lf [1, 3]) (.lf [0, 4, 0, 4, 0, 0, 0, 0, 0, 1, 0, 1, 1, 1, 1, 2, 0, 0, 0, 1, 0, 2, 0, 0, 0, 1, 0, 4, 0, 4, 0, 0, 0, 0, 0, 1, 0, 1, 1, 1, 1, 2, 0, 0, 0, 1, 0, 2, 0, 0, 0, 1])) (.lf [26, 2, 1, 2])) (.nd (.nd (.lf [2, 2, 2]) (.lf [1, 4, 0, 0, 0, 0, 0, 1, 0, 4, 33, 50, 48, 30, 0, 0, 0, 0, 1, 0, 0, 0, 0, 0, 1, 1])) (.lf [12, 1, 0, 0, 0, 0, 1, 1]))) (.nd (.nd (.nd (.lf [3, 1]) (.lf [1, 2, 1, 1, 5, 1, 0, 0, 0, 0, 1, 1, 3])) (.lf [1, 2, 0, 0, 0, 1, 1, 16])) (.nd (.lf [24, 1]) (.lf [1, 0, 0, 0, 0, 0, 1])))) (.nd (.nd (.nd (.nd (.lf [1, 2, 0, 0, 0, 1, 1]) (.lf [1, 1, 0, 40, 31])) (.lf [0, 0, 0, 0, 0, 0])) (.nd (.lf [2, 0]) (.lf [13, 1, 15]))) (.nd (.nd (.nd (.lf [0, 4, 0, 0, 0, 0, 0, 1]) (.lf [1, 2, 2, 19, 1, 1, 2])) (.lf [1, 0, 0, 0, 0, 1, 1, 23])) (.nd (.lf [1, 1, 2, 0, 0, 0, 1, 1]) (.lf [11, 0, 0, 6, 2, 1, 3, 1, 2, 2, 1, 3, 1, 3, 2, 10, 0, 0, 50]))))
def S.mac7 : Az.Dc.Tr := .nd (.nd (.nd (.nd (.nd (.lf [0, 0, 0, 1, 1]) (.lf [1, 2, 0, 46, 62, 1, 7, 1, 1, 2, 0, 1, 6])) (.lf [22, 1])) (.nd (.nd (.lf [6, 1]) (.lf [0, 0, 48])) (.lf [17, 2]))) (.nd (.nd (.nd (.lf [0, 0, 0, 1, 2]) (.lf [1, 1, 2, 0, 0, 0, 1, 2, 0, 1])) (.lf [1, 0, 8])) (.nd (.lf [1, 1, 3, 1]) (.lf [46, 62, 1, 5])))) (.nd (.nd (.nd (.nd (.lf [5, 2]) (.lf [1, 0, 0, 0, 0, 0, 1, 0, 0, 0, 0, 0, 1, 0, 0, 0, 0, 0, 1, 0, 0, 0, 0, 0, 1, 0, 0, 0, 0, 0, 1, 0, 0, 0, 0, 0])) (.lf [1, 2, 1, 1, 5])) (.nd (.lf [2, 3]) (.lf [1, 2, 0, 0, 0, 1, 1, 13]))) (.nd (.nd (.nd (.lf [1, 0, 0, 0, 0, 0, 1, 1]) (.lf [20, 1, 8])) (.lf [41, 1, 1])) (.nd (.lf [0, 0, 6, 2]) (.lf [25, 1]))))
def S.mac8 : Az.Dc.Tr := .nd (.nd (.nd (.nd (.nd (.lf [0, 0, 0, 0]) (.lf [59, 5])) (.lf [4, 4])) (.nd (.nd (.lf [0, 4, 0, 0, 0, 0, 0, 1, 1]) (.lf [0, 1, 0, 2, 1])) (.lf [0, 4, 0, 4, 0, 4, 0, 4]))) (.nd (.nd (.nd (.lf [3, 2]) (.lf [2, 1, 0, 62, 63, 63, 63, 63, 63, 63, 63, 63, 63, 63, 63, 15])) (.lf [24, 2])) (.nd (.lf [3, 1, 0, 63, 63, 63, 63, 63, 63, 63, 63, 63, 63, 63, 63, 15, 1, 0, 62, 63, 63, 63, 63, 63, 63, 63, 63, 63, 63, 63, 15]) (.lf [41, 1, 1, 29])))) (.nd (.nd (.nd (.nd (.lf [1, 1, 0, 0, 0, 0]) (.lf [2, 2, 0, 32, 32, 40, 52, 52, 52, 38, 58, 1])) (.lf [1, 3, 1, 5, 2])) (.nd (.nd (.lf [20, 1]) (.lf [9, 2, 4, 0, 0, 0, 1, 1])) (.lf [22, 2]))) (.nd (.nd (.nd (.lf [1, 0, 0, 0, 0, 1, 1, 5]) (.lf [1, 2, 0, 46, 62, 1, 28, 1, 1, 2])) (.lf [2, 1, 0, 0, 0, 0, 1, 1])) (.nd (.lf [11, 1]) (.lf [3, 1, 0, 63, 63, 63, 63, 63, 63, 63, 63, 63, 63, 63, 63, 15, 1, 0, 62, 63, 63, 63, 63, 63, 63, 63, 63, 63, 63, 63, 15, 1]))))
def S.mac9 : Az.Dc.Tr := .nd (.nd (.nd (.nd (.nd (.lf [1, 0, 0, 0, 0, 1, 1]) (.lf [1, 3, 0, 9])) (.lf [4, 0, 4, 0, 0, 0, 0, 0, 1, 1])) (.nd (.nd (.lf [1, 2, 0, 0, 0, 1, 2]) (.lf [12, 2, 0, 0, 0, 0, 1, 15, 2, 0, 0, 0, 0, 1, 16])) (.lf [0, 0, 0, 0, 0, 1, 1]))) (.nd (.nd (.nd (.lf [0, 0, 0, 0, 1, 1]) (.lf [6, 7, 7, 0, 1, 8, 2, 7, 1])) (.lf [2, 0, 0, 0, 0, 0, 0, 0, 0, 1, 1, 9, 1, 0, 0, 0, 0, 1, 1, 11, 1, 0, 0, 0, 0, 1, 3, 8, 1, 50, 1, 1, 51, 1, 1, 0, 0, 0, 0, 1, 1, 8, 1, 0, 0, 0, 0, 1, 2, 2, 1, 13, 1, 0, 0, 0, 0, 1, 1, 7, 1, 0, 0, 0, 0, 1, 6, 3, 1, 8, 1, 19, 1, 32, 1, 1, 50, 1, 1, 51, 1, 1, 0, 0, 0, 0, 1, 2, 0, 1, 16, 1, 0, 0, 0, 0, 1, 1, 5, 1, 0, 0, 0, 0, 1, 6, 1, 1, 8, 1, 20, 1, 30, 1, 50, 1, 1, 51, 1, 1, 0, 0, 0, 0, 1, 2, 3, 1, 19, 1, 0, 0, 0, 0, 1, 2, 1, 1, 20, 1, 4, 2, 0, 0, 0, 0, 1, 0, 0, 0, 0, 0, 1, 0, 0, 0, 0, 0, 1, 0, 0, 0, 0, 0, 1, 0, 0, 0, 0, 0, 1, 3, 2, 1, 13, 1, 31, 1, 0, 0, 0, 0, 1, 1, 7, 1, 4, 4])) (.nd (.lf [1, 3, 1, 6, 2]) (.lf [7, 1, 0])))) (.nd (.nd (.nd (.nd (.lf [1, 0, 0, 0, 0, 1, 0, 0, 0, 0, 0]) (.lf [44, 62, 1, 2, 1, 3])) (.lf [62, 1, 2])) (.nd (.lf [1, 0, 0, 0, 0, 32, 32, 36, 42, 42, 42, 35, 29]) (.lf [2, 1, 3, 0, 32, 61, 3, 2, 3, 19, 2, 1, 3]))) (.nd (.nd (.nd (.lf [50, 1, 1, 51]) (.lf [1, 1, 3, 0])) (.lf [1, 4, 0, 4, 0, 0, 0, 0, 0, 1, 1])) (.nd (.lf [17, 1]) (.lf [1, 4, 4]))))
def S.mac10 : Az.Dc.Tr := .nd (.nd (.nd (.nd (.nd (.lf [1, 2]) (.lf [0, 4, 0, 1, 4, 0, 4, 0, 4, 0, 0, 0, 0, 0, 1, 0, 4, 0, 5, 4, 0, 0])) (.lf [1, 1, 8])) (.nd (.nd (.lf [0, 0, 1]) (.lf [0, 4, 0, 0, 0, 0, 0, 1, 0, 4, 33, 50, 48, 30, 0, 0, 0, 0, 1, 0, 0, 0, 0, 0, 1, 1])) (.lf [1, 0, 0, 0, 0, 1, 1, 21]))) (.nd (.nd (.nd (.lf [46, 62]) (.lf [0, 1, 4, 0, 0, 0, 0, 0, 1, 1])) (.lf [1, 1, 0, 0, 0, 0, 1, 1, 0])) (.nd (.lf [40, 31]) (.lf [14, 2, 0, 1])))) (.nd (.nd (.nd (.nd (.lf [2, 0, 0, 0, 0]) (.lf [1, 2, 0, 21, 1, 23, 0, 39, 31])) (.lf [1, 1, 8, 1])) (.nd (.nd (.lf [8, 2]) (.lf [9, 3, 5, 0, 0, 0, 1, 1])) (.lf [2, 2, 3, 0]))) (.nd (.nd (.nd (.lf [0, 1, 4]) (.lf [26, 2, 1, 2, 8, 1, 10])) (.lf [10, 1])) (.nd (.lf [9, 2]) (.lf [6, 4, 4, 0, 1, 5, 2, 4, 1]))))
def S.mac11 : Az.Dc.Tr := .nd (.nd (.nd (.nd (.nd (.lf [2, 1]) (.lf [1, 2, 0, 2])) (.lf [2, 0, 0, 0, 1, 1])) (.nd (.nd (.lf [1, 2, 0, 32, 32, 40, 52, 52, 52, 38, 58, 1]) (.lf [12, 1, 25, 1, 2, 0, 0, 0, 1, 1, 14, 1, 1, 1, 1, 1, 2, 0, 0, 0, 1, 1, 9, 1, 2, 0, 0, 0, 1, 1, 11, 1, 8, 3, 2, 0, 2])) (.lf [1, 0, 1]))) (.nd (.nd (.nd (.lf [1, 3, 2, 1]) (.lf [16, 2])) (.lf [0, 0, 6, 2, 1, 3, 1, 2, 2, 1, 3, 1, 3, 2])) (.nd (.lf [0, 1, 5, 2]) (.lf [47, 62])))) (.nd (.nd (.nd (.nd (.lf [8, 1]) (.lf [1, 0, 0, 0, 0, 1, 1, 24])) (.lf [1, 4, 0, 0, 0, 0])) (.nd (.lf [2, 1, 0]) (.lf [1, 2, 0, 0, 0, 1, 1, 14]))) (.nd (.nd (.nd (.lf [0, 4, 0, 4]) (.lf [1, 0, 0, 0, 0, 1, 0, 0, 0, 0, 0, 1, 2])) (.lf [18, 1])) (.nd (.lf [5, 1]) (.lf [19, 1]))))
def S.mac12 : Az.Dc.Tr := .nd (.nd (.nd (.nd (.nd (.lf [1, 0, 0, 0, 0]) (.lf [26, 1, 0, 0, 0, 0, 1, 1])) (.lf [1, 1, 2, 0, 0, 0, 1, 2])) (.nd (.nd (.lf [1, 1, 0, 0, 0, 0, 1, 2]) (.lf [1, 1, 0, 2, 1])) (.lf [44, 62, 1, 2]))) (.nd (.nd (.nd (.lf [0, 1, 16]) (.lf [0, 1, 0, 4, 0, 0, 0, 0, 0, 1])) (.lf [32, 61])) (.nd (.lf [1, 3, 1, 2, 2]) (.lf [1, 1, 1, 1, 1, 2, 0, 0, 0, 1, 1, 9, 1, 2, 0, 0, 0, 1, 1, 11, 1, 8, 3, 2, 0, 2])))) (.nd (.nd (.nd (.nd (.lf [1, 0]) (.lf [61, 1, 2, 0, 3, 1, 0, 63, 63, 63, 63, 63, 63, 63, 63, 63, 63, 63, 63, 15, 1, 0, 62, 63, 63, 63, 63, 63, 63, 63, 63, 63, 63, 63, 15, 0])) (.lf [1, 0, 0, 0, 0, 1, 2, 2, 1])) (.nd (.nd (.lf [1, 0, 0, 0, 0, 1, 6]) (.lf [21, 2, 0, 0, 0, 1, 1, 25])) (.lf [58, 60]))) (.nd (.nd (.nd (.lf [2, 0, 0, 0, 0, 1]) (.lf [58, 60, 3])) (.lf [4, 1, 3])) (.nd (.lf [3, 19]) (.lf [14, 1, 3, 0]))))
def S.mac13 : Az.Dc.Tr := .nd (.nd (.nd (.nd (.nd (.lf [2, 2]) (.lf [1, 1, 2, 0, 0, 2])) (.lf [0, 39, 31])) (.nd (.nd (.lf [0, 5]) (.lf [1, 3, 0, 0, 0, 1, 1])) (.lf [7, 1, 0, 0, 1]))) (.nd (.nd (.nd (.lf [6, 2]) (.lf [1, 1, 3, 1, 5, 2])) (.lf [0, 0, 0, 0, 1, 0, 0, 0, 0, 0, 1, 0, 0, 0, 0, 0, 1, 0, 0, 0, 0, 0, 1, 0, 0, 0, 0, 0, 1, 3, 0, 1, 16, 1, 29, 1, 0, 0, 0, 0, 1, 1, 5, 1, 4, 14, 0, 0, 0, 0, 1, 0, 0, 0, 0, 0, 1, 0, 0, 0, 0, 0, 1, 1, 0, 1, 0, 0, 0, 0, 1, 0, 0, 0, 0, 0, 1, 3, 0, 1, 16, 1, 29, 1, 0, 0, 0, 0, 1, 0, 4, 16, 0, 0, 0, 0, 1, 0, 0, 0, 0, 0, 1, 0, 0, 0, 0, 0, 1, 1, 0, 1, 0, 0, 0, 0, 1, 0, 0, 0, 0, 0, 1, 3, 0, 1, 16, 1, 29, 1, 0, 0, 0, 0, 1, 0, 0, 0, 0, 0, 1, 0, 0, 0, 0, 0])) (.nd (.lf [1, 32]) (.lf [0, 2, 0, 0, 0, 1, 1])))) (.nd (.nd (.nd (.nd (.lf [2, 2, 0]) (.lf [5, 1, 22])) (.lf [0, 1, 8, 2])) (.nd (.lf [39, 31]) (.lf [1, 1, 0, 0, 0, 0, 1, 1, 0, 1, 0, 0, 0, 0, 32, 32, 36, 42, 42, 42, 35, 29, 2]))) (.nd (.nd (.nd (.lf [1, 0, 0, 0, 0, 0, 1, 0, 0, 0, 0, 0, 1, 0, 0, 0, 0, 0, 1, 0, 0, 0, 0, 0]) (.lf [1, 2, 52])) (.lf [0, 3, 2])) (.nd (.lf [0, 4, 0, 4, 0, 0, 0, 0, 0, 1, 0, 1, 1]) (.lf [32, 32, 52, 59, 46, 40, 58, 5]))))
def S.mac14 : Az.Dc.Tr := .nd (.nd (.nd (.nd (.nd (.lf [1, 0, 0, 0, 0, 0, 1, 0, 0, 0, 0, 0]) (.lf [8, 0, 0, 0, 0, 1, 1])) (.lf [12, 2, 0, 1])) (.nd (.nd (.lf [3, 1, 0]) (.lf [1, 1, 0, 0, 0, 0, 1, 1, 0, 1, 0, 0, 0, 0, 32, 32, 36, 42, 42, 42, 35, 29, 2, 41, 1, 1, 29, 1, 0, 0, 0, 0, 1, 1])) (.lf [12, 2]))) (.nd (.nd (.nd (.lf [13, 1]) (.lf [1, 0, 0, 0, 0, 1, 2, 4, 1])) (.lf [1, 1, 1, 1])) (.nd (.lf [12, 1]) (.lf [0, 4, 0, 4, 0, 0, 0, 0, 0, 1, 0, 4, 0, 5, 4, 0, 0])))) (.nd (.nd (.nd (.nd (.lf [1, 3, 1]) (.lf [16, 1])) (.lf [0, 1, 6])) (.nd (.lf [7, 1]) (.lf [0, 0, 0, 0, 1, 0, 0, 0, 0, 0, 1, 0, 0, 0, 0, 0, 1, 0, 0, 0, 0, 0, 1, 0, 0, 0, 0, 0, 1, 1]))) (.nd (.nd (.nd (.lf [1, 0, 0, 0, 0, 1, 1, 7]) (.lf [48, 62, 1, 2])) (.lf [6, 4, 4, 0, 1, 5, 2])) (.nd (.lf [21, 1]) (.lf [1, 0, 0, 0, 0, 32, 32, 36, 42, 42, 42, 35, 29, 3]))))
def S.mac15 : Az.Dc.Tr := .nd (.nd (.nd (.nd (.nd (.lf [1, 4]) (.lf [0, 39, 31, 3, 2])) (.lf [1, 0, 0, 0, 0, 1, 1, 11, 1, 0, 0, 0, 0, 1, 3])) (.nd (.nd (.lf [48, 62]) (.lf [14, 2, 0, 1, 0, 62, 63, 63, 63, 63, 63, 63, 63, 63, 63, 63, 63, 15, 2, 2])) (.lf [21, 2, 1, 0]))) (.nd (.nd (.nd (.lf [13, 1, 31]) (.lf [26, 2])) (.lf [1, 0, 0, 0, 0, 1, 1, 8])) (.nd (.lf [6, 2, 2, 0, 1, 3, 2, 2, 2]) (.lf [48, 62, 1, 1])))) (.nd (.nd (.nd (.nd (.lf [0, 0, 0]) (.lf [0, 4, 0, 4, 0, 4, 0, 0, 0, 0, 0, 1, 1])) (.lf [14, 2])) (.nd (.lf [1, 0, 0, 0, 0, 1, 0, 0, 0, 0, 0, 1, 1]) (.lf [1, 1, 3, 2]))) (.nd (.nd (.nd (.lf [32, 32, 36, 42, 42, 42, 35, 29]) (.lf [9, 2, 1, 3, 1])) (.lf [0, 0, 0, 0, 1, 0, 0, 0, 0, 0, 1, 0, 0, 0, 0, 0, 1, 0, 0, 0, 0, 0, 1, 0, 0, 0, 0, 0, 1, 3, 0, 1, 16, 1, 29, 1, 0, 0, 0, 0, 1, 1, 5, 1, 4, 14, 0, 0, 0, 0, 1, 0, 0, 0, 0, 0, 1, 0, 0, 0, 0, 0, 1, 1, 0, 1, 0, 0, 0, 0, 1, 0, 0, 0, 0, 0, 1, 3, 0, 1, 16, 1, 29, 1, 0, 0, 0, 0, 1, 0, 4, 16, 0, 0, 0, 0, 1, 0, 0, 0, 0, 0, 1, 0, 0, 0, 0, 0, 1, 1, 0, 1, 0, 0, 0, 0, 1, 0, 0, 0, 0, 0, 1, 3, 0, 1, 16, 1, 29, 1, 0, 0, 0, 0, 1, 0, 0, 0, 0, 0, 1, 0, 0, 0, 0, 0, 1, 1, 8])) (.nd (.lf [1, 2, 1, 1]) (.lf [29, 1]))))
def S.mac : Az.Dc.Tr := .nd (.nd (.nd (.nd (S.mac0) (S.mac1)) (.nd (S.mac2) (S.mac3))) (.nd (.nd (S.mac4) (S.mac5)) (.nd (S.mac6) (S.mac7)))) (.nd (.nd (.nd (S.mac8) (S.mac9)) (.nd (S.mac10) (S.mac11))) (.nd (.nd (S.mac12) (S.mac13)) (.nd (S.mac14) (S.mac15))))
end Go.Mx
