/- The concrete part of the law is true. -/
import Derived.KernelRfl
import Derived.Test.YtedekdoelkdniaaGreatDoorProg
import Derived.Test.YtedekdoelkdniaaGreatDoorKg
set_option linter.all false
namespace Go.Mx
open Go.Proofs
noncomputable def S.fc (f : Nat) : Option Func := Tryz.prog.funcs[f]?
noncomputable def S.tb (t : Nat) : Option TI := tiOf Tryz.prog t
def S.ct (f : Nat) : Option (List V → Hp → Option (En × Hp)) :=
  if f = 104 then some ctSame else if f = 168 then some (ctBytes 5) else none
set_option maxRecDepth 100000
theorem S.mixed : Tryz.prog.follows .mixedOrders = true := by kernel_rfl
theorem S.tbOk : TbOk Tryz.prog S.tb := fun _ _ h => h
theorem S.names : (Tryz.prog.funcs.toList.all fun fn => !(fn.name == "runtime.NumGoroutine")) = true := by kernel_rfl
theorem S.name {g : Nat} {fn : Func} (h : Tryz.prog.funcs[g]? = some fn) : (fn.name == "runtime.NumGoroutine") = false := by
  have h1 := List.all_eq_true.1 S.names fn (List.mem_of_getElem? (by rw [Array.getElem?_toList]; exact h))
  simpa using h1
theorem S.fcOk : FcOk Tryz.prog S.fc where
  get _ _ h := h
  enter g fn h hb args w := by
    have h1 : Tryz.prog.funcs[g]? = some fn := h
    have h2 := S.name h1
    have h3 : fn.name ≠ "runtime.NumGoroutine" := by simpa using h2
    have h4 : fn.body ≠ none := by intro e; rw [e] at hb; cases hb
    simp [callFunc, h1, h3, h4]
noncomputable def S.f104 : Func := (Tryz.prog.funcs[104]?).getD default
noncomputable def S.f168 : Func := (Tryz.prog.funcs[168]?).getD default
theorem S.g104 : Tryz.prog.funcs[104]? = some S.f104 := by kernel_rfl
theorem S.g168 : Tryz.prog.funcs[168]? = some S.f168 := by kernel_rfl
theorem S.b104 : S.f104.body.isNone = true := by kernel_rfl
theorem S.b168 : S.f168.body.isNone = true := by kernel_rfl
theorem S.n104 : Extern.findNext S.f104 = none := by kernel_rfl
theorem S.n168 : Extern.findNext S.f168 = none := by kernel_rfl
theorem S.x104 : Extern.find S.f104 = some Extern.AbiNoEscape.same := by kernel_rfl
theorem S.x168 : Extern.find S.f168 = some (Extern.BytealgMakeNoZero.makeNoZero S.f168.params #[99]) := by kernel_rfl
theorem S.t86 : Tryz.prog.underlying 99 = some (.slice 5) := by kernel_rfl
theorem S.ctOk : CtOk Tryz.prog S.ct := by
  intro B g k hk args h r M w argsr hr H hA
  unfold S.ct at hk
  split at hk
  · rename_i e; subst e; cases hk
    exact .inr (ctSame_ok S.g104 (S.name S.g104) S.b104 S.n104 S.x104 hr H hA)
  · split at hk <;> cases hk
    rename_i e; subst e
    exact .inr (ctBytes_ok S.g168 (S.name S.g168) S.b168 S.n168 ⟨_, S.x168⟩ S.t86 hr H hA)
theorem S.run44 : isTrue (callD S.tb S.fc S.ct 1000000 100 (.it 24) [] ⟨[], 0⟩) = true := by kernel_rfl
theorem S.alive44 (w : World) : (∀ w, (callFunc 24 #[]).run Tryz.prog w = .ok (.enter 24 #[]) w) ∧ CallsIn Fence.wide 0 Tryz.prog 24 #[] w fun e w' => e = .returned (.bool true) ∧ w'.os = w.os ∧ w'.tape = w.tape ∧ w'.output = w.output ∧ w.heap.size ≤ w'.heap.size ∧ ∀ k, k < w.heap.size → w'.heap[k]? = w.heap[k]? :=
  true_of_run S.mixed S.tbOk S.fcOk S.ctOk S.run44 w
end Go.Mx
