/- The concrete part of the law is true. -/
import Derived.KernelRfl
import Derived.Test.YtedekdoelkdniabGreatDoorProg
import Derived.Test.YtedekdoelkdniabGreatDoorKg
set_option linter.all false
namespace Go.Mx
open Go.Proofs
noncomputable def S.fc (f : Nat) : Option Func := Tryz.prog.funcs[f]?
noncomputable def S.tb (t : Nat) : Option TI := tiOf Tryz.prog t
def S.ct (f : Nat) : Option (List V → Hp → Option (En × Hp)) :=
  if f = 123 then some ctSame else if f = 187 then some (ctBytes 5) else none
set_option maxRecDepth 100000
theorem S.mixed : Tryz.prog.follows .mixedOrders = true := by kernel_rfl
theorem S.tbOk : TbOk Tryz.prog S.tb := fun _ _ h => h
theorem S.names : (Tryz.prog.funcs.toList.all fun fn => !(fn.name == "runtime.NumGoroutine")) = true := by kernel_rfl
theorem S.name {g : Nat} {fn : Func} (h : Tryz.prog.funcs[g]? = some fn) : (fn.name == "runtime.NumGoroutine") = false := by
  have h1 := List.all_eq_true.1 S.names fn (List.mem_of_getElem? (by rw [Array.getElem?_toList]; exact h))
  simpa using h1
theorem S.fcOk : FcOk Tryz.prog S.fc where
  get _ _ h := h
  enter g fn h hb args w := by
    have h1 : Tryz.prog.funcs[g]? = some fn := h
    have h2 := S.name h1
    have h3 : fn.name ≠ "runtime.NumGoroutine" := by simpa using h2
    have h4 : fn.body ≠ none := by intro e; rw [e] at hb; cases hb
    simp [callFunc, h1, h3, h4]
noncomputable def S.f123 : Func := (Tryz.prog.funcs[123]?).getD default
noncomputable def S.f187 : Func := (Tryz.prog.funcs[187]?).getD default
theorem S.g123 : Tryz.prog.funcs[123]? = some S.f123 := by kernel_rfl
theorem S.g187 : Tryz.prog.funcs[187]? = some S.f187 := by kernel_rfl
theorem S.b123 : S.f123.body.isNone = true := by kernel_rfl
theorem S.b187 : S.f187.body.isNone = true := by kernel_rfl
theorem S.n123 : Extern.findNext S.f123 = none := by kernel_rfl
theorem S.n187 : Extern.findNext S.f187 = none := by kernel_rfl
theorem S.x123 : Extern.find S.f123 = some Extern.AbiNoEscape.same := by kernel_rfl
theorem S.x187 : Extern.find S.f187 = some (Extern.BytealgMakeNoZero.makeNoZero S.f187.params #[111]) := by kernel_rfl
theorem S.t86 : Tryz.prog.underlying 111 = some (.slice 5) := by kernel_rfl
theorem S.ctOk : CtOk Tryz.prog S.ct := by
  intro B g k hk args h r M w argsr hr H hA
  unfold S.ct at hk
  split at hk
  · rename_i e; subst e; cases hk
    exact .inr (ctSame_ok S.g123 (S.name S.g123) S.b123 S.n123 S.x123 hr H hA)
  · split at hk <;> cases hk
    rename_i e; subst e
    exact .inr (ctBytes_ok S.g187 (S.name S.g187) S.b187 S.n187 ⟨_, S.x187⟩ S.t86 hr H hA)
theorem S.run44 : isTrue (callD S.tb S.fc S.ct 1000000 100 (.it 26) [] ⟨[], 0⟩) = true := by kernel_rfl
theorem S.alive44 (w : World) : (∀ w, (callFunc 26 #[]).run Tryz.prog w = .ok (.enter 26 #[]) w) ∧ CallsIn Fence.wide 0 Tryz.prog 26 #[] w fun e w' => e = .returned (.bool true) ∧ w'.os = w.os ∧ w'.tape = w.tape ∧ w'.output = w.output ∧ w.heap.size ≤ w'.heap.size ∧ ∀ k, k < w.heap.size → w'.heap[k]? = w.heap[k]? :=
  true_of_run S.mixed S.tbOk S.fcOk S.ctOk S.run44 w
end Go.Mx
