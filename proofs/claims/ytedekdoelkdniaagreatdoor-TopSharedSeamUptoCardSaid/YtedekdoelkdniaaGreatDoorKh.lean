/- Rules for runs of the abstract machine; data of a shape, eyes, copies. -/
import Derived.ProofKit
import Derived.ChangeSlices
import Derived.IntWalk
import Derived.Test.YtedekdoelkdniaaGreatDoorKg
set_option linter.all false
namespace Go.Mx
section
variable {tb : Nat → Option TI} {fc : Nat → Option Func} {call : Caller} {lf sz : Nat}
structure Wc (tb : Nat → Option TI) (call : Caller) (lf sz : Nat) (c : Code) (s : St) (Q : Ex → St → Prop) : Prop where
  ex : ∃ e s', runC tb call none lf sz c s = some (e, s') ∧ Q e s'
structure Wf (tb : Nat → Option TI) (fc : Nat → Option Func) (call : Caller) (lf : Nat) (fn : Func) (args : List V) (h : Hp) (Q : V → Hp → Prop) : Prop where
  ex : ∃ v h', runF tb fc call lf fn args h = some (.ret v, h') ∧ Q v h'
theorem Wc.mono {c : Code} {s : St} {Q Q' : Ex → St → Prop} (h : Wc tb call lf sz c s Q) (hq : ∀ e s, Q e s → Q' e s) : Wc tb call lf sz c s Q' := by
  obtain ⟨e, s', h1, h2⟩ := h
  exact ⟨e, s', h1, hq _ _ h2⟩
theorem Wc.seq {a b : Code} {s : St} {Q : Ex → St → Prop}
    (h : ∀ K : Ex → St → Prop, (∀ s', Wc tb call lf sz b s' Q → K .normal s') → (∀ e s', e ≠ .normal → Q e s' → K e s') → Wc tb call lf sz a s K) : Wc tb call lf sz (.seq a b) s Q := by
  obtain ⟨e, s', h1, h2⟩ := h (fun e s' => (e = .normal ∧ Wc tb call lf sz b s' Q) ∨ (e ≠ .normal ∧ Q e s')) (fun s' h => .inl ⟨rfl, h⟩) (fun e s' he h => .inr ⟨he, h⟩)
  rcases h2 with ⟨rfl, e2, s2, h3, h4⟩ | ⟨he, h2⟩
  · exact ⟨e2, s2, by simp [runC, h1, h3], h4⟩
  · refine ⟨e, s', ?_, h2⟩
    cases e <;> first | exact absurd rfl he | simp [runC, h1]
theorem Wc.assoc {a b c : Code} {s : St} {Q : Ex → St → Prop} (h : Wc tb call lf sz (.seq a (.seq b c)) s Q) : Wc tb call lf sz (.seq (.seq a b) c) s Q := by
  obtain ⟨e, s', h1, h2⟩ := h
  refine ⟨e, s', ?_, h2⟩
  rw [← h1]
  simp only [runC]
  rcases runC tb call none lf sz a s with _ | ⟨e1, s1⟩
  · rfl
  · cases e1 <;> rfl
theorem Wc.cond {c : Operand} {a b : Code} {s : St} {Q : Ex → St → Prop} {t : Bool} (hc : evF s.fr c = some (.b t)) (h1 : t = true → Wc tb call lf sz a s Q) (h2 : t = false → Wc tb call lf sz b s Q) : Wc tb call lf sz (.cond c a b) s Q := by
  cases t
  · obtain ⟨e, s', h3, h4⟩ := h2 rfl; exact ⟨e, s', by simp [runC, hc, h3], h4⟩
  · obtain ⟨e, s', h3, h4⟩ := h1 rfl; exact ⟨e, s', by simp [runC, hc, h3], h4⟩
theorem Wc.block {id : Nat} {c : Code} {s : St} {Q : Ex → St → Prop}
    (h : ∀ K : Ex → St → Prop, (∀ s', Q .normal s' → K (.exit id) s') → (∀ e s', e ≠ .exit id → Q e s' → K e s') → Wc tb call lf sz c s K) : Wc tb call lf sz (.block id c) s Q := by
  obtain ⟨e, s', h1, h2⟩ := h (fun e s' => (e = .exit id ∧ Q .normal s') ∨ (e ≠ .exit id ∧ Q e s')) (fun s' h => .inl ⟨rfl, h⟩) (fun e s' he h => .inr ⟨he, h⟩)
  rcases h2 with ⟨rfl, h2⟩ | ⟨he, h2⟩
  · exact ⟨.normal, s', by simp [runC, h1], h2⟩
  · refine ⟨e, s', ?_, h2⟩
    cases e with
    | exit id' => have : id' ≠ id := fun x => he (by rw [x]); simp [runC, h1, this]
    | _ => simp [runC, h1]
theorem iter_rule {f : St → Option (Ex × St)} {Inv : Nat → St → Prop} {Q : Ex → St → Prop}
    (hb : ∀ k s, Inv k s → ∃ e s', f s = some (e, s') ∧ ((e = .normal ∧ ∃ k', k' < k ∧ Inv k' s') ∨ (e ≠ .normal ∧ Q e s'))) : ∀ n k s, k < n → Inv k s → ∃ e s', iter n f s = some (e, s') ∧ Q e s' := by
  intro n
  induction n with
  | zero => intro k s hk; omega
  | succ n ih =>
    intro k s hk hi
    obtain ⟨e, s', h1, h2⟩ := hb k s hi
    rcases h2 with ⟨rfl, k', hk', hi'⟩ | ⟨he, hq⟩
    · obtain ⟨e2, s2, h3, h4⟩ := ih k' s' (by omega) hi'
      exact ⟨e2, s2, by simp [iter, h1, h3], h4⟩
    · refine ⟨e, s', ?_, hq⟩
      cases e <;> first | exact absurd rfl he | simp [iter, h1]
theorem Wc.loop {c : Code} {s : St} {Q : Ex → St → Prop} (Inv : Nat → St → Prop) (k0 : Nat) (hk : k0 < lf) (h0 : Inv k0 s)
    (hb : ∀ k s', Inv k s' → ∀ K : Ex → St → Prop, (∀ s2 k', k' < k → Inv k' s2 → K .normal s2) → (∀ e s2, e ≠ .normal → Q e s2 → K e s2) → Wc tb call lf sz c s' K) : Wc tb call lf sz (.loop c) s Q := by
  obtain ⟨e, s', h1, h2⟩ := iter_rule (f := runC tb call none lf sz c) (Inv := Inv) (Q := Q) (fun k s hi => by
    obtain ⟨e, s', h1, h2⟩ := hb k s hi (fun e s' => (e = .normal ∧ ∃ k', k' < k ∧ Inv k' s') ∨ (e ≠ .normal ∧ Q e s')) (fun s2 k' hk h => .inl ⟨rfl, k', hk, h⟩) (fun e s' he h => .inr ⟨he, h⟩)
    exact ⟨e, s', h1, h2⟩) lf k0 s hk h0
  exact ⟨e, s', by simp [runC, h1], h2⟩
theorem Wc.skip {s : St} {Q : Ex → St → Prop} (h : Q .normal s) : Wc tb call lf sz .skip s Q := ⟨_, _, rfl, h⟩
theorem Wc.exit {id : Nat} {s : St} {Q : Ex → St → Prop} (h : Q (.exit id) s) : Wc tb call lf sz (.exit id) s Q := ⟨_, _, rfl, h⟩
theorem Wc.ret {s : St} {Q : Ex → St → Prop} (h : Q .ret s) : Wc tb call lf sz .ret s Q := ⟨_, _, rfl, h⟩
theorem Wc.reg {id : Nat} {ops : Array Oper} {s : St} {Q : Ex → St → Prop} (h : ∃ r, runOps tb call none sz ops ops.toList s = some r ∧ Q r.1 r.2) : Wc tb call lf sz (.region id ops false) s Q := by
  obtain ⟨⟨e, s'⟩, h1, h2⟩ := h
  exact ⟨e, s', by simpa [runC] using h1, h2⟩
theorem Wc.draw {id : Nat} {ops : Array Oper} {s : St} {Q : Ex → St → Prop} (h : ∃ r, drawA tb call none sz ops s = some r ∧ Q r.1 r.2) : Wc tb call lf sz (.region id ops true) s Q := by
  obtain ⟨⟨e, s'⟩, h1, h2⟩ := h
  exact ⟨e, s', by simpa [runC] using h1, h2⟩
theorem Wf.intro {sz : Nat} {fn : Func} {args : List V} {h : Hp} {c : Code} {Q : V → Hp → Prop} (hb : fn.body = some c) (hsz : max args.length fn.ntmps = sz)
    (H : ∀ K : Ex → St → Prop, (∀ fr h' vs, resA tb fr h' fn.results.toList = some vs → Q (oneOrTup vs) h' → K .normal ⟨fr, [], h'⟩) → (∀ fr h' vs, resA tb fr h' fn.results.toList = some vs → Q (oneOrTup vs) h' → K .ret ⟨fr, [], h'⟩) →
      Wc tb call lf sz c ⟨argFr 0 args, [], h⟩ K) : Wf tb fc call lf fn args h Q := by
  obtain ⟨e, s', h1, h2⟩ := H (fun e s => (e = .normal ∨ e = .ret) ∧ s.ds = [] ∧ ∃ vs, resA tb s.fr s.h fn.results.toList = some vs ∧ Q (oneOrTup vs) s.h)
    (fun fr h' vs h1 h2 => ⟨.inl rfl, rfl, vs, h1, h2⟩) (fun fr h' vs h1 h2 => ⟨.inr rfl, rfl, vs, h1, h2⟩)
  obtain ⟨he, hd, vs, hv, hq⟩ := h2
  rcases s' with ⟨fr, ds, h'⟩
  simp only at hd hv hq; subst hd
  refine ⟨oneOrTup vs, h', ?_, hq⟩
  subst hsz
  rcases he with rfl | rfl <;> simp [runF, hb, h1, finF, runDs, hv]
end
def bltObj (tb : Nat → Option TI) (ev : Operand → Option V) (c : Call) (h : Hp) : Option Res :=
  match objA tb ev (.call c) h with
  | some (v, h) => some (.val v h)
  | none => none
section
variable (tb : Nat → Option TI) (call : Caller) (ev : Operand → Option V) (h : Hp)
theorem so_move (x : Operand) : stepOp tb call none ev (.move x) h = (match ev x with | some v => some (.val v h) | none => none) := by
  simp only [stepOp, pureA, heapA, objA]; cases ev x <;> rfl
theorem so_assign (x : Operand) : stepOp tb call none ev (.assign x) h = (match ev x with | some v => some (.val v h) | none => none) := by
  simp only [stepOp, pureA, heapA, objA]; cases ev x <;> rfl
theorem so_load (t : Nat) (x : Operand) : stepOp tb call none ev (.load t x) h = (match ev x with | some p => (match loadA tb h t p with | some v => some (.val v h) | none => none) | none => none) := by
  simp only [stepOp, pureA, heapA, objA]; cases ev x <;> simp only [] ; cases loadA tb h t _ <;> rfl
theorem so_store (t : Nat) (x y : Operand) : stepOp tb call none ev (.store t x y) h = (match ev x, ev y with | some p, some v => (match storeA tb h t p v with | some h' => some (.val (.tup []) h') | none => none) | _, _ => none) := by
  simp only [stepOp, pureA, heapA, objA]; cases ev x <;> cases ev y <;> simp only [] ; cases storeA tb h t _ _ <;> rfl
theorem so_alloc (t : Nat) : stepOp tb call none ev (.alloc t) h = (match tb t with | some ti => some (.val (.p h.n 0) (h.push (.blk (2 * t) ti.zero true))) | none => none) := by
  simp only [stepOp, pureA, heapA, objA]; cases tb t <;> rfl
theorem so_box (t : Nat) (x : Operand) : stepOp tb call none ev (.box t x) h = (match ev x with | some v => some (.val (.p h.n 0) (h.push (.blk (2 * t) v.cells true))) | none => none) := by
  simp only [stepOp, pureA, heapA, objA]; cases ev x <;> rfl
theorem so_nilCheck (x : Operand) : stepOp tb call none ev (.nilCheck x) h = (match ev x with | some v => if okCheck v then some (.val v h) else none | none => none) := by
  simp only [stepOp, pureA, heapA, objA]; rcases ev x with _ | v
  · rfl
  · simp only []; by_cases hv : okCheck v = true <;> simp [hv]
theorem so_fieldAddr (s : Nat) (x : Operand) (f : Nat) : stepOp tb call none ev (.fieldAddr s x f) h = (match ev x with | some a => (match fieldAddrA tb s a f with | some v => some (.val v h) | none => none) | none => none) := by
  simp only [stepOp, pureA, heapA, objA]; cases ev x <;> simp only [] ; cases fieldAddrA tb s _ f <;> rfl
theorem so_indexAddr (t : Nat) (x i : Operand) : stepOp tb call none ev (.indexAddr t x i) h = (match ev x, ev i with | some a, some c => (match indexAddrA tb t a c with | some v => some (.val v h) | none => none) | _, _ => none) := by
  simp only [stepOp, pureA, heapA, objA]; cases ev x <;> cases ev i <;> simp only [] ; cases indexAddrA tb t _ _ <;> rfl
theorem so_binOp (op : BinOp) (t : Nat) (x y : Operand) (b) : stepOp tb call none ev (.binOp op t x y b) h = (match ev x, ev y with | some a, some c => (match binA tb (isC x || isC y) op t a c with | some v => some (.val v h) | none => none) | _, _ => none) := by
  simp only [stepOp, pureA, heapA, objA]; cases ev x <;> cases ev y <;> simp only [] ; cases binA tb _ op t _ _ <;> rfl
theorem so_unOp (op : UnOp) (t : Nat) (x : Operand) : stepOp tb call none ev (.unOp op t x) h = (match ev x with | some a => (match unA op a with | some v => some (.val v h) | none => none) | none => none) := by
  simp only [stepOp, pureA, heapA, objA]; cases ev x <;> simp only [] ; cases unA op _ <;> rfl
theorem so_pick (c a b : Operand) : stepOp tb call none ev (.pick c a b) h = (match ev c with | some (.b true) => (match ev a with | some v => some (.val v h) | none => none) | some (.b false) => (match ev b with | some v => some (.val v h) | none => none) | _ => none) := by
  simp only [stepOp, pureA, heapA, objA]
  rcases hc : ev c with _ | v
  · rfl
  · cases v <;> first | rfl | skip
    rename_i t; cases t
    · simp only []; cases ev b <;> rfl
    · simp only []; cases ev a <;> rfl
theorem so_extract (x : Operand) (i : Nat) : stepOp tb call none ev (.extract x i) h = (match ev x with | some (.tup l) => (match l[i]? with | some v => some (.val v h) | none => none) | _ => none) := by
  simp only [stepOp, pureA, heapA, objA]
  rcases hc : ev x with _ | v
  · rfl
  · cases v <;> first | rfl | skip
theorem so_makeFunc (fn : Fn) (a b : Array Operand) : stepOp tb call none ev (.makeFunc fn a b) h = (match evs ev a.toList, evs ev b.toList with | some u, some v => some (.val (.f fn u v) h) | _, _ => none) := by
  simp only [stepOp, pureA, heapA, objA]; cases evs ev a.toList <;> cases evs ev b.toList <;> rfl
theorem so_build (t : Nat) (ps) : stepOp tb call none ev (.build t ps) h = (match partsA ev ps.toList with | some l => (match buildA tb t l with | some v => some (.val v h) | none => none) | none => none) := by
  simp only [stepOp, pureA, heapA, objA]; cases partsA ev ps.toList <;> simp only [] ; cases buildA tb t _ <;> rfl
theorem so_buildSlice (t n : Nat) (ps) : stepOp tb call none ev (.buildSlice t n ps) h = (match partsA ev ps.toList with | some l => (match buildSliceA tb h t n l with | some (v, h') => some (.val v h') | none => none) | none => none) := by
  simp only [stepOp, pureA, heapA, objA]; cases partsA ev ps.toList <;> simp only [] ; rcases buildSliceA tb h t n _ with _ | ⟨_, _⟩ <;> rfl
theorem so_makeSlice (t : Nat) (n c : Operand) : stepOp tb call none ev (.makeSlice t n c) h = (match ev n, ev c with | some a, some d => (match makeSliceA tb h t a d with | some (v, h') => some (.val v h') | none => none) | _, _ => none) := by
  simp only [stepOp, pureA, heapA, objA]; cases ev n <;> cases ev c <;> simp only [] ; rcases makeSliceA tb h t _ _ with _ | ⟨_, _⟩ <;> rfl
theorem so_call (f : Operand) (args) (ats) : stepOp tb call none ev (.call ⟨.value f, args, ats⟩) h = (match ev f, evs ev args.toList with | some (.f (.func g) first cap), some as => backR (call (.fn g) (first ++ as ++ cap) h) | some (.y l), some as => backR (call (.yield l) as h) | _, _ => none) := by
  simp only [stepOp, pureA, heapA, objA]
  rfl
theorem so_append (s x : Operand) (sT xT : Nat) : stepOp tb call none ev (.call ⟨.builtin .append, #[s, x], #[sT, xT]⟩) h = (match ev s, ev x with | some a, some d => (match appendA tb h sT xT a d with | some (v, h') => some (.val v h') | none => none) | _, _ => none) := by
  simp only [stepOp, pureA, heapA, objA, evs, bltA]
  cases ev s <;> cases ev x <;> simp only []
  rcases appendA tb h sT xT _ _ with _ | ⟨_, _⟩ <;> rfl
def sliceObj (tb : Nat → Option TI) (ev : Operand → Option V) (o : Op) (h : Hp) : Option Res :=
  match heapA tb ev o h with
  | some (v, h) => some (.val v h)
  | none => match objA tb ev o h with
    | some (v, h) => some (.val v h)
    | none => none
theorem so_slice (t : Nat) (x : Operand) (lo hi mx : Option Operand) : stepOp tb call none ev (.slice t x lo hi mx) h =
    (match ev x, bnd ev lo, bnd ev hi, bnd ev mx with
    | some a, some l, some hh, some m => (match sliceA tb t a l hh m with
      | some v => some (.val v h)
      | none => sliceObj tb ev (.slice t x lo hi mx) h)
    | _, _, _, _ => sliceObj tb ev (.slice t x lo hi mx) h) := by
  simp only [stepOp, pureA, sliceObj]
  rcases ev x with _ | a
  · rfl
  · rcases bnd ev lo with _ | l
    · rfl
    · rcases bnd ev hi with _ | hh
      · rfl
      · rcases bnd ev mx with _ | m
        · rfl
        · simp only []
          rcases sliceA tb t a l hh m with _ | v <;> rfl
theorem so_blt (b : Builtin) (args) (ats) (hb : b = .len ∨ b = .cap ∨ b = .max ∨ b = .min) : stepOp tb call none ev (.call ⟨.builtin b, args, ats⟩) h =
    (match evs ev args.toList with | some l => (match bltA tb b ats l with | some v => some (.val v h) | none => bltObj tb ev ⟨.builtin b, args, ats⟩ h) | none => bltObj tb ev ⟨.builtin b, args, ats⟩ h) := by
  rcases hb with rfl | rfl | rfl | rfl <;> simp only [stepOp, pureA, heapA, bltObj] <;> rcases evs ev args.toList with _ | l <;> simp only [] <;> first | rfl | (rcases bltA tb _ ats l with _ | v <;> rfl)
theorem so_len (args) (ats) : stepOp tb call none ev (.call ⟨.builtin .len, args, ats⟩) h =
    (match evs ev args.toList with | some l => (match bltA tb .len ats l with | some v => some (.val v h) | none => bltObj tb ev ⟨.builtin .len, args, ats⟩ h) | none => bltObj tb ev ⟨.builtin .len, args, ats⟩ h) := so_blt tb call ev h .len args ats (by simp)
theorem so_cap (args) (ats) : stepOp tb call none ev (.call ⟨.builtin .cap, args, ats⟩) h =
    (match evs ev args.toList with | some l => (match bltA tb .cap ats l with | some v => some (.val v h) | none => bltObj tb ev ⟨.builtin .cap, args, ats⟩ h) | none => bltObj tb ev ⟨.builtin .cap, args, ats⟩ h) := so_blt tb call ev h .cap args ats (by simp)
theorem so_max (args) (ats) : stepOp tb call none ev (.call ⟨.builtin .max, args, ats⟩) h =
    (match evs ev args.toList with | some l => (match bltA tb .max ats l with | some v => some (.val v h) | none => bltObj tb ev ⟨.builtin .max, args, ats⟩ h) | none => bltObj tb ev ⟨.builtin .max, args, ats⟩ h) := so_blt tb call ev h .max args ats (by simp)
theorem so_min (args) (ats) : stepOp tb call none ev (.call ⟨.builtin .min, args, ats⟩) h =
    (match evs ev args.toList with | some l => (match bltA tb .min ats l with | some v => some (.val v h) | none => bltObj tb ev ⟨.builtin .min, args, ats⟩ h) | none => bltObj tb ev ⟨.builtin .min, args, ats⟩ h) := so_blt tb call ev h .min args ats (by simp)
end
end Go.Mx

namespace Go.Mx
theorem Hp.get_push (h : Hp) (o : Ob) (b : Nat) : (h.push o).get b = if b = h.n then some o else h.get b := by
  by_cases e : b = h.n
  · subst e; simp
  · simp [e, Hp.get_push_ne _ _ e]
theorem Hp.get_set (h : Hp) (c : Nat) (o : Ob) (b : Nat) : (h.set c o).get b = if b = c then some o else h.get b := by
  by_cases e : b = c
  · subst e; simp
  · simp [e, Hp.get_set_ne _ _ e]
theorem cl_b (t : Bool) : (V.b t).cells = [V.b t] := rfl
theorem on_b (t : Bool) : (V.b t).one = true := rfl
theorem cl_i (k : IntKind) (n : Int) : (V.i k n).cells = [V.i k n] := rfl
theorem on_i (k : IntKind) (n : Int) : (V.i k n).one = true := rfl
theorem cl_s (l : List UInt8) : (V.s l).cells = [V.s l] := rfl
theorem on_s (l : List UInt8) : (V.s l).one = true := rfl
theorem cl_nilp  : (V.nilp).cells = [V.nilp] := rfl
theorem on_nilp  : (V.nilp).one = true := rfl
theorem cl_p (b o : Nat) : (V.p b o).cells = [V.p b o] := rfl
theorem on_p (b o : Nat) : (V.p b o).one = true := rfl
theorem cl_nils  : (V.nils).cells = [V.nils] := rfl
theorem on_nils  : (V.nils).one = true := rfl
theorem cl_sl (b o n : Nat) (c : Option Nat) (z : Nat) : (V.sl b o n c z).cells = [V.sl b o n c z] := rfl
theorem on_sl (b o n : Nat) (c : Option Nat) (z : Nat) : (V.sl b o n c z).one = true := rfl
theorem cl_se (b z : Nat) : (V.se b z).cells = [V.se b z] := rfl
theorem on_se (b z : Nat) : (V.se b z).one = true := rfl
theorem cl_nilm  : (V.nilm).cells = [V.nilm] := rfl
theorem on_nilm  : (V.nilm).one = true := rfl
theorem cl_m (b : Nat) : (V.m b).cells = [V.m b] := rfl
theorem on_m (b : Nat) : (V.m b).one = true := rfl
theorem cl_nilf  : (V.nilf).cells = [V.nilf] := rfl
theorem on_nilf  : (V.nilf).one = true := rfl
theorem cl_f (f : Fn) (a c : List V) : (V.f f a c).cells = [V.f f a c] := rfl
theorem on_f (f : Fn) (a c : List V) : (V.f f a c).one = true := rfl
theorem cl_nili  : (V.nili).cells = [V.nili] := rfl
theorem on_nili  : (V.nili).one = true := rfl
theorem cl_ifc (t : Nat) (v : V) : (V.ifc t v).cells = [V.ifc t v] := rfl
theorem on_ifc (t : Nat) (v : V) : (V.ifc t v).one = true := rfl
theorem cl_agg (l : List V) : (V.agg l).cells = l := rfl
end Go.Mx

namespace Go.Mx
theorem stepOp_val {tb : Nat → Option TI} {call : Caller} {ro : Option Nat} {ev : Operand → Option V} {o : Op} {h : Hp} {r : Res} (hr : stepOp tb call none ev o h = some r) (hd : ∀ d h', r ≠ .dfr d h') : stepOp tb call ro ev o h = some r := by
  unfold stepOp at hr ⊢
  split at hr
  · exact hr
  · split at hr
    · exact hr
    · split at hr
      · exact hr
      · split at hr
        · exact hr
        · split at hr
          · split at hr
            · cases hr; exact absurd rfl (hd _ _)
            · cases hr
          · cases hr
        · exact hr
        · cases hr
theorem runOp_ds {tb : Nat → Option TI} {call : Caller} {ro : Option Nat} {sz : Nat} {o : Oper} {s s' : St} {ex : Ex} (hr : runOp tb call ro sz o s = some (ex, s')) : ∃ p, s'.ds = p ++ s.ds := by
  unfold runOp at hr
  split at hr
  · split at hr <;> cases hr; exact ⟨[], rfl⟩
  · split at hr <;> cases hr; exact ⟨[_], rfl⟩
  · cases hr; exact ⟨[], rfl⟩
  · cases hr
theorem runOps_ds {tb : Nat → Option TI} {call : Caller} {ro : Option Nat} {sz : Nat} {ops : Array Oper} : ∀ {l : List Oper} {s s' : St} {ex : Ex}, runOps tb call ro sz ops l s = some (ex, s') → ∃ p, s'.ds = p ++ s.ds
  | [], s, s', ex, hr => by simp only [runOps] at hr; cases hr; exact ⟨[], rfl⟩
  | o :: l, s, s', ex, hr => by
    simp only [runOps] at hr
    split at hr
    · cases hr
    · split at hr
      · obtain ⟨p, hp⟩ := runOps_ds hr; exact ⟨p, hp⟩
      · cases hr
    · split at hr
      · rename_i s1 h1
        obtain ⟨p, hp⟩ := runOps_ds hr
        obtain ⟨q, hq⟩ := runOp_ds h1
        exact ⟨p ++ q, by rw [hp, hq, List.append_assoc]⟩
      · obtain ⟨p, hp⟩ := runOp_ds hr; exact ⟨p, hp⟩
theorem runOp_lift {tb : Nat → Option TI} {call : Caller} {ro : Option Nat} {X : List Dfr} {sz : Nat} {o : Oper} {fr fr' : List (Nat × V)} {h h' : Hp} {ex : Ex} (hr : runOp tb call none sz o ⟨fr, [], h⟩ = some (ex, ⟨fr', [], h'⟩)) : runOp tb call ro sz o ⟨fr, X, h⟩ = some (ex, ⟨fr', X, h'⟩) := by
  unfold runOp at hr ⊢
  split at hr
  · rename_i v h1 hs
    rw [stepOp_val hs (by intro d h' e; cases e)]
    simp only
    split at hr <;> cases hr
    rename_i hp
    simp only [hp]
  · split at hr <;> cases hr
  · rename_i v h1 hs
    rw [stepOp_val hs (by intro d h' e; cases e)]
    cases hr; rfl
  · cases hr
theorem runOps_lift {tb : Nat → Option TI} {call : Caller} {ro : Option Nat} {X : List Dfr} {sz : Nat} {ops : Array Oper} : ∀ {l : List Oper} {fr fr' : List (Nat × V)} {h h' : Hp} {ex : Ex}, runOps tb call none sz ops l ⟨fr, [], h⟩ = some (ex, ⟨fr', [], h'⟩) → runOps tb call ro sz ops l ⟨fr, X, h⟩ = some (ex, ⟨fr', X, h'⟩)
  | [], fr, fr', h, h', ex, hr => by simp only [runOps] at hr ⊢; cases hr; rfl
  | o :: l, fr, fr', h, h', ex, hr => by
    simp only [runOps] at hr ⊢
    split at hr
    · cases hr
    · rename_i hw; (try simp only [hw])
      split at hr
      · rename_i fr1 hp; (try simp only [hp]); exact runOps_lift hr
      · cases hr
    · rename_i hw; (try simp only [hw])
      split at hr
      · rename_i s1 h1
        obtain ⟨p, hp⟩ := runOps_ds hr
        obtain ⟨q, hq⟩ := runOp_ds h1
        simp only [List.append_nil] at hp hq
        have hs1 : s1.ds = [] := by
          have := congrArg List.length hp
          simp only [List.length_nil, List.length_append] at this
          exact List.length_eq_zero_iff.1 (by omega)
        rcases s1 with ⟨f1, d1, h1'⟩
        simp only at hs1; subst hs1
        rw [runOp_lift h1]
        exact runOps_lift hr
      · rename_i x hx
        have h2 := runOp_lift (ro := ro) (X := X) hr
        rw [h2]
        cases ex with
        | normal => exact absurd hr (hx _)
        | _ => rfl
theorem drawGo_ds {tb : Nat → Option TI} {call : Caller} {ro : Option Nat} {sz : Nat} {l : List (Oper × Nat)} {bs dsts : List Nat} : ∀ {f S : Nat} {lds : List Ld} {als : List Al} {s s' : St} {ex : Ex}, drawGo tb call ro sz l bs dsts f S lds als s = some (ex, s') → ∃ p, s'.ds = p ++ s.ds
  | 0, S, lds, als, s, s', ex, hr => by simp [drawGo] at hr
  | f + 1, S, lds, als, s, s', ex, hr => by
    unfold drawGo at hr
    split at hr
    · simp only at hr
      split at hr
      · cases hr
      · split at hr
        · obtain ⟨p, hp⟩ := drawGo_ds hr; exact ⟨p, hp⟩
        · cases hr
      · split at hr
        · split at hr
          · split at hr
            · obtain ⟨p, hp⟩ := drawGo_ds hr; exact ⟨p, hp⟩
            · cases hr
          · cases hr
        · split at hr
          · split at hr
            · split at hr
              · obtain ⟨p, hp⟩ := drawGo_ds hr; exact ⟨p, hp⟩
              · cases hr
            · cases hr
          · cases hr
        · split at hr
          · split at hr
            · obtain ⟨p, hp⟩ := drawGo_ds hr; exact ⟨p, hp⟩
            · cases hr
          · cases hr
    · split at hr
      · split at hr <;> cases hr; exact ⟨[], rfl⟩
      · split at hr
        · cases hr
        · split at hr
          · obtain ⟨p, hp⟩ := drawGo_ds hr; exact ⟨p, hp⟩
          · cases hr
        · split at hr
          · cases hr
          · cases hr; exact ⟨[], rfl⟩
          · split at hr
            · split at hr
              · obtain ⟨p, hp⟩ := drawGo_ds hr; exact ⟨p ++ [_], by rw [hp, List.append_assoc]; rfl⟩
              · cases hr
            · cases hr
          · split at hr
            · split at hr
              · obtain ⟨p, hp⟩ := drawGo_ds hr; exact ⟨p, hp⟩
              · cases hr
            · cases hr
      · cases hr
theorem drawGo_lift {tb : Nat → Option TI} {call : Caller} {ro : Option Nat} {X : List Dfr} {sz : Nat} {l : List (Oper × Nat)} {bs dsts : List Nat} : ∀ {f S : Nat} {lds : List Ld} {als : List Al} {fr fr' : List (Nat × V)} {h h' : Hp} {ex : Ex}, drawGo tb call none sz l bs dsts f S lds als ⟨fr, [], h⟩ = some (ex, ⟨fr', [], h'⟩) → drawGo tb call ro sz l bs dsts f S lds als ⟨fr, X, h⟩ = some (ex, ⟨fr', X, h'⟩)
  | 0, S, lds, als, fr, fr', h, h', ex, hr => by simp [drawGo] at hr
  | f + 1, S, lds, als, fr, fr', h, h', ex, hr => by
    unfold drawGo at hr ⊢
    split at hr
    · rename_i o i ho
      try simp only [ho]
      simp only at hr
      split at hr
      · cases hr
      · rename_i hw; (try simp only [hw])
        split at hr
        · rename_i fr1 hp; (try simp only [hp]); exact drawGo_lift hr
        · cases hr
      · rename_i hw; (try simp only [hw])
        split at hr
        · rename_i t hot
          try simp only [hot]
          split at hr
          · rename_i ti fr1 ht hp; (try simp only [ht, hp])
            split at hr
            · rename_i hl; rw [if_pos hl]; exact drawGo_lift hr
            · cases hr
          · cases hr
        · rename_i t x1 x2 hot
          try simp only [hot]
          split at hr
          · rename_i e zr vf hns; (try simp only [hns])
            split at hr
            · rename_i fr1 hp; (try simp only [hp])
              split at hr
              · rename_i hl; rw [if_pos hl]; exact drawGo_lift hr
              · cases hr
            · cases hr
          · cases hr
        · rename_i hna _
          split at hr
          · rename_i v hv
            split at hr
            · rename_i fr1 hp
              (try simp only [hv, hp])
              exact drawGo_lift hr
            · cases hr
          · cases hr
    · rename_i ho
      try simp only [ho]
      split at hr
      · rename_i hf; try simp only [hf]
        split at hr
        · rename_i hs; rw [if_pos hs]; cases hr; rfl
        · cases hr
      · rename_i o i hf; try simp only [hf]
        split at hr
        · cases hr
        · rename_i hw; (try simp only [hw])
          split at hr
          · rename_i fr1 hp; (try simp only [hp]); exact drawGo_lift hr
          · cases hr
        · rename_i hw; (try simp only [hw])
          split at hr
          · cases hr
          · rename_i v h1 hs
            rw [stepOp_val hs (by intro d h' e; cases e)]
            cases hr; rfl
          · rename_i d h1 hs
            split at hr
            · split at hr
              · obtain ⟨p, hp⟩ := drawGo_ds hr
                have := congrArg List.length hp
                simp at this
              · cases hr
            · cases hr
          · rename_i v h1 hs
            rw [stepOp_val hs (by intro d h' e; cases e)]
            simp only
            split at hr
            · rename_i fr1 hp; try simp only [hp]
              split at hr
              · rename_i hl; rw [if_pos hl]; exact drawGo_lift hr
              · cases hr
            · cases hr
      · cases hr
theorem drawA_lift {tb : Nat → Option TI} {call : Caller} {ro : Option Nat} {X : List Dfr} {sz : Nat} {ops : Array Oper} {fr fr' : List (Nat × V)} {h h' : Hp} {ex : Ex} (hr : drawA tb call none sz ops ⟨fr, [], h⟩ = some (ex, ⟨fr', [], h'⟩)) : drawA tb call ro sz ops ⟨fr, X, h⟩ = some (ex, ⟨fr', X, h'⟩) := by
  unfold drawA at hr ⊢
  simp only at hr ⊢
  split at hr
  · rename_i hc; rw [if_pos hc]; exact drawGo_lift hr
  · cases hr
end Go.Mx

namespace Go.Mx
inductive PS where
  | p (i : Nat) (bad : List Nat) (g : Option (Nat × Bool))
  | e (i : Nat) (bad : List Nat) (g : Option (Nat × Bool)) (b : Nat)
  deriving DecidableEq
def grd (l : List (Oper × Nat)) (o : Oper) : Option (Option (Nat × Bool)) :=
  match o.guard with
  | none => some none
  | some (j, want) => match l[j]? with
    | none => none
    | some (p, _) => match p.dst with
      | none => none
      | some d => some (some (d, want))
def planGo (l : List (Oper × Nat)) (bs : List Nat) : Nat → Nat → Option (List PS)
  | 0, _ => none
  | fuel + 1, S => match l.find? (fun p => decide (clsA p.1.op < 3) && readyA bs S p.2) with
    | some (o, i) => (match grd l o, planGo l bs fuel (S ||| 2 ^ i) with
      | some g, some r => some (.p i (badOf l bs i) g :: r)
      | _, _ => none)
    | none => match l.filter (fun p => readyA bs S p.2) with
      | [] => if S == 2 ^ l.length - 1 then some [] else none
      | [(o, i)] => (match grd l o, planGo l bs fuel (S ||| 2 ^ i) with
        | some g, some r => some (.e i (badOf l bs i) g (bs.getD i 0) :: r)
        | _, _ => none)
      | _ => none
def planA (ops : Array Oper) : Option (List PS) :=
  let l := ops.toList.zipIdx
  if distinctN (l.filterMap fun p => p.1.dst) && downOk l then planGo l (befs [] ops.toList) (2 * l.length + 1) 0 else none
def wantedP (ev : Operand → Option V) : Option (Nat × Bool) → Option Bool
  | none => some true
  | some (d, want) => match ev (.tmp d) with
    | some (.b t) => some (t == want)
    | some (.tup _) => some false
    | _ => none
theorem wantedR_grd {l : List (Oper × Nat)} {ev : Operand → Option V} {o : Oper} {g : Option (Nat × Bool)} (h : grd l o = some g) : wantedR l ev o = wantedP ev g := by
  unfold grd at h
  unfold wantedR
  cases hg : o.guard with
  | none => rw [hg] at h; simp only [] at h; cases h; rfl
  | some jw =>
    obtain ⟨j, w⟩ := jw
    rw [hg] at h; simp only [] at h ⊢
    cases hl : l[j]? with
    | none => rw [hl] at h; cases h
    | some p =>
      obtain ⟨p, q⟩ := p
      rw [hl] at h; simp only [] at h ⊢
      cases hd : p.dst with
      | none => rw [hd] at h; cases h
      | some d => rw [hd] at h; simp only [] at h ⊢; cases h; rfl
def pureP (tb : Nat → Option TI) (sz : Nat) (o : Oper) (i : Nat) (bad : List Nat) (lds : List Ld) (als : List Al) (s : St) : Option (List Ld × List Al × St) :=
  match o.op with
  | .alloc t => (match tb t, putF sz s.fr o.dst (.p s.h.n 0) with
    | some ti, some fr => if ldsOk tb s.fr (s.h.push (.blk (2 * t) ti.zero true)) 0 lds then some (lds, ⟨i, s.h.n, t, ti.zero⟩ :: als, ⟨fr, s.ds, s.h.push (.blk (2 * t) ti.zero true)⟩) else none
    | _, _ => none)
  | .makeSlice t n c => (match newS tb (evR s.fr bad) t n c with
    | some (e, zero, vf) => (match putF sz s.fr o.dst (vf s.h.n) with
      | some fr => if ldsOk tb s.fr (s.h.push (.blk (2 * e) zero true)) 0 lds then some (lds, ⟨i, s.h.n, e, zero⟩ :: als, ⟨fr, s.ds, s.h.push (.blk (2 * e) zero true)⟩) else none
      | none => none)
    | none => none)
  | _ => (match readA tb (evR s.fr bad) o.op s.h with
    | some v => (match putF sz s.fr o.dst v with
      | some fr => some (if clsA o.op = 1 then ⟨i, o.op, bad, v⟩ :: lds else lds, als, ⟨fr, s.ds, s.h⟩)
      | none => none)
    | none => none)
def effP (tb : Nat → Option TI) (call : Caller) (ro : Option Nat) (sz : Nat) (dsts : List Nat) (o : Oper) (bad : List Nat) (b : Nat) (lds : List Ld) (als : List Al) (s : St) : Option (Ex × St) :=
  match stepOp tb call ro (evR s.fr bad) o.op s.h with
  | none => none
  | some (.pan v h) => some (.panic v, ⟨s.fr.filter (fun p => !dsts.contains p.1), s.ds, h⟩)
  | some (.dfr d h) => (match putF sz s.fr o.dst (.tup []) with
    | some fr => if ldsOk tb s.fr h b lds && alsOk h b als then some (.normal, ⟨fr, d :: s.ds, h⟩) else none
    | none => none)
  | some (.val v h) => (match putF sz s.fr o.dst v with
    | some fr => if ldsOk tb s.fr h b lds && alsOk h b als then some (.normal, ⟨fr, s.ds, h⟩) else none
    | none => none)
def runPlan (tb : Nat → Option TI) (call : Caller) (ro : Option Nat) (sz : Nat) (ops : List Oper) (dsts : List Nat) : List PS → List Ld → List Al → St → Option (Ex × St)
  | [], _, _, s => some (.normal, s)
  | .p i bad g :: r, lds, als, s => match ops[i]? with
    | none => none
    | some o => match wantedP (evR s.fr bad) g with
      | none => none
      | some false => (match putF sz s.fr o.dst (.tup []) with
        | some fr => runPlan tb call ro sz ops dsts r lds als ⟨fr, s.ds, s.h⟩
        | none => none)
      | some true => match pureP tb sz o i bad lds als s with
        | some (lds', als', s') => runPlan tb call ro sz ops dsts r lds' als' s'
        | none => none
  | .e i bad g b :: r, lds, als, s => match ops[i]? with
    | none => none
    | some o => match wantedP (evR s.fr bad) g with
      | none => none
      | some false => (match putF sz s.fr o.dst (.tup []) with
        | some fr => runPlan tb call ro sz ops dsts r lds als ⟨fr, s.ds, s.h⟩
        | none => none)
      | some true => match effP tb call ro sz dsts o bad b lds als s with
        | some (.normal, s') => runPlan tb call ro sz ops dsts r lds als s'
        | x => x
theorem zipIdx_get {ops : List Oper} {o : Oper} {i : Nat} (h : (o, i) ∈ ops.zipIdx) : ops[i]? = some o := by
  have := List.mem_zipIdx_iff_getElem?.1 h
  simpa using this
theorem drawGo_plan {tb : Nat → Option TI} {call : Caller} {ro : Option Nat} {sz : Nat} {ops : List Oper} {bs dsts : List Nat} : ∀ (fuel S : Nat) {pl : List PS}, planGo ops.zipIdx bs fuel S = some pl →
    ∀ lds als s, drawGo tb call ro sz ops.zipIdx bs dsts fuel S lds als s = runPlan tb call ro sz ops dsts pl lds als s := by
  intro fuel
  induction fuel with
  | zero => intro S pl h; simp [planGo] at h
  | succ fuel ih =>
    intro S pl h lds als s
    simp only [planGo] at h
    simp only [drawGo]
    cases hf : ops.zipIdx.find? (fun p => decide (clsA p.1.op < 3) && readyA bs S p.2) with
    | some p =>
      obtain ⟨o, i⟩ := p
      rw [hf] at h; simp only [] at h ⊢
      split at h <;> first | (cases h; done) | skip
      rename_i g r hg hr
      cases h
      have ho := zipIdx_get (List.mem_of_find?_eq_some hf)
      simp only [runPlan, ho, wantedR_grd hg]
      cases wantedP (evR s.fr (badOf ops.zipIdx bs i)) g with
      | none => rfl
      | some t =>
        cases t
        · simp only []
          cases putF sz s.fr o.dst (.tup []) with
          | none => rfl
          | some fr => simp only []; exact ih _ hr _ _ _
        · simp only [pureP]
          cases hop : o.op
          case alloc t =>
            simp only []
            cases tb t with
            | none => rfl
            | some ti =>
              cases putF sz s.fr o.dst (.p s.h.n 0) with
              | none => rfl
              | some fr =>
                simp only []
                split
                · simp only []; exact ih _ hr _ _ _
                · rfl
          case makeSlice t x1 x2 =>
            simp only []
            cases newS tb (evR s.fr (badOf ops.zipIdx bs i)) t x1 x2 with
            | none => rfl
            | some r3 =>
              obtain ⟨e, zr, vf⟩ := r3
              simp only []
              cases putF sz s.fr o.dst (vf s.h.n) with
              | none => rfl
              | some fr =>
                simp only []
                split
                · simp only []; exact ih _ hr _ _ _
                · rfl
          all_goals
            simp only []
            generalize readA _ _ _ _ = x
            cases x with
            | none => rfl
            | some v =>
              simp only []
              cases putF sz s.fr o.dst v with
              | none => rfl
              | some fr => simp only []; exact ih _ hr _ _ _
    | none =>
      rw [hf] at h; simp only [] at h ⊢
      split at h
      · rename_i hl
        rw [hl]; simp only []
        split at h <;> first | (cases h; done) | skip
        rename_i hS
        cases h
        rw [if_pos hS]; rfl
      · rename_i o i hl
        rw [hl]; simp only []
        split at h <;> first | (cases h; done) | skip
        rename_i g r hg hr
        cases h
        have hm : (o, i) ∈ ops.zipIdx.filter (fun p => readyA bs S p.2) := by rw [hl]; simp
        have ho := zipIdx_get (List.mem_filter.1 hm).1
        simp only [runPlan, ho, wantedR_grd hg]
        cases wantedP (evR s.fr (badOf ops.zipIdx bs i)) g with
        | none => rfl
        | some t =>
          cases t
          · simp only []
            cases putF sz s.fr o.dst (.tup []) with
            | none => rfl
            | some fr => simp only []; exact ih _ hr _ _ _
          · simp only [effP]
            cases stepOp tb call ro (evR s.fr (badOf ops.zipIdx bs i)) o.op s.h with
            | none => rfl
            | some rs =>
              cases rs with
              | pan v h' => rfl
              | dfr d h' =>
                simp only []
                cases putF sz s.fr o.dst (.tup []) with
                | none => rfl
                | some fr =>
                  simp only []
                  split
                  · simp only []; exact ih _ hr _ _ _
                  · rfl
              | val v h' =>
                simp only []
                cases putF sz s.fr o.dst v with
                | none => rfl
                | some fr =>
                  simp only []
                  split
                  · simp only []; exact ih _ hr _ _ _
                  · rfl
      · cases h
theorem drawA_plan {tb : Nat → Option TI} {call : Caller} {ro : Option Nat} {sz : Nat} {ops : Array Oper} {pl : List PS} (h : planA ops = some pl) (s : St) :
    drawA tb call ro sz ops s = runPlan tb call ro sz ops.toList (ops.toList.zipIdx.filterMap fun p => p.1.dst) pl [] [] s := by
  unfold planA at h
  unfold drawA
  simp only [] at h ⊢
  split at h <;> first | (cases h; done) | skip
  rename_i hc
  simp only [hc, if_true]
  exact drawGo_plan _ _ h _ _ _
theorem Wc.plan {tb : Nat → Option TI} {call : Caller} {lf sz id : Nat} {ops : Array Oper} {s : St} {Q : Ex → St → Prop} (pl : List PS) (hp : planA ops = some pl)
    (h : ∃ r, runPlan tb call none sz ops.toList (ops.toList.zipIdx.filterMap fun p => p.1.dst) pl [] [] s = some r ∧ Q r.1 r.2) : Wc tb call lf sz (.region id ops true) s Q := by
  rw [← drawA_plan hp] at h
  exact Wc.draw h
section
variable (tb : Nat → Option TI) (ev : Operand → Option V) (h : Hp)
theorem ra_move (x : Operand) : readA tb ev (.move x) h = ev x := by
  simp only [readA, pureA, isRead]; cases ev x <;> rfl
theorem ra_assign (x : Operand) : readA tb ev (.assign x) h = ev x := by
  simp only [readA, pureA, isRead]; cases ev x <;> rfl
theorem ra_load (t : Nat) (x : Operand) : readA tb ev (.load t x) h = (match ev x with | some p => loadA tb h t p | none => none) := by
  simp only [readA, pureA, isRead, heapA, objA, if_true]; cases ev x <;> simp only [] ; cases loadA tb h t _ <;> rfl
theorem ra_nilCheck (x : Operand) : readA tb ev (.nilCheck x) h = (match ev x with | some v => if okCheck v then some v else none | none => none) := by
  simp only [readA, pureA, isRead]; rcases ev x with _ | v
  · rfl
  · simp only []; by_cases hv : okCheck v = true <;> simp [hv]
theorem ra_fieldAddr (s : Nat) (x : Operand) (f : Nat) : readA tb ev (.fieldAddr s x f) h = (match ev x with | some a => fieldAddrA tb s a f | none => none) := by
  simp only [readA, pureA, isRead]; cases ev x <;> simp only [] <;> first | rfl | (cases fieldAddrA tb s _ f <;> rfl)
theorem ra_indexAddr (t : Nat) (x i : Operand) : readA tb ev (.indexAddr t x i) h = (match ev x, ev i with | some a, some c => indexAddrA tb t a c | _, _ => none) := by
  simp only [readA, pureA, isRead]; cases ev x <;> cases ev i <;> simp only [] <;> first | rfl | (cases indexAddrA tb t _ _ <;> rfl)
theorem ra_binOp (op : BinOp) (t : Nat) (x y : Operand) (b) : readA tb ev (.binOp op t x y b) h = (match ev x, ev y with | some a, some c => binA tb (isC x || isC y) op t a c | _, _ => none) := by
  simp only [readA, pureA, isRead]; cases ev x <;> cases ev y <;> simp only [] <;> first | rfl | (cases binA tb _ op t _ _ <;> rfl)
theorem ra_unOp (op : UnOp) (t : Nat) (x : Operand) : readA tb ev (.unOp op t x) h = (match ev x with | some a => unA op a | none => none) := by
  simp only [readA, pureA, isRead]; cases ev x <;> simp only [] <;> first | rfl | (cases unA op _ <;> rfl)
theorem ra_pick (c a b : Operand) : readA tb ev (.pick c a b) h = (match ev c with | some (.b true) => ev a | some (.b false) => ev b | _ => none) := by
  simp only [readA, pureA, isRead]
  rcases hc : ev c with _ | v
  · rfl
  · cases v <;> first | rfl | skip
    rename_i t; cases t
    · simp only []; cases ev b <;> rfl
    · simp only []; cases ev a <;> rfl
theorem ra_extract (x : Operand) (i : Nat) : readA tb ev (.extract x i) h = (match ev x with | some (.tup l) => l[i]? | _ => none) := by
  simp only [readA, pureA, isRead]
  rcases hc : ev x with _ | v
  · rfl
  · cases v <;> first | rfl | skip
    rename_i l; simp only []; cases l[i]? <;> rfl
theorem ra_makeFunc (fn : Fn) (a b : Array Operand) : readA tb ev (.makeFunc fn a b) h = (match evs ev a.toList, evs ev b.toList with | some u, some v => some (.f fn u v) | _, _ => none) := by
  simp only [readA, pureA, isRead]; cases evs ev a.toList <;> cases evs ev b.toList <;> rfl
theorem ra_build (t : Nat) (ps) : readA tb ev (.build t ps) h = (match partsA ev ps.toList with | some l => buildA tb t l | none => none) := by
  simp only [readA, pureA, isRead, heapA, objA, if_true]; cases partsA ev ps.toList <;> simp only [] ; cases buildA tb t _ <;> rfl
theorem ra_convert (s d : Nat) (x : Operand) : readA tb ev (.convert s d x) h = (match ev x with | some a => convA tb s d a | none => none) := by
  simp only [readA, pureA, isRead]; cases ev x <;> simp only [] <;> first | rfl | (cases convA tb s d _ <;> rfl)
theorem ra_blt (b : Builtin) (args) (ats) : readA tb ev (.call ⟨.builtin b, args, ats⟩) h = (match evs ev args.toList with | some l => bltA tb b ats l | none => none) := by
  simp only [readA, pureA, isRead]; rcases evs ev args.toList with _ | l <;> simp only [] <;> first | rfl | (cases bltA tb b ats l <;> rfl)
end
end Go.Mx

namespace Go.Mx
section
variable {tb : Nat → Option TI} {call : Caller} {sz : Nat} {ops : Array Oper}
structure Wo (tb : Nat → Option TI) (call : Caller) (sz : Nat) (ops : Array Oper) (l : List Oper) (s : St) (Q : Ex → St → Prop) : Prop where
  ex : ∃ r, runOps tb call none sz ops l s = some r ∧ Q r.1 r.2
theorem Wc.rg {lf id : Nat} {s : St} {Q : Ex → St → Prop} (h : Wo tb call sz ops ops.toList s Q) : Wc tb call lf sz (.region id ops false) s Q := Wc.reg h.ex
theorem Wo.nil {s : St} {Q : Ex → St → Prop} (h : Q .normal s) : Wo tb call sz ops [] s Q := ⟨_, rfl, h⟩
theorem Wo.val {o : Oper} {r : List Oper} {fr0 : List (Nat × V)} {ds0 : List Dfr} {hp0 : Hp} {Q : Ex → St → Prop} {v : V} {h' : Hp} {fr' : List (Nat × V)} (hw : wantedA ops fr0 o = some true)
    (hs : stepOp tb call none (evF fr0) o.op hp0 = some (.val v h')) (hp : putF sz fr0 o.dst v = some fr') (h : Wo tb call sz ops r ⟨fr', ds0, h'⟩ Q) : Wo tb call sz ops (o :: r) ⟨fr0, ds0, hp0⟩ Q := by
  obtain ⟨x, h1, h2⟩ := h
  exact ⟨x, by simp only [runOps, hw, runOp, hs, hp, h1], h2⟩
theorem Wo.skip {o : Oper} {r : List Oper} {fr0 : List (Nat × V)} {ds0 : List Dfr} {hp0 : Hp} {Q : Ex → St → Prop} {fr' : List (Nat × V)} (hw : wantedA ops fr0 o = some false)
    (hp : putF sz fr0 o.dst (.tup []) = some fr') (h : Wo tb call sz ops r ⟨fr', ds0, hp0⟩ Q) : Wo tb call sz ops (o :: r) ⟨fr0, ds0, hp0⟩ Q := by
  obtain ⟨x, h1, h2⟩ := h
  exact ⟨x, by simp only [runOps, hw, hp, h1], h2⟩
theorem Wo.cl {o : Oper} {r : List Oper} {fr0 : List (Nat × V)} {ds0 : List Dfr} {hp0 : Hp} {Q : Ex → St → Prop} {c : Call} {f : Operand} {g : Nat} {first cap as : List V} {F : V → List (Nat × V)} (hw : wantedA ops fr0 o = some true)
    (ho : o.op = .call c) (hc : c.callee = .value f) (hf : evF fr0 f = some (.f (.func g) first cap)) (ha : evs (evF fr0) c.args.toList = some as) (hp : ∀ v, putF sz fr0 o.dst v = some (F v))
    (h : ∃ v h', call (.fn g) (first ++ as ++ cap) hp0 = some (.ret v, h') ∧ Wo tb call sz ops r ⟨F v, ds0, h'⟩ Q) : Wo tb call sz ops (o :: r) ⟨fr0, ds0, hp0⟩ Q := by
  obtain ⟨v, h', h1, h2⟩ := h
  refine Wo.val hw (v := v) (h' := h') ?_ (hp v) h2
  rcases c with ⟨callee, args, ats⟩
  simp only at hc ha; subst hc
  rw [ho, so_call]; simp only [hf, ha, h1, backR]
structure Wz (tb : Nat → Option TI) (call : Caller) (sz : Nat) (ops : List Oper) (dsts : List Nat) (pl : List PS) (lds : List Ld) (als : List Al) (s : St) (Q : Ex → St → Prop) : Prop where
  ex : ∃ r, runPlan tb call none sz ops dsts pl lds als s = some r ∧ Q r.1 r.2
theorem Wc.drawn {lf id : Nat} {s : St} {Q : Ex → St → Prop} (pl : List PS) (hp : planA ops = some pl)
    (h : Wz tb call sz ops.toList (ops.toList.zipIdx.filterMap fun p => p.1.dst) pl [] [] s Q) : Wc tb call lf sz (.region id ops true) s Q := Wc.plan pl hp h.ex
variable {opl : List Oper} {dsts : List Nat}
theorem Wz.nil {lds : List Ld} {als : List Al} {s : St} {Q : Ex → St → Prop} (h : Q .normal s) : Wz tb call sz opl dsts [] lds als s Q := ⟨_, rfl, h⟩
theorem Wz.p {i : Nat} {bad : List Nat} {g : Option (Nat × Bool)} {r : List PS} {lds lds' : List Ld} {als als' : List Al} {fr0 : List (Nat × V)} {ds0 : List Dfr} {hp0 : Hp} {s' : St} {Q : Ex → St → Prop} {o : Oper} (ho : opl[i]? = some o) (hw : wantedP (evR fr0 bad) g = some true)
    (hs : pureP tb sz o i bad lds als ⟨fr0, ds0, hp0⟩ = some (lds', als', s')) (h : Wz tb call sz opl dsts r lds' als' s' Q) : Wz tb call sz opl dsts (.p i bad g :: r) lds als ⟨fr0, ds0, hp0⟩ Q := by
  obtain ⟨x, h1, h2⟩ := h
  exact ⟨x, by simp only [runPlan, ho, hw, hs, h1], h2⟩
theorem pureP_of {o : Oper} {i : Nat} {bad : List Nat} {lds : List Ld} {als : List Al} {s : St} (hno : clsA o.op ≠ 2) : pureP tb sz o i bad lds als s = (match readA tb (evR s.fr bad) o.op s.h with
    | some v => (match putF sz s.fr o.dst v with
      | some fr => some (if clsA o.op = 1 then ⟨i, o.op, bad, v⟩ :: lds else lds, als, ⟨fr, s.ds, s.h⟩)
      | none => none)
    | none => none) := by
  unfold pureP
  split
  · rename_i t h; exact absurd (by rw [h]; rfl) hno
  · rename_i t n c h; exact absurd (by rw [h]; rfl) hno
  · rfl
theorem Wz.v {i : Nat} {bad : List Nat} {g : Option (Nat × Bool)} {r : List PS} {lds : List Ld} {als : List Al} {fr0 : List (Nat × V)} {ds0 : List Dfr} {hp0 : Hp} {Q : Ex → St → Prop} {o : Oper} {v : V} {fr' : List (Nat × V)} (ho : opl[i]? = some o) (hw : wantedP (evR fr0 bad) g = some true)
    (hc : clsA o.op = 0) (hs : readA tb (evR fr0 bad) o.op hp0 = some v) (hp : putF sz fr0 o.dst v = some fr') (h : Wz tb call sz opl dsts r lds als ⟨fr', ds0, hp0⟩ Q) : Wz tb call sz opl dsts (.p i bad g :: r) lds als ⟨fr0, ds0, hp0⟩ Q := by
  refine Wz.p ho hw (lds' := lds) (als' := als) (s' := ⟨fr', ds0, hp0⟩) ?_ h
  have hno : clsA o.op ≠ 2 := by omega
  rw [pureP_of hno]; simp [hs, hp, hc]
theorem Wz.ld {i : Nat} {bad : List Nat} {g : Option (Nat × Bool)} {r : List PS} {lds : List Ld} {als : List Al} {fr0 : List (Nat × V)} {ds0 : List Dfr} {hp0 : Hp} {Q : Ex → St → Prop} {o : Oper} {v : V} {fr' : List (Nat × V)} (ho : opl[i]? = some o) (hw : wantedP (evR fr0 bad) g = some true)
    (hc : clsA o.op = 1) (hs : readA tb (evR fr0 bad) o.op hp0 = some v) (hp : putF sz fr0 o.dst v = some fr') (h : Wz tb call sz opl dsts r (⟨i, o.op, bad, v⟩ :: lds) als ⟨fr', ds0, hp0⟩ Q) : Wz tb call sz opl dsts (.p i bad g :: r) lds als ⟨fr0, ds0, hp0⟩ Q := by
  refine Wz.p ho hw (lds' := ⟨i, o.op, bad, v⟩ :: lds) (als' := als) (s' := ⟨fr', ds0, hp0⟩) ?_ h
  have hno : clsA o.op ≠ 2 := by omega
  rw [pureP_of hno]; simp [hs, hp, hc]
theorem Wz.al {i : Nat} {bad : List Nat} {g : Option (Nat × Bool)} {r : List PS} {lds : List Ld} {als : List Al} {fr0 : List (Nat × V)} {ds0 : List Dfr} {hp0 : Hp} {Q : Ex → St → Prop} {o : Oper} {t : Nat} {ti : TI} {fr' : List (Nat × V)} (ho : opl[i]? = some o) (hw : wantedP (evR fr0 bad) g = some true)
    (hc : o.op = .alloc t) (ht : tb t = some ti) (hp : putF sz fr0 o.dst (.p hp0.n 0) = some fr') (hl : ldsOk tb fr0 (hp0.push (.blk (2 * t) ti.zero true)) 0 lds = true)
    (h : Wz tb call sz opl dsts r lds (⟨i, hp0.n, t, ti.zero⟩ :: als) ⟨fr', ds0, hp0.push (.blk (2 * t) ti.zero true)⟩ Q) : Wz tb call sz opl dsts (.p i bad g :: r) lds als ⟨fr0, ds0, hp0⟩ Q := by
  refine Wz.p ho hw (lds' := lds) (als' := ⟨i, hp0.n, t, ti.zero⟩ :: als) (s' := ⟨fr', ds0, hp0.push (.blk (2 * t) ti.zero true)⟩) ?_ h
  simp only [pureP, hc, ht, hp, hl, if_true]
theorem Wz.skipP {i : Nat} {bad : List Nat} {g : Option (Nat × Bool)} {r : List PS} {lds : List Ld} {als : List Al} {fr0 : List (Nat × V)} {ds0 : List Dfr} {hp0 : Hp} {Q : Ex → St → Prop} {o : Oper} {fr' : List (Nat × V)} (ho : opl[i]? = some o) (hw : wantedP (evR fr0 bad) g = some false)
    (hp : putF sz fr0 o.dst (.tup []) = some fr') (h : Wz tb call sz opl dsts r lds als ⟨fr', ds0, hp0⟩ Q) : Wz tb call sz opl dsts (.p i bad g :: r) lds als ⟨fr0, ds0, hp0⟩ Q := by
  obtain ⟨x, h1, h2⟩ := h
  exact ⟨x, by simp only [runPlan, ho, hw, hp, h1], h2⟩
theorem Wz.skipE {i b : Nat} {bad : List Nat} {g : Option (Nat × Bool)} {r : List PS} {lds : List Ld} {als : List Al} {fr0 : List (Nat × V)} {ds0 : List Dfr} {hp0 : Hp} {Q : Ex → St → Prop} {o : Oper} {fr' : List (Nat × V)} (ho : opl[i]? = some o) (hw : wantedP (evR fr0 bad) g = some false)
    (hp : putF sz fr0 o.dst (.tup []) = some fr') (h : Wz tb call sz opl dsts r lds als ⟨fr', ds0, hp0⟩ Q) : Wz tb call sz opl dsts (.e i bad g b :: r) lds als ⟨fr0, ds0, hp0⟩ Q := by
  obtain ⟨x, h1, h2⟩ := h
  exact ⟨x, by simp only [runPlan, ho, hw, hp, h1], h2⟩
theorem Wz.e {i b : Nat} {bad : List Nat} {g : Option (Nat × Bool)} {r : List PS} {lds : List Ld} {als : List Al} {fr0 : List (Nat × V)} {ds0 : List Dfr} {hp0 : Hp} {Q : Ex → St → Prop} {o : Oper} {v : V} {h' : Hp} {fr' : List (Nat × V)} (ho : opl[i]? = some o) (hw : wantedP (evR fr0 bad) g = some true)
    (hs : stepOp tb call none (evR fr0 bad) o.op hp0 = some (.val v h')) (hp : putF sz fr0 o.dst v = some fr') (hl : ldsOk tb fr0 h' b lds = true) (ha : alsOk h' b als = true)
    (h : Wz tb call sz opl dsts r lds als ⟨fr', ds0, h'⟩ Q) : Wz tb call sz opl dsts (.e i bad g b :: r) lds als ⟨fr0, ds0, hp0⟩ Q := by
  obtain ⟨x, h1, h2⟩ := h
  exact ⟨x, by simp only [runPlan, ho, hw, effP, hs, hp, hl, ha, Bool.and_self, if_true, h1], h2⟩
theorem Wz.cl {i b : Nat} {bad : List Nat} {g' : Option (Nat × Bool)} {r : List PS} {lds : List Ld} {als : List Al} {fr0 : List (Nat × V)} {ds0 : List Dfr} {hp0 : Hp} {Q : Ex → St → Prop} {o : Oper} {c : Call} {f : Operand} {g : Nat} {first cap as : List V} {F : V → List (Nat × V)} (ho : opl[i]? = some o) (hw : wantedP (evR fr0 bad) g' = some true)
    (hop : o.op = .call c) (hc : c.callee = .value f) (hf : evR fr0 bad f = some (.f (.func g) first cap)) (ha : evs (evR fr0 bad) c.args.toList = some as) (hp : ∀ v, putF sz fr0 o.dst v = some (F v))
    (h : ∃ v h', call (.fn g) (first ++ as ++ cap) hp0 = some (.ret v, h') ∧ ldsOk tb fr0 h' b lds = true ∧ alsOk h' b als = true ∧ Wz tb call sz opl dsts r lds als ⟨F v, ds0, h'⟩ Q) : Wz tb call sz opl dsts (.e i bad g' b :: r) lds als ⟨fr0, ds0, hp0⟩ Q := by
  obtain ⟨v, h', h1, h2, h3, h4⟩ := h
  refine Wz.e ho hw (v := v) (h' := h') ?_ (hp v) h2 h3 h4
  rcases c with ⟨callee, args, ats⟩
  simp only at hc ha; subst hc
  rw [hop, so_call]; simp only [hf, ha, h1, backR]
theorem ldsOk_nil {fr : List (Nat × V)} {h : Hp} {b : Nat} : ldsOk tb fr h b [] = true := rfl
theorem ldsOk_skip {fr : List (Nat × V)} {h : Hp} {b i : Nat} {o : Op} {bad : List Nat} {v : V} {r : List Ld} (hx : b.testBit i = true) (hr : ldsOk tb fr h b r = true) : ldsOk tb fr h b (⟨i, o, bad, v⟩ :: r) = true := by
  unfold ldsOk at hr ⊢
  rw [List.all_cons, hr, hx]; rfl
theorem ldsOk_cons {fr : List (Nat × V)} {h : Hp} {b i : Nat} {o : Op} {bad : List Nat} {v : V} {r : List Ld} (hx : readA tb (evR fr bad) o h = some v) (hv : vbeq v v = true) (hr : ldsOk tb fr h b r = true) : ldsOk tb fr h b (⟨i, o, bad, v⟩ :: r) = true := by
  unfold ldsOk at hr ⊢
  rw [List.all_cons, hr, hx]; simp [hv]
theorem alsOk_nil {h : Hp} {b : Nat} : alsOk h b [] = true := rfl
theorem alsOk_skip {h : Hp} {b i nb t : Nat} {z : List V} {r : List Al} (hx : b.testBit i = true) (hr : alsOk h b r = true) : alsOk h b (⟨i, nb, t, z⟩ :: r) = true := by
  unfold alsOk at hr ⊢
  rw [List.all_cons, hr, hx]; rfl
theorem alsOk_cons {h : Hp} {b i nb t : Nat} {z : List V} {r : List Al} (hx : h.get nb = some (.blk (2 * t) z true)) (hv : vbeqs z z = true) (hr : alsOk h b r = true) : alsOk h b (⟨i, nb, t, z⟩ :: r) = true := by
  unfold alsOk at hr ⊢
  rw [List.all_cons, hr, hx]; simp [hv]
end
end Go.Mx

namespace Go.Mx
theorem MS : type_of% (And.intro @so_move <| And.intro @so_assign <| And.intro @so_load <| And.intro @so_store <| And.intro @so_alloc <| And.intro @so_box <| And.intro @so_nilCheck <| And.intro @so_fieldAddr <| And.intro @so_indexAddr <|
  And.intro @so_binOp <| And.intro @so_unOp <| And.intro @so_pick <| And.intro @so_extract <| And.intro @so_makeFunc <| And.intro @so_build <| And.intro @so_buildSlice <| And.intro @so_makeSlice <| And.intro @so_call <|
  And.intro @so_append <| And.intro @so_len <| And.intro @so_cap <| And.intro @so_max <| And.intro @so_min <| And.intro @so_slice <|
  And.intro @ra_move <| And.intro @ra_assign <| And.intro @ra_load <| And.intro @ra_nilCheck <| And.intro @ra_fieldAddr <| And.intro @ra_indexAddr <| And.intro @ra_binOp <| And.intro @ra_unOp <| And.intro @ra_pick <|
  And.intro @ra_extract <| And.intro @ra_makeFunc <| And.intro @ra_build <| And.intro @ra_convert <| And.intro @ra_blt <|
  And.intro @argFr.eq_1 <| And.intro @argFr.eq_2 <| And.intro @evF.eq_1 <| And.intro @evF.eq_2 <| And.intro @evF.eq_3 <| And.intro @evF.eq_4 <| And.intro @evs.eq_1 <| And.intro @evs.eq_2 <| And.intro @look.eq_1 <| And.intro @look.eq_2 <|
  And.intro @cl_b <| And.intro @cl_i <| And.intro @cl_s <| And.intro @cl_nilp <| And.intro @cl_p <| And.intro @cl_nils <| And.intro @cl_sl <| And.intro @cl_se <| And.intro @cl_nilm <| And.intro @cl_m <| And.intro @cl_nilf <| And.intro @cl_f <|
  And.intro @cl_nili <| And.intro @cl_ifc <| And.intro @cl_agg <| And.intro @on_b <| And.intro @on_i <| And.intro @on_s <| And.intro @on_nilp <| And.intro @on_p <| And.intro @on_nils <| And.intro @on_sl <| And.intro @on_se <| And.intro @on_nilm <|
  And.intro @on_m <| And.intro @on_nilf <| And.intro @on_f <| And.intro @on_nili <| And.intro @on_ifc <|
  And.intro @Hp.get_push <| And.intro @Hp.get_set <| And.intro @Hp.n_push <| And.intro @Hp.n_set <|
  And.intro @Bool.false_eq_true <| And.intro @Bool.or_false <| And.intro @Bool.or_true <| And.intro @Bool.false_or <| And.intro @Bool.true_or <| And.intro @Bool.not_true <| And.intro @Bool.not_false <|
  And.intro @beq_self_eq_true.{0} <| And.intro @decide_true <| And.intro @decide_false <| And.intro @Nat.add_zero <| And.intro @List.length_cons.{0} <| And.intro @List.length_nil.{0} <| And.intro @Nat.zero_add <| And.intro @Nat.mul_one <|
  And.intro @List.all_cons.{0} <| And.intro @List.all_nil.{0} <| And.intro @Bool.and_self <| And.intro @Option.some.injEq.{0} <| And.intro @List.getElem?_toArray.{0} <| And.intro @List.getElem?_cons_zero.{0} <| And.intro @List.getElem?_cons_succ.{0} <|
  And.intro @List.drop_zero.{0} <| And.intro @List.drop_succ_cons.{0} <| And.intro @List.take_succ_cons.{0} <| And.intro @List.take_zero.{0} <| And.intro @List.set_cons_zero.{0} <| And.intro @List.set_cons_succ.{0} <|
  And.intro @and_self @true_and) :=
  And.intro @so_move <| And.intro @so_assign <| And.intro @so_load <| And.intro @so_store <| And.intro @so_alloc <| And.intro @so_box <| And.intro @so_nilCheck <| And.intro @so_fieldAddr <| And.intro @so_indexAddr <|
  And.intro @so_binOp <| And.intro @so_unOp <| And.intro @so_pick <| And.intro @so_extract <| And.intro @so_makeFunc <| And.intro @so_build <| And.intro @so_buildSlice <| And.intro @so_makeSlice <| And.intro @so_call <|
  And.intro @so_append <| And.intro @so_len <| And.intro @so_cap <| And.intro @so_max <| And.intro @so_min <| And.intro @so_slice <|
  And.intro @ra_move <| And.intro @ra_assign <| And.intro @ra_load <| And.intro @ra_nilCheck <| And.intro @ra_fieldAddr <| And.intro @ra_indexAddr <| And.intro @ra_binOp <| And.intro @ra_unOp <| And.intro @ra_pick <|
  And.intro @ra_extract <| And.intro @ra_makeFunc <| And.intro @ra_build <| And.intro @ra_convert <| And.intro @ra_blt <|
  And.intro @argFr.eq_1 <| And.intro @argFr.eq_2 <| And.intro @evF.eq_1 <| And.intro @evF.eq_2 <| And.intro @evF.eq_3 <| And.intro @evF.eq_4 <| And.intro @evs.eq_1 <| And.intro @evs.eq_2 <| And.intro @look.eq_1 <| And.intro @look.eq_2 <|
  And.intro @cl_b <| And.intro @cl_i <| And.intro @cl_s <| And.intro @cl_nilp <| And.intro @cl_p <| And.intro @cl_nils <| And.intro @cl_sl <| And.intro @cl_se <| And.intro @cl_nilm <| And.intro @cl_m <| And.intro @cl_nilf <| And.intro @cl_f <|
  And.intro @cl_nili <| And.intro @cl_ifc <| And.intro @cl_agg <| And.intro @on_b <| And.intro @on_i <| And.intro @on_s <| And.intro @on_nilp <| And.intro @on_p <| And.intro @on_nils <| And.intro @on_sl <| And.intro @on_se <| And.intro @on_nilm <|
  And.intro @on_m <| And.intro @on_nilf <| And.intro @on_f <| And.intro @on_nili <| And.intro @on_ifc <|
  And.intro @Hp.get_push <| And.intro @Hp.get_set <| And.intro @Hp.n_push <| And.intro @Hp.n_set <|
  And.intro @Bool.false_eq_true <| And.intro @Bool.or_false <| And.intro @Bool.or_true <| And.intro @Bool.false_or <| And.intro @Bool.true_or <| And.intro @Bool.not_true <| And.intro @Bool.not_false <|
  And.intro @beq_self_eq_true.{0} <| And.intro @decide_true <| And.intro @decide_false <| And.intro @Nat.add_zero <| And.intro @List.length_cons.{0} <| And.intro @List.length_nil.{0} <| And.intro @Nat.zero_add <| And.intro @Nat.mul_one <|
  And.intro @List.all_cons.{0} <| And.intro @List.all_nil.{0} <| And.intro @Bool.and_self <| And.intro @Option.some.injEq.{0} <| And.intro @List.getElem?_toArray.{0} <| And.intro @List.getElem?_cons_zero.{0} <| And.intro @List.getElem?_cons_succ.{0} <|
  And.intro @List.drop_zero.{0} <| And.intro @List.drop_succ_cons.{0} <| And.intro @List.take_succ_cons.{0} <| And.intro @List.take_zero.{0} <| And.intro @List.set_cons_zero.{0} <| And.intro @List.set_cons_succ.{0} <|
  And.intro @and_self @true_and
end Go.Mx

namespace Go.Mx
inductive Lf where
  | int (k : IntKind)
  | bool
  | str
  | sl (e : List Lf)
structure BT where
  lfs : List Lf
  reg : Nat
  rm : Bool
  wr : Bool
def LfOk (G : Nat → Option BT) (r : Nat) (rm : Bool) : Lf → V → Prop
  | .int k, v => ∃ n, v = .i k n ∧ k.wrap n = n
  | .bool, v => ∃ t, v = .b t
  | .str, v => ∃ l, v = .s l
  | .sl e, v => v = .nils ∨ (rm = false ∧ ∃ b, v = .se b e.length) ∨ ∃ b o n c t m, v = .sl b o n c e.length ∧ G b = some t ∧ t.reg = r ∧ t.rm = rm ∧ n ≤ m ∧ o + m * e.length ≤ t.lfs.length ∧ (rm = true → c = some m) ∧
      (∀ i, i < m → ∀ j l, e[j]? = some l → t.lfs[o + i * e.length + j]? = some l)
structure RwOk (t : BT) (rw : Bool) (ty : Nat) : Prop where
  wr : t.wr = true → rw = true
  odd : rw = false → ty % 2 = 1
structure TOk (G : Nat → Option BT) (h : Hp) : Prop where
  small : ∀ b t, G b = some t → t.lfs.length ≤ 1000000000000
  blk : ∀ b t, G b = some t → b < h.n ∧ ∃ ty cs rw, h.get b = some (.blk ty cs rw) ∧ cs.length = t.lfs.length ∧ RwOk t rw ty ∧ ∀ (j : Nat) l v, t.lfs[j]? = some l → cs[j]? = some v → LfOk G t.reg t.rm l v
def cellsOf (h : Hp) (b : Nat) : List V := match h.get b with
  | some (.blk _ cs _) => cs
  | _ => []
abbrev Sn := List Int × List (List UInt8)
def sweep (f : Nat → Sn → Sn) : Nat → Nat → Sn → Sn
  | 0, _, a => a
  | k + 1, i, a => if a.1.length < 200000 then sweep f k (i + 1) (f i a) else a
mutual
def flat1 (h : Hp) (rm : Bool) : Lf → V → Sn → Sn
  | .int _, v, a => (match v with | .i _ n => (a.1 ++ [IntKind.i64.wrap n], a.2) | _ => a)
  | .bool, v, a => (match v with | .b t => (a.1 ++ [if t then 1 else 0], a.2) | _ => a)
  | .str, v, a => (match v with | .s l => (a.1, a.2 ++ [l]) | _ => a)
  | .sl e, v, a => (match v with
    | .sl b o n c _ => sweep (fun i a => flats h rm e ((cellsOf h b).drop (o + i * e.length)) a) (if rm then c.getD n else n) 0 (a.1 ++ [(n : Int)], a.2)
    | _ => (a.1 ++ [0], a.2))
def flats (h : Hp) (rm : Bool) : List Lf → List V → Sn → Sn
  | l :: ls, v :: vs, a => flats h rm ls vs (flat1 h rm l v a)
  | _, _, a => a
end
mutual
def wide1 : Lf → Nat
  | .int _ => 1
  | .bool => 1
  | .str => 0
  | .sl e => 1 + wides e
def wides : List Lf → Nat
  | [] => 0
  | l :: ls => wide1 l + wides ls
end
theorem sweep_len {f : Nat → Sn → Sn} {w : Nat} (hf : ∀ i a, (f i a).1.length ≤ max a.1.length 200000 + w) : ∀ k i a, (sweep f k i a).1.length ≤ max a.1.length 200000 + w
  | 0, i, a => by simp [sweep]; omega
  | k + 1, i, a => by
    rw [sweep]
    split
    · rename_i h
      by_cases h2 : (f i a).1.length < 200000
      · have := sweep_len hf k (i + 1) (f i a); omega
      · have e : sweep f k (i + 1) (f i a) = f i a := by cases k <;> simp [sweep, h2]
        rw [e]; exact hf i a
    · omega
theorem sweep_congr {f g : Nat → Sn → Sn} : ∀ k i a, (∀ j, i ≤ j → j < i + k → ∀ a, f j a = g j a) → sweep f k i a = sweep g k i a
  | 0, _, _, _ => rfl
  | k + 1, i, a, h => by
    rw [sweep, sweep, h i (Nat.le_refl _) (by omega) a]
    split
    · exact sweep_congr k (i + 1) _ fun j h1 h2 => h j (by omega) (by omega)
    · rfl
mutual
theorem flat1_len (h : Hp) (rm : Bool) : ∀ (l : Lf) (v : V) (a : Sn), (flat1 h rm l v a).1.length ≤ max a.1.length 200000 + wide1 l
  | .int _, v, a => by simp only [flat1, wide1]; split <;> (try simp) <;> omega
  | .bool, v, a => by simp only [flat1, wide1]; split <;> (try simp) <;> omega
  | .str, v, a => by simp only [flat1, wide1]; split <;> (try simp) <;> omega
  | .sl e, v, a => by
    simp only [flat1, wide1]; split
    · rename_i b o n c z
      generalize (if rm = true then c.getD n else n) = k
      by_cases h1 : a.1.length + 1 < 200000
      · refine Nat.le_trans (sweep_len (w := wides e) (fun i a => flats_len h rm e _ a) k 0 _) ?_
        simp; omega
      · have e : ∀ f : Nat → Sn → Sn, sweep f k 0 (a.1 ++ [(n : Int)], a.2) = (a.1 ++ [(n : Int)], a.2) := fun f => by
          cases k <;> simp [sweep, h1]
        rw [e]; simp; omega
    · simp; omega
theorem flats_len (h : Hp) (rm : Bool) : ∀ (ls : List Lf) (vs : List V) (a : Sn), (flats h rm ls vs a).1.length ≤ max a.1.length 200000 + wides ls
  | [], vs, a => by simp [flats, wides]; omega
  | l :: ls, [], a => by simp [flats, wides]; omega
  | l :: ls, v :: vs, a => by
    simp only [flats, wides]
    have h1 := flats_len h rm ls vs (flat1 h rm l v a)
    have h2 := flat1_len h rm l v a
    omega
end
theorem flats_append (h : Hp) (rm : Bool) : ∀ (l1 l2 : List Lf) (vs : List V) (a : Sn), l1.length ≤ vs.length → flats h rm (l1 ++ l2) vs a = flats h rm l2 (vs.drop l1.length) (flats h rm l1 vs a)
  | [], l2, vs, a, _ => by simp [flats]
  | l :: l1, l2, [], a, hl => by simp at hl
  | l :: l1, l2, v :: vs, a, hl => by
    simp only [List.cons_append, flats, List.length_cons, List.drop_succ_cons]
    exact flats_append h rm l1 l2 vs _ (by simpa using hl)
theorem TOk.cells {G : Nat → Option BT} {h : Hp} (H : TOk G h) {b : Nat} {t : BT} (hb : G b = some t) : (cellsOf h b).length = t.lfs.length ∧ ∀ (j : Nat) l v, t.lfs[j]? = some l → (cellsOf h b)[j]? = some v → LfOk G t.reg t.rm l v := by
  obtain ⟨_, ty, cs, rw, h1, h2, _, h3⟩ := H.blk b t hb
  simp only [cellsOf, h1]
  exact ⟨h2, h3⟩
mutual
theorem flat1_local {G : Nat → Option BT} {h h2 : Hp} (H : TOk G h) {r : Nat} (he : ∀ b t, G b = some t → t.reg = r → h2.get b = h.get b) {rm room : Bool} (hrm : room = true → rm = true) : ∀ (l : Lf) (v : V) (a : Sn), LfOk G r rm l v → flat1 h2 room l v a = flat1 h room l v a
  | .int _, v, a, _ => by simp [flat1]
  | .bool, v, a, _ => by simp [flat1]
  | .str, v, a, _ => by simp [flat1]
  | .sl e, v, a, hv => by
    simp only [LfOk] at hv
    rcases hv with rfl | ⟨_, b, rfl⟩ | ⟨b, o, n, c, t, m, rfl, hb, h1, h2', h3, _, h4, h5⟩
    · simp [flat1]
    · simp [flat1]
    · simp only [flat1]
      have hc : cellsOf h2 b = cellsOf h b := by simp only [cellsOf, he b t hb h1]
      rw [hc]
      apply sweep_congr
      intro j _ hj a
      have hk : j < m := by
        cases room with
        | false => simp at hj; omega
        | true => rw [h4 (hrm rfl)] at hj; simpa using hj
      refine flats_local (r := r) H he hrm e _ a fun q l v hl hv => ?_
      rw [List.getElem?_drop] at hv
      have := (H.cells hb).2 _ l v (h5 j hk q l hl) hv
      rw [h1, h2'] at this; exact this
theorem flats_local {G : Nat → Option BT} {h h2 : Hp} (H : TOk G h) {r : Nat} (he : ∀ b t, G b = some t → t.reg = r → h2.get b = h.get b) {rm room : Bool} (hrm : room = true → rm = true) : ∀ (ls : List Lf) (vs : List V) (a : Sn), (∀ (j : Nat) l v, ls[j]? = some l → vs[j]? = some v → LfOk G r rm l v) → flats h2 room ls vs a = flats h room ls vs a
  | [], _, _, _ => by simp [flats]
  | _ :: _, [], _, _ => by simp [flats]
  | l :: ls, v :: vs, a, hv => by
    simp only [flats]
    rw [flat1_local H he hrm l v a (hv 0 l v rfl rfl)]
    exact flats_local H he hrm ls vs _ fun j l' v' h1 h2 => hv (j + 1) l' v' h1 h2
end
def blkOf : V → Option Nat
  | .sl b _ _ _ _ => some b
  | _ => none
def SlAt (e : Nat) (h : Hp) (v : V) (cs : List V) : Prop :=
  (v = .nils ∧ cs = []) ∨ ∃ b ty, v = .sl b 0 cs.length none 1 ∧ ty / 2 = e ∧ b < h.n ∧ h.get b = some (.blk ty cs true)
structure ElT (tb : Nat → Option TI) (sT e : Nat) : Prop where
  sl : ∃ si, tb sT = some si ∧ si.d = .slice e
  el : ∃ te, tb e = some te ∧ te.size = 1 ∧ te.zero.length = 1 ∧ te.bytes ≤ 16
theorem SlAt.app {tb : Nat → Option TI} {sT e : Nat} (T : ElT tb sT e) {h : Hp} {v x : V} {cs : List V} (hs : SlAt e h v cs) {xb xt : Nat} {xw : Bool} (hx : h.get xb = some (.blk xt [x] xw)) (ho : x.one = true)
    (hl : cs.length < 1000000000000) : ∃ v' h', appendA tb h sT sT v (.sl xb 0 1 (some 1) 1) = some (v', h') ∧ SlAt e h' v' (cs ++ [x]) ∧ h.n ≤ h'.n ∧ (∀ b, blkOf v' = some b → h.n ≤ b) ∧ (∀ b, b < h.n → blkOf v ≠ some b → h'.get b = h.get b) := by
  obtain ⟨si, hsi, hd⟩ := T.sl
  obtain ⟨te, hte, hz, hzl, hby⟩ := T.el
  have hfit : ∀ n, n < 1000000000001 → fitsA te n = true := fun n hn => by
    unfold fitsA
    have : n * te.bytes ≤ n * 16 := Nat.mul_le_mul_left n hby
    simp; omega
  have hsrc : srcA tb h sT te (.sl xb 0 1 (some 1) 1) = some (1, [x]) := by
    simp [srcA, hsi, hd, hz, hx]
  rcases hs with ⟨rfl, rfl⟩ | ⟨b, ty, rfl, hty, hb, hg⟩
  · refine ⟨.sl h.n 0 1 none 1, h.push (.blk (2 * e + 1) [x] true), ?_, ?_, by simp, by simp [blkOf], fun b hb _ => Hp.get_push_ne _ _ (by omega)⟩
    · simp [appendA, hsi, hd, hte, hz, hzl, hsrc, ho, appendB, growA, hfit 1 (by omega)]
    · exact .inr ⟨h.n, 2 * e + 1, by simp, by omega, by simp, by simp⟩
  · refine ⟨.sl h.n 0 (cs.length + 1) none 1, (h.set b .dead).push (.blk (2 * e + 1) (cs ++ [x]) true), ?_, ?_, by simp, by simp [blkOf], fun b' hb' hne => ?_⟩
    · have h1 : ¬ (0 + (cs.length + 1) * 1 ≤ cs.length) := by omega
      simp [appendA, hsi, hd, hte, hz, hzl, hsrc, ho, appendB, growA, hg, hty, hfit (cs.length + 1) (by omega)]; omega
    · exact .inr ⟨h.n, 2 * e + 1, by simp, by omega, by simp, by simp [Hp.get_push]⟩
    · have : b' ≠ b := fun e => hne (by rw [e]; rfl)
      rw [Hp.get_push_ne _ _ (by simp; omega), Hp.get_set_ne _ _ this]
structure EyeS where
  nv : V
  sv : V
  ns : List Int
  ss : List (List UInt8)
  mark : Bool
  at_ : Int
  rm : Bool
def EyeS.priv (E : EyeS) (b : Nat) : Prop := blkOf E.nv = some b ∨ blkOf E.sv = some b
structure EyeAt (ei es : Nat) (h : Hp) (eb eo : Nat) (E : EyeS) : Prop where
  lt : eb < h.n
  blk : ∃ ty cs, h.get eb = some (.blk ty cs true) ∧ cs[eo]? = some E.nv ∧ cs[eo + 1]? = some E.sv ∧ cs[eo + 2]? = some (.b E.mark) ∧ cs[eo + 3]? = some (.i .i64 E.at_) ∧ cs[eo + 4]? = some (.b E.rm)
  n : SlAt ei h E.nv (E.ns.map (V.i .i64))
  s : SlAt es h E.sv (E.ss.map V.s)
  ne : ¬ E.priv eb
  sep : ∀ b, blkOf E.nv = some b → blkOf E.sv ≠ some b
theorem SlAt.lt {e : Nat} {h : Hp} {v : V} {cs : List V} (H : SlAt e h v cs) {b : Nat} (hb : blkOf v = some b) : b < h.n := by
  rcases H with ⟨rfl, _⟩ | ⟨b', ty, rfl, _, h1, _⟩
  · cases hb
  · simp [blkOf] at hb; omega
theorem SlAt.same {e : Nat} {h h' : Hp} {v : V} {cs : List V} (H : SlAt e h v cs) (hn : h.n ≤ h'.n) (hg : ∀ b, blkOf v = some b → h'.get b = h.get b) : SlAt e h' v cs := by
  rcases H with ⟨rfl, h1⟩ | ⟨b', ty, rfl, h0, h1, h2⟩
  · exact .inl ⟨rfl, h1⟩
  · exact .inr ⟨b', ty, rfl, h0, by omega, by rw [hg b' rfl]; exact h2⟩
theorem EyeAt.priv_lt {ei es : Nat} {h : Hp} {eb eo : Nat} {E : EyeS} (H : EyeAt ei es h eb eo E) {b : Nat} (hb : E.priv b) : b < h.n := by
  rcases hb with hb | hb
  · exact H.n.lt hb
  · exact H.s.lt hb
structure Saw (ei es : Nat) (R : Nat → Prop) (h h' : Hp) (eb eo : Nat) (E E' : EyeS) : Prop where
  n : h.n ≤ h'.n
  at_ : EyeAt ei es h' eb eo E'
  mark : E'.mark = E.mark
  rm : E'.rm = E.rm
  priv : ∀ b, E'.priv b → E.priv b ∨ h.n ≤ b
  old : ∀ b, b < h.n → b ≠ eb → ¬ E.priv b → ¬ (E.mark = true ∧ R b) → h'.get b = h.get b
  cells : ∀ ty cs, h.get eb = some (.blk ty cs true) → ∃ cs', h'.get eb = some (.blk ty cs' true) ∧ cs'.length = cs.length ∧ ∀ j, (j < eo ∨ eo + 5 ≤ j) → cs'[j]? = cs[j]?
theorem Saw.refl {ei es : Nat} {R : Nat → Prop} {h : Hp} {eb eo : Nat} {E : EyeS} (H : EyeAt ei es h eb eo E) : Saw ei es R h h eb eo E E :=
  ⟨Nat.le_refl _, H, rfl, rfl, fun _ h => .inl h, fun _ _ _ _ _ => rfl, fun ty cs h => ⟨cs, h, rfl, fun _ _ => rfl⟩⟩
theorem Saw.trans {ei es : Nat} {R : Nat → Prop} {h h1 h2 : Hp} {eb eo : Nat} {E E1 E2 : EyeS} (he : eb < h.n) (A : Saw ei es R h h1 eb eo E E1) (B : Saw ei es R h1 h2 eb eo E1 E2) : Saw ei es R h h2 eb eo E E2 where
  n := Nat.le_trans A.n B.n
  at_ := B.at_
  mark := B.mark.trans A.mark
  rm := B.rm.trans A.rm
  priv b hb := by
    rcases B.priv b hb with h | h
    · exact A.priv b h
    · exact .inr (Nat.le_trans A.n h)
  old b hb hne hp hr := by
    rw [B.old b (Nat.lt_of_lt_of_le hb A.n) hne (fun h => ?_) (by rw [A.mark]; exact hr), A.old b hb hne hp hr]
    rcases A.priv b h with h | h
    · exact hp h
    · omega
  cells ty cs hg := by
    obtain ⟨c1, h1, h2, h3⟩ := A.cells ty cs hg
    obtain ⟨c2, h4, h5, h6⟩ := B.cells ty c1 h1
    exact ⟨c2, h4, h5.trans h2, fun j hj => (h6 j hj).trans (h3 j hj)⟩
def inReg (G : Nat → Option BT) (r : Nat) (b : Nat) : Prop := ∃ t, G b = some t ∧ t.reg = r
theorem TOk.same {G : Nat → Option BT} {h h' : Hp} (H : TOk G h) (hn : h.n ≤ h'.n) (hg : ∀ b t, G b = some t → h'.get b = h.get b) : TOk G h' :=
  ⟨H.small, fun b t hb => by
    obtain ⟨h1, h2⟩ := H.blk b t hb
    refine ⟨by omega, ?_⟩
    rw [hg b t hb]; exact h2⟩
structure Pre (ei es : Nat) (G : Nat → Option BT) (r : Nat) (rm : Bool) (h : Hp) (eb eo : Nat) (E : EyeS) : Prop where
  ok : TOk G h
  eye : EyeAt ei es h eb eo E
  geb : G eb = none
  gpr : ∀ b, E.priv b → G b = none
  rm : E.rm = true → rm = true
  mark : E.mark = true → ∀ b t, G b = some t → t.reg = r → t.wr = true
structure Post1 (ei es : Nat) (G : Nat → Option BT) (r : Nat) (h h' : Hp) (eb eo : Nat) (E E' : EyeS) (w : Nat) : Prop where
  saw : Saw ei es (inReg G r) h h' eb eo E E'
  ok : TOk G h'
  len : E'.ns.length ≤ max E.ns.length 200000 + w
theorem Saw.gsame {ei es : Nat} {G : Nat → Option BT} {r : Nat} {rm : Bool} {h h' : Hp} {eb eo : Nat} {E E' : EyeS} (P : Pre ei es G r rm h eb eo E) (S : Saw ei es (inReg G r) h h' eb eo E E') {b : Nat} {t : BT} (hb : G b = some t) (hm : E.mark = false ∨ t.reg ≠ r) : h'.get b = h.get b := by
  refine S.old b (P.ok.blk b t hb).1 (fun e => ?_) (fun hp => ?_) ?_
  · rw [e, P.geb] at hb; cases hb
  · rw [P.gpr b hp] at hb; cases hb
  · rintro ⟨h1, t', h2, h3⟩
    rcases hm with hm | hm
    · rw [hm] at h1; cases h1
    · rw [hb] at h2; cases h2; exact hm h3
theorem Pre.next {ei es : Nat} {G : Nat → Option BT} {r : Nat} {rm : Bool} {h h' : Hp} {eb eo : Nat} {E E' : EyeS} (P : Pre ei es G r rm h eb eo E) {w : Nat} (S : Post1 ei es G r h h' eb eo E E' w) : Pre ei es G r rm h' eb eo E' where
  ok := S.ok
  eye := S.saw.at_
  geb := P.geb
  gpr b hb := by
    rcases S.saw.priv b hb with h1 | h1
    · exact P.gpr b h1
    · cases hg : G b with
      | none => rfl
      | some t => have := (P.ok.blk b t hg).1; omega
  rm h := P.rm (by rw [← S.saw.rm]; exact h)
  mark h := P.mark (by rw [← S.saw.mark]; exact h)
theorem Post1.trans {ei es : Nat} {G : Nat → Option BT} {r : Nat} {h h1 h2 : Hp} {eb eo : Nat} {E E1 E2 : EyeS} {w w' : Nat} (he : eb < h.n) (A : Post1 ei es G r h h1 eb eo E E1 w) (B : Post1 ei es G r h1 h2 eb eo E1 E2 w') : Post1 ei es G r h h2 eb eo E E2 (w + w') :=
  ⟨A.saw.trans he B.saw, B.ok, by have := A.len; have := B.len; omega⟩
def SeeOk (ei es : Nat) (call : Caller) (g : Nat) (ls : List Lf) : Prop :=
  ∀ (G : Nat → Option BT) (h : Hp) (eb eo : Nat) (E : EyeS) (xb xo : Nat) (t : BT), Pre ei es G t.reg t.rm h eb eo E → G xb = some t → (∀ j l, ls[j]? = some l → t.lfs[xo + j]? = some l) →
    max E.ns.length 200000 + wides ls ≤ 500000000000 →
    ∃ h' E', call (.fn g) [.p eb eo, .p xb xo] h = some (.ret (.tup []), h') ∧ Post1 ei es G t.reg h h' eb eo E E' (wides ls) ∧
      (E.mark = false → (E'.ns, E'.ss) = flats h E.rm ls ((cellsOf h xb).drop xo) (E.ns, E.ss))
def AllOk (ei es : Nat) (call : Caller) (ga g1 : Nat) (e : List Lf) : Prop :=
  ∀ (G : Nat → Option BT) (h : Hp) (eb eo : Nat) (E : EyeS) (v : V) (r : Nat) (rm : Bool), Pre ei es G r rm h eb eo E → LfOk G r rm (.sl e) v →
    max E.ns.length 200000 + wide1 (.sl e) ≤ 500000000000 →
    ∃ h' E', call (.fn ga) [.p eb eo, v, .f (.func g1) [] []] h = some (.ret (.tup []), h') ∧ Post1 ei es G r h h' eb eo E E' (wide1 (.sl e)) ∧
      (E.mark = false → (E'.ns, E'.ss) = flat1 h E.rm (.sl e) v (E.ns, E.ss))
end Go.Mx

namespace Go.Mx
theorem TOk.set {G : Nat → Option BT} {h : Hp} (H : TOk G h) {b o ty : Nat} {t : BT} {cs : List V} {l : Lf} {v : V} (hb : G b = some t) (hg : h.get b = some (.blk ty cs true)) (hl : t.lfs[o]? = some l) (hv : LfOk G t.reg t.rm l v) :
    TOk G (h.set b (.blk ty (cs.set o v) true)) := by
  refine ⟨H.small, fun b' t' hb' => ?_⟩
  obtain ⟨h1, ty', cs', rw, h2, h3, h4, h5⟩ := H.blk b' t' hb'
  refine ⟨h1, ?_⟩
  by_cases e : b' = b
  · subst e
    rw [hb] at hb'; cases hb'
    rw [hg] at h2; cases h2
    refine ⟨ty, _, true, Hp.get_set_self _ _ _, by simpa using h3, ⟨fun _ => rfl, fun h => by cases h⟩, fun j l' v' hj hv' => ?_⟩
    rw [List.getElem?_set] at hv'
    split at hv'
    · rename_i e; subst e
      split at hv' <;> cases hv'
      rw [hl] at hj; cases hj; exact hv
    · exact h5 j l' v' hj hv'
  · exact ⟨ty', cs', rw, by rw [Hp.get_set_ne _ _ e]; exact h2, h3, h4, h5⟩
theorem SlAt.vbeq {e : Nat} {h : Hp} {v : V} {cs : List V} (H : SlAt e h v cs) : vbeq v v = true := by
  rcases H with ⟨rfl, _⟩ | ⟨b, ty, rfl, _⟩ <;> simp [Mx.vbeq]
theorem SlAt.cl {e : Nat} {h : Hp} {v : V} {cs : List V} (H : SlAt e h v cs) : v.cells = [v] ∧ v.one = true := by
  rcases H with ⟨rfl, _⟩ | ⟨b, ty, rfl, _⟩ <;> exact ⟨rfl, rfl⟩
theorem Post1.num {ei es : Nat} {G : Nat → Option BT} {r : Nat} {rm : Bool} {h h2 : Hp} {eb eo : Nat} {E : EyeS} (P : Pre ei es G r rm h eb eo E) {ty : Nat} {cs : List V} (hg : h.get eb = some (.blk ty cs true)) {nv : V} {n : Int}
    (hs : SlAt ei h2 nv ((E.ns ++ [n]).map (V.i .i64))) (hn : h.n ≤ h2.n) (hp : ∀ b, blkOf nv = some b → h.n ≤ b) (ho : ∀ b, b < h.n → blkOf E.nv ≠ some b → h2.get b = h.get b) (h0 : cs[eo]? = some E.nv) :
    Post1 ei es G r h (h2.set eb (.blk ty (cs.set eo nv) true)) eb eo E {E with nv := nv, ns := E.ns ++ [n]} 1 ∧ (∀ b t, G b = some t → (h2.set eb (.blk ty (cs.set eo nv) true)).get b = h.get b) := by
  have hlt := P.eye.lt
  obtain ⟨ty', cs', g0, g1, g2, g3, g4, g5⟩ := P.eye.blk
  rw [hg] at g0; cases g0
  have hlen : eo < cs.length := by
    rcases Nat.lt_or_ge eo cs.length with h | h
    · exact h
    · simp [List.getElem?_eq_none h] at h0
  have hnb : blkOf nv ≠ some eb := fun e => by have := hp eb e; omega
  have hgs : ∀ b t, G b = some t → (h2.set eb (.blk ty (cs.set eo nv) true)).get b = h.get b := fun b t hb => by
    have h1 : b ≠ eb := fun e => by rw [e, P.geb] at hb; cases hb
    rw [Hp.get_set_ne _ _ h1]
    refine ho b (P.ok.blk b t hb).1 fun e => ?_
    rw [P.gpr b (.inl e)] at hb; cases hb
  refine ⟨⟨⟨hn, ⟨by simp; omega, ⟨ty, cs.set eo nv, Hp.get_set_self _ _ _, ?_, ?_, ?_, ?_, ?_⟩, ?_, ?_, ?_, ?_⟩, rfl, rfl, ?_, ?_, ?_⟩, ?_, ?_⟩, hgs⟩
  · simp [hlen]
  · rw [List.getElem?_set_ne (by omega)]; exact g2
  · rw [List.getElem?_set_ne (by omega)]; exact g3
  · rw [List.getElem?_set_ne (by omega)]; exact g4
  · rw [List.getElem?_set_ne (by omega)]; exact g5
  · exact hs.same (by simp) fun b hb => Hp.get_set_ne _ _ fun e => hnb (by rw [← e]; exact hb)
  · refine P.eye.s.same (by simp; omega) fun b hb => ?_
    have : b ≠ eb := fun e => P.eye.ne (.inr (by rw [← e]; exact hb))
    rw [Hp.get_set_ne _ _ this]
    exact ho b (P.eye.s.lt hb) fun e => P.eye.sep b e hb
  · rintro (e | e)
    · exact hnb e
    · exact P.eye.ne (.inr e)
  · intro b hb e
    have h1 := hp b hb; have h2 := P.eye.s.lt e; omega
  · rintro b (e | e)
    · exact .inr (hp b e)
    · exact .inl (.inr e)
  · intro b hb hne hpb _
    rw [Hp.get_set_ne _ _ hne]
    exact ho b hb fun e => hpb (.inl e)
  · intro ty1 cs1 hg1
    rw [hg] at hg1; cases hg1
    exact ⟨_, Hp.get_set_self _ _ _, by simp, fun j hj => List.getElem?_set_ne (by omega)⟩
  · exact P.ok.same (by simp; omega) hgs
  · simp; omega
theorem Post1.count {ei es : Nat} {G : Nat → Option BT} {r : Nat} {rm : Bool} {h : Hp} {eb eo : Nat} {E : EyeS} (P : Pre ei es G r rm h eb eo E) {ty : Nat} {cs : List V} (hg : h.get eb = some (.blk ty cs true)) (a : Int) :
    Post1 ei es G r h (h.set eb (.blk ty (cs.set (eo + 3) (.i .i64 a)) true)) eb eo E {E with at_ := a} 0 := by
  have hlt := P.eye.lt
  obtain ⟨ty', cs', g0, g1, g2, g3, g4, g5⟩ := P.eye.blk
  rw [hg] at g0; cases g0
  have hlen : eo + 3 < cs.length := by
    rcases Nat.lt_or_ge (eo + 3) cs.length with h | h
    · exact h
    · simp [List.getElem?_eq_none h] at g4
  have hne : ∀ b, E.priv b → b ≠ eb := fun b hb e => P.eye.ne (by rw [← e]; exact hb)
  refine ⟨⟨by simp, ⟨by simpa using hlt, ⟨ty, _, Hp.get_set_self _ _ _, ?_, ?_, ?_, ?_, ?_⟩, ?_, ?_, P.eye.ne, P.eye.sep⟩, rfl, rfl, fun b h => .inl h, ?_, ?_⟩, ?_, by simp; omega⟩
  · rw [List.getElem?_set_ne (by omega)]; exact g1
  · rw [List.getElem?_set_ne (by omega)]; exact g2
  · rw [List.getElem?_set_ne (by omega)]; exact g3
  · simp [hlen]
  · rw [List.getElem?_set_ne (by omega)]; exact g5
  · exact P.eye.n.same (by simp) fun b hb => Hp.get_set_ne _ _ (hne b (.inl hb))
  · exact P.eye.s.same (by simp) fun b hb => Hp.get_set_ne _ _ (hne b (.inr hb))
  · intro b hb hne _ _
    exact Hp.get_set_ne _ _ hne
  · intro ty1 cs1 hg1
    rw [hg] at hg1; cases hg1
    exact ⟨_, Hp.get_set_self _ _ _, by simp, fun j hj => List.getElem?_set_ne (by omega)⟩
  · refine P.ok.same (by simp) fun b t hb => Hp.get_set_ne _ _ fun e => ?_
    rw [e, P.geb] at hb; cases hb
theorem Post1.write {ei es : Nat} {G : Nat → Option BT} {r : Nat} {rm : Bool} {h : Hp} {eb eo : Nat} {E : EyeS} (P : Pre ei es G r rm h eb eo E) (hm : E.mark = true) {b o ty : Nat} {t : BT} {cs : List V} {l : Lf} {v : V} (hb : G b = some t) (hr : t.reg = r)
    (hg : h.get b = some (.blk ty cs true)) (hl : t.lfs[o]? = some l) (hv : LfOk G t.reg t.rm l v) : Post1 ei es G r h (h.set b (.blk ty (cs.set o v) true)) eb eo E E 0 := by
  have hbe : eb ≠ b := fun e => by rw [← e, P.geb] at hb; cases hb
  have hne : ∀ b', E.priv b' → b' ≠ b := fun b' hb' e => by rw [← e, P.gpr b' hb'] at hb; cases hb
  refine ⟨⟨by simp, ⟨P.eye.lt, ?_, ?_, ?_, P.eye.ne, P.eye.sep⟩, rfl, rfl, fun b h => .inl h, ?_, ?_⟩, P.ok.set hb hg hl hv, by omega⟩
  · obtain ⟨ty', cs', g0, g⟩ := P.eye.blk
    exact ⟨ty', cs', by rw [Hp.get_set_ne _ _ hbe]; exact g0, g⟩
  · exact P.eye.n.same (by simp) fun b hb => Hp.get_set_ne _ _ (hne b (.inl hb))
  · exact P.eye.s.same (by simp) fun b hb => Hp.get_set_ne _ _ (hne b (.inr hb))
  · intro b' hb' _ _ hR
    refine Hp.get_set_ne _ _ fun e => hR ⟨hm, t, by rw [e]; exact hb, hr⟩
  · intro ty1 cs1 hg1
    exact ⟨cs1, by rw [Hp.get_set_ne _ _ hbe]; exact hg1, rfl, fun _ _ => rfl⟩
theorem buildSlice_one {tb : Nat → Option TI} {sT e : Nat} (T : ElT tb sT e) (h : Hp) {v : V} (hv : v.cells = [v]) : buildSliceA tb h sT 1 [(0, v)] = some (.sl h.n 0 1 (some 1) 1, h.push (.blk (2 * e) [v] true)) := by
  obtain ⟨si, hsi, hd⟩ := T.sl
  obtain ⟨te, hte, hz, hzl, hby⟩ := T.el
  obtain ⟨z, hz2⟩ : ∃ z, te.zero = [z] := List.length_eq_one_iff.1 hzl
  simp [buildSliceA, hsi, hd, hte, hz, hzl, fillA, rep, hz2, hv, V.one, setAll]
theorem push_num {tb : Nat → Option TI} {sT ei es : Nat} (T : ElT tb sT ei) {G : Nat → Option BT} {r : Nat} {rm : Bool} {h : Hp} {eb eo : Nat} {E : EyeS} (P : Pre ei es G r rm h eb eo E) (n : Int) (hl : E.ns.length < 1000000000000) :
    ∃ nv h2, appendA tb (h.push (.blk (2 * ei) [.i .i64 n] true)) sT sT E.nv (.sl h.n 0 1 (some 1) 1) = some (nv, h2) ∧ nv.cells = [nv] ∧ nv.one = true ∧ h.n + 1 ≤ h2.n ∧ (∀ b, b < h.n → blkOf E.nv ≠ some b → h2.get b = h.get b) ∧
      ∀ ty cs, h.get eb = some (.blk ty cs true) → h2.get eb = some (.blk ty cs true) ∧ eo + 1 ≤ cs.length ∧ cs[eo]? = some E.nv ∧
        Post1 ei es G r h (h2.set eb (.blk ty (cs.set eo nv) true)) eb eo E {E with nv := nv, ns := E.ns ++ [n]} 1 ∧ (∀ b t, G b = some t → (h2.set eb (.blk ty (cs.set eo nv) true)).get b = h.get b) := by
  have hlt := P.eye.lt
  obtain ⟨nv, h2, ha, hs2, hn2, hp2, ho2⟩ := SlAt.app (h := h.push (.blk (2 * ei) [.i .i64 n] true)) T (x := .i .i64 n) (xb := h.n) (xt := 2 * ei) (xw := true) (P.eye.n.same (by simp) fun b hb => Hp.get_push_ne _ _ (by have := P.eye.n.lt hb; omega)) (by simp) rfl (by simpa using hl)
  have ho : ∀ b, b < h.n → blkOf E.nv ≠ some b → h2.get b = h.get b := fun b hb hne => by rw [ho2 b (by simp; omega) hne, Hp.get_push_ne _ _ (by omega)]
  refine ⟨nv, h2, ha, hs2.cl.1, hs2.cl.2, by simpa using hn2, ho, fun ty cs hg => ?_⟩
  obtain ⟨ty', cs', g0, g1, g2, g3, g4, g5⟩ := P.eye.blk
  rw [hg] at g0; cases g0
  have hel : eo + 1 ≤ cs.length := by have := (List.getElem?_eq_some_iff.1 g1).1; omega
  refine ⟨by rw [ho eb hlt fun e => P.eye.ne (.inl e)]; exact hg, hel, g1, ?_⟩
  exact Post1.num P hg (by simpa using hs2) (by simp at hn2; omega) (fun b hb => by have := hp2 b hb; simp at this; omega) ho g1
structure RowT (tb : Nat → Option TI) (sT : Nat) (e : List Lf) : Prop where
  ex : ∃ si el te, tb sT = some si ∧ si.d = .slice el ∧ tb el = some te ∧ te.size = e.length
  ne : 0 < e.length
structure Rows (tb : Nat → Option TI) (sT : Nat) (G : Nat → Option BT) (r : Nat) (rm : Bool) (h : Hp) (room : Bool) (e : List Lf) (v : V) (m : Nat) (F : Nat → Sn → Sn) : Prop where
  len : bltA tb .len #[sT] [v] = some (.i .i64 m)
  small : m ≤ 1000000000000
  row : ∀ i, i < m → ∃ b o t, indexAddrA tb sT v (.i .i64 i) = some (.p b o) ∧ G b = some t ∧ t.reg = r ∧ t.rm = rm ∧ (∀ j l, e[j]? = some l → t.lfs[o + j]? = some l) ∧ ∀ a, F i a = flats h room e ((cellsOf h b).drop o) a
theorem rows_of {tb : Nat → Option TI} {sT : Nat} {e : List Lf} (T : RowT tb sT e) {G : Nat → Option BT} {r : Nat} {rm room : Bool} {h : Hp} (H : TOk G h) {v : V} (hv : LfOk G r rm (.sl e) v) (hrm : room = true → rm = true) :
    ∃ n : Nat, bltA tb .len #[sT] [v] = some (.i .i64 n) ∧ ∃ (v' : V) (m : Nat) (F : Nat → Sn → Sn), (room = true → ∃ k : Nat, bltA tb .cap #[sT] [v] = some (.i .i64 k) ∧ sliceA tb sT v none (some (k : Int)) none = some v') ∧ (room = false → v' = v) ∧
      Rows tb sT G r rm h room e v' m F ∧ ∀ a : Sn, flat1 h room (.sl e) v a = sweep F m 0 (a.1 ++ [(n : Int)], a.2) := by
  obtain ⟨⟨si, el, te, h1, h2, h3, h4⟩, h5⟩ := T
  simp only [LfOk] at hv
  rcases hv with rfl | ⟨hf, b, rfl⟩ | ⟨b, o, n, c, t, m, rfl, hb, hr, htr, hnm, _, hc, hrow⟩
  · refine ⟨0, by simp [bltA, h1, h2], .nils, 0, fun _ a => a, fun _ => ⟨0, by simp [bltA, h1, h2], by simp [sliceA, h1, h2, h3, bnds]⟩, fun _ => rfl, ⟨by simp [bltA, h1, h2], by omega, fun i hi => by omega⟩, fun a => by simp [flat1, sweep]⟩
  · refine ⟨0, by simp [bltA, h1, h2], .se b e.length, 0, fun _ a => a, fun h => ?_, fun _ => rfl, ⟨by simp [bltA, h1, h2], by omega, fun i hi => by omega⟩, fun a => by simp [flat1, sweep]⟩
    rw [hrm h] at hf; cases hf
  · have hsm := H.small b t hb
    have hm : m ≤ 1000000000000 := by
      rcases Nat.lt_or_ge 1000000000000 m with hlt | hge
      · have h0 := hrow (m - 1) (by omega) 0 (e[0]) (by simp)
        have h6 := (List.getElem?_eq_some_iff.1 h0).1
        have h7 : (m - 1) * 1 ≤ (m - 1) * e.length := Nat.mul_le_mul_left _ h5
        omega
      · exact hge
    refine ⟨n, by simp [bltA, h1, h2], ?_⟩
    cases room with
    | false =>
      refine ⟨_, n, fun i a => flats h false e ((cellsOf h b).drop (o + i * e.length)) a, (fun h => by cases h), fun _ => rfl, ⟨by simp [bltA, h1, h2], by omega, fun i hi => ?_⟩, fun a => by simp [flat1]⟩
      exact ⟨b, o + i * e.length, t, by simp [indexAddrA, h1, h2, h3, h4, hi], hb, hr, htr, hrow i (by omega), fun _ => rfl⟩
    | true =>
      have hc' := hc (hrm rfl)
      subst hc'
      refine ⟨.sl b o m (some m) e.length, m, fun i a => flats h true e ((cellsOf h b).drop (o + i * e.length)) a, fun _ => ⟨m, by simp [bltA, h1, h2], ?_⟩, (fun h => by cases h), ⟨by simp [bltA, h1, h2], hm, fun i hi => ?_⟩, fun a => by simp [flat1]⟩
      · simp [sliceA, h1, h2, h3, h4, bnds]
        intro h; subst h; rfl
      · exact ⟨b, o + i * e.length, t, by simp [indexAddrA, h1, h2, h3, h4, hi], hb, hr, htr, hrow i (by omega), fun _ => rfl⟩
theorem wrap_wrap (k : IntKind) (n : Int) : k.wrap (k.wrap n) = k.wrap n := by
  have h2 : (2 ^ k.bits : Int) > 0 := Int.pow_pos (by decide)
  generalize hm : (2 ^ k.bits : Int) = m at h2
  unfold IntKind.wrap
  simp only [hm]
  split
  · rw [Int.sub_emod_right, Int.emod_emod]
    rename_i h; simp only [h, if_true]
  · rw [Int.emod_emod]
    rename_i h; simp only [h]; rfl
end Go.Mx

namespace Go.Mx
theorem wides_append : ∀ (a b : List Lf), wides (a ++ b) = wides a + wides b
  | [], b => by simp [wides]
  | l :: a, b => by simp only [List.cons_append, wides, wides_append a b]; omega
structure Seen2 (ei es : Nat) (G : Nat → Option BT) (t : BT) (h0 : Hp) (eb eo : Nat) (E0 : EyeS) (xb xo : Nat) (ls : List Lf) (h : Hp) (E : EyeS) : Prop where
  pre : Pre ei es G t.reg t.rm h0 eb eo E0
  post : Post1 ei es G t.reg h0 h eb eo E0 E (wides ls)
  len : xo + ls.length ≤ t.lfs.length
  same : E0.mark = false → (∀ b t', G b = some t' → h.get b = h0.get b) ∧ (E.ns, E.ss) = flats h0 E0.rm ls ((cellsOf h0 xb).drop xo) (E0.ns, E0.ss)
theorem Seen2.start {ei es : Nat} {G : Nat → Option BT} {t : BT} {h0 : Hp} {eb eo : Nat} {E0 : EyeS} {xb xo : Nat} (P : Pre ei es G t.reg t.rm h0 eb eo E0) (hl : xo ≤ t.lfs.length) : Seen2 ei es G t h0 eb eo E0 xb xo [] h0 E0 :=
  ⟨P, ⟨Saw.refl P.eye, P.ok, by simp [wides]; omega⟩, by simpa using hl, fun _ => ⟨fun _ _ _ => rfl, by simp [flats]⟩⟩
theorem Seen2.step {ei es : Nat} {G : Nat → Option BT} {t : BT} {h0 : Hp} {eb eo : Nat} {E0 : EyeS} {xb xo : Nat} {ls : List Lf} {h : Hp} {E : EyeS} (S : Seen2 ei es G t h0 eb eo E0 xb xo ls h E) {call : Caller} {g : Nat} {ls' : List Lf} (off : Nat) (hoff : off = xo + ls.length) (hg : SeeOk ei es call g ls')
    (hb : G xb = some t) (hl : ∀ j l, ls'[j]? = some l → t.lfs[xo + ls.length + j]? = some l) (hlen : max E0.ns.length 200000 + wides (ls ++ ls') ≤ 500000000000) :
    ∃ h' E', call (.fn g) [.p eb eo, .p xb off] h = some (.ret (.tup []), h') ∧ Seen2 ei es G t h0 eb eo E0 xb xo (ls ++ ls') h' E' := by
  subst hoff
  rw [wides_append] at hlen
  have hPl := S.post.len
  have P1 := S.pre.next S.post
  obtain ⟨h', E', hc, hp, hs⟩ := hg G h eb eo E xb (xo + ls.length) t P1 hb hl (by omega)
  have hcl := (S.pre.ok.cells hb).1
  have hlen2 : xo + ls.length + ls'.length ≤ t.lfs.length := by
    cases hls : ls' with
    | nil => have := S.len; simpa using this
    | cons a r =>
      rw [← hls]
      have h1 := hl (ls'.length - 1) (ls'[ls'.length - 1]'(by simp [hls])) (by rw [List.getElem?_eq_getElem])
      have h2 := (List.getElem?_eq_some_iff.1 h1).1
      have h3 : 0 < ls'.length := by simp [hls]
      omega
  refine ⟨h', E', hc, S.pre, ⟨S.post.saw.trans S.pre.eye.lt hp.saw, hp.ok, ?_⟩, by simp; omega, fun hm => ?_⟩
  · rw [wides_append]; have := hp.len; omega
  · have hm1 : E.mark = false := by rw [S.post.saw.mark]; exact hm
    obtain ⟨g1, f1⟩ := S.same hm
    refine ⟨fun b t' hb' => (Saw.gsame P1 hp.saw hb' (.inl hm1)).trans (g1 b t' hb'), ?_⟩
    rw [hs hm1, S.post.saw.rm, f1]
    rw [flats_append _ _ _ _ _ _ (by rw [List.length_drop, hcl]; have := S.len; omega), List.drop_drop]
    have hc2 : cellsOf h xb = cellsOf h0 xb := by simp only [cellsOf, g1 xb t hb]
    rw [hc2]
    exact flats_local (r := t.reg) (rm := t.rm) S.pre.ok (fun b t' hb _ => g1 b t' hb) S.pre.rm ls' _ _ fun j l v hj hv => by
      rw [List.getElem?_drop] at hv
      exact (S.pre.ok.cells hb).2 _ l v (hl j l hj) hv
theorem sub_of {ls ls1 ls' ls2 L : List Lf} {xo : Nat} (hl : ∀ j l, ls[j]? = some l → L[xo + j]? = some l) (h : ls = ls1 ++ ls' ++ ls2) : ∀ j l, ls'[j]? = some l → L[xo + ls1.length + j]? = some l := by
  intro j l hj
  have hlt := (List.getElem?_eq_some_iff.1 hj).1
  have := hl (ls1.length + j) l (by
    rw [h, List.getElem?_append_left (by simp; omega), List.getElem?_append_right (by omega)]
    simpa using hj)
  rw [Nat.add_assoc]; exact this
theorem Seen2.fin {ei es : Nat} {G : Nat → Option BT} {t : BT} {h0 : Hp} {eb eo : Nat} {E0 : EyeS} {xb xo : Nat} {ls : List Lf} {h : Hp} {E : EyeS} (S : Seen2 ei es G t h0 eb eo E0 xb xo ls h E) :
    Post1 ei es G t.reg h0 h eb eo E0 E (wides ls) ∧ (E0.mark = false → (E.ns, E.ss) = flats h0 E0.rm ls ((cellsOf h0 xb).drop xo) (E0.ns, E0.ss)) := ⟨S.post, fun hm => (S.same hm).2⟩
end Go.Mx

namespace Go.Mx
structure Ext (h h' : Hp) : Prop where
  n : h.n ≤ h'.n
  old : ∀ b, b < h.n → h'.get b = h.get b
theorem Ext.refl (h : Hp) : Ext h h := ⟨Nat.le_refl _, fun _ _ => rfl⟩
theorem Ext.trans {a b c : Hp} (h1 : Ext a b) (h2 : Ext b c) : Ext a c := ⟨Nat.le_trans h1.n h2.n, fun k hk => (h2.old k (Nat.lt_of_lt_of_le hk h1.n)).trans (h1.old k hk)⟩
theorem Ext.push (h : Hp) (o : Ob) : Ext h (h.push o) := ⟨by simp, fun b hb => Hp.get_push_ne _ _ (by omega)⟩
theorem Ext.set {h0 h : Hp} (H : Ext h0 h) {b : Nat} (hb : h0.n ≤ b) (o : Ob) : Ext h0 (h.set b o) := ⟨by simpa using H.n, fun k hk => by rw [Hp.get_set_ne _ _ (by omega)]; exact H.old k hk⟩
theorem TOk.ext {G : Nat → Option BT} {h h' : Hp} (H : TOk G h) (e : Ext h h') : TOk G h' := H.same e.n fun b t hb => e.old b (H.blk b t hb).1
theorem SlAt.ext {e : Nat} {h h' : Hp} {v : V} {cs : List V} (H : SlAt e h v cs) (x : Ext h h') : SlAt e h' v cs := H.same x.n fun b hb => x.old b (H.lt hb)
theorem EyeAt.same {ei es : Nat} {h h' : Hp} {eb eo : Nat} {E : EyeS} (H : EyeAt ei es h eb eo E) (hn : h.n ≤ h'.n) (he : h'.get eb = h.get eb) (hp : ∀ b, E.priv b → h'.get b = h.get b) : EyeAt ei es h' eb eo E :=
  ⟨Nat.lt_of_lt_of_le H.lt hn, by rw [he]; exact H.blk, H.n.same hn fun b hb => hp b (.inl hb), H.s.same hn fun b hb => hp b (.inr hb), H.ne, H.sep⟩
theorem EyeAt.ext {ei es : Nat} {h h' : Hp} {eb eo : Nat} {E : EyeS} (H : EyeAt ei es h eb eo E) (x : Ext h h') : EyeAt ei es h' eb eo E :=
  H.same x.n (x.old _ H.lt) fun b hb => x.old b (H.priv_lt hb)
theorem SlAt.ix {tb : Nat → Option TI} {sT e : Nat} (T : ElT tb sT e) {h : Hp} {v : V} {cs : List V} (H : SlAt e h v cs) :
    bltA tb .len #[sT] [v] = some (.i .i64 cs.length) ∧ ∀ i, i < cs.length → ∃ b ty, indexAddrA tb sT v (.i .i64 i) = some (.p b i) ∧ b < h.n ∧ h.get b = some (.blk ty cs true) := by
  obtain ⟨si, hsi, hd⟩ := T.sl
  obtain ⟨te, hte, hz, hzl, hby⟩ := T.el
  rcases H with ⟨rfl, rfl⟩ | ⟨b, ty, rfl, hty, hb, hg⟩
  · exact ⟨by simp [bltA, hsi, hd], fun i hi => by simp at hi⟩
  · exact ⟨by simp [bltA, hsi, hd], fun i hi => ⟨b, ty, by simp [indexAddrA, hsi, hd, hte, hz, hi], hb, hg⟩⟩
theorem w64 {n : Nat} (h : n ≤ 2000000000000) : IntKind.i64.wrap ((n : Int) + 1) = ((n + 1 : Nat) : Int) := by
  rw [wrap_i64] <;> omega
def EyeS.val (E : EyeS) : V := .agg [E.nv, E.sv, .b E.mark, .i .i64 E.at_, .b E.rm]
structure EyeV (ei es : Nat) (h : Hp) (E : EyeS) : Prop where
  n : SlAt ei h E.nv (E.ns.map (V.i .i64))
  s : SlAt es h E.sv (E.ss.map V.s)
theorem EyeAt.v {ei es : Nat} {h : Hp} {eb eo : Nat} {E : EyeS} (H : EyeAt ei es h eb eo E) : EyeV ei es h E := ⟨H.n, H.s⟩
theorem EyeV.ext {ei es : Nat} {h h' : Hp} {E : EyeS} (H : EyeV ei es h E) (x : Ext h h') : EyeV ei es h' E := ⟨H.n.ext x, H.s.ext x⟩
structure Eyes (ei es : Nat) (h : Hp) (ob m : Nat) (L : Nat → EyeS) : Prop where
  lt : ob < h.n
  blk : ∃ ty cs, h.get ob = some (.blk ty cs true) ∧ cs.length = 5 * m
  at_ : ∀ i, i < m → EyeAt ei es h ob (5 * i) (L i)
  sep : ∀ i j b, i < m → j < m → i ≠ j → (L i).priv b → ¬ (L j).priv b
theorem Eyes.ext {ei es : Nat} {h h' : Hp} {ob m : Nat} {L : Nat → EyeS} (H : Eyes ei es h ob m L) (x : Ext h h') : Eyes ei es h' ob m L :=
  ⟨Nat.lt_of_lt_of_le H.lt x.n, by obtain ⟨ty, cs, h1, h2⟩ := H.blk; exact ⟨ty, cs, by rw [x.old _ H.lt]; exact h1, h2⟩, fun i hi => (H.at_ i hi).ext x, H.sep⟩
theorem rows_length (n : Nat) (l : List V) : (rep n l).length = n * l.length := by
  induction n with
  | zero => simp [rep]
  | succ n ih => rw [rep, List.length_append, ih, Nat.add_mul]; omega
theorem rows_get : ∀ (n : Nat) (l : List V) (i j : Nat), i < n → j < l.length → (rep n l)[l.length * i + j]? = l[j]?
  | 0, _, _, _, h, _ => by omega
  | n + 1, l, 0, j, _, hj => by rw [rep, List.getElem?_append_left (by omega)]; simp
  | n + 1, l, i + 1, j, hi, hj => by
    rw [rep, List.getElem?_append_right (by rw [Nat.mul_add]; omega)]
    rw [← rows_get n l i j (by omega) hj]
    congr 1
    rw [Nat.mul_add]; omega
def eye0 : EyeS := ⟨.nils, .nils, [], [], false, 0, false⟩
theorem Eyes.new {ei es : Nat} (h : Hp) (ty m : Nat) : Eyes ei es (h.push (.blk ty (rep m [.nils, .nils, .b false, .i .i64 0, .b false]) true)) h.n m (fun _ => eye0) where
  lt := by simp
  blk := ⟨ty, rep m [.nils, .nils, .b false, .i .i64 0, .b false], by simp, by rw [rows_length]; simp; omega⟩
  at_ i hi := by
    have hr : ∀ j, j < 5 → (rep m [V.nils, .nils, .b false, .i .i64 0, .b false])[5 * i + j]? = [V.nils, .nils, .b false, .i .i64 0, .b false][j]? := fun j hj => rows_get m _ i j hi hj
    refine ⟨by simp, ⟨ty, _, by simp, hr 0 (by omega), hr 1 (by omega), hr 2 (by omega), hr 3 (by omega), hr 4 (by omega)⟩, .inl ⟨rfl, rfl⟩, .inl ⟨rfl, rfl⟩, ?_, ?_⟩
    · rintro (h | h) <;> simp [eye0, blkOf] at h
    · intro b hb; simp [eye0, blkOf] at hb
  sep i j b _ _ _ hb := by rcases hb with h | h <;> simp [eye0, blkOf] at h
theorem Eyes.saw {ei es : Nat} {R : Nat → Prop} {h h' : Hp} {ob m : Nat} {L : Nat → EyeS} (H : Eyes ei es h ob m L) {i : Nat} (hi : i < m) {E' : EyeS} (S : Saw ei es R h h' ob (5 * i) (L i) E') (hm : (L i).mark = false) :
    Eyes ei es h' ob m (fun j => if j = i then E' else L j) where
  lt := Nat.lt_of_lt_of_le H.lt S.n
  blk := by
    obtain ⟨ty, cs, h1, h2⟩ := H.blk
    obtain ⟨cs', h3, h4, _⟩ := S.cells ty cs h1
    exact ⟨ty, cs', h3, h4.trans h2⟩
  at_ j hj := by
    by_cases e : j = i
    · subst e; simp only [if_true]; exact S.at_
    · simp only [e, if_false]
      have A := H.at_ j hj
      have hp : ∀ b, (L j).priv b → h'.get b = h.get b := fun b hb =>
        S.old b (A.priv_lt hb) (fun x => A.ne (by rw [← x]; exact hb)) (fun x => H.sep j i b hj hi e hb x) (by rw [hm]; simp)
      refine ⟨Nat.lt_of_lt_of_le A.lt S.n, ?_, A.n.same S.n fun b hb => hp b (.inl hb), A.s.same S.n fun b hb => hp b (.inr hb), A.ne, A.sep⟩
      obtain ⟨ty, cs, h0, h1, h2, h3, h4, h5⟩ := A.blk
      obtain ⟨cs', g0, g1, g2⟩ := S.cells ty cs h0
      have hh : 5 * j + 5 ≤ 5 * i ∨ 5 * i + 5 ≤ 5 * j := by omega
      refine ⟨ty, cs', g0, ?_, ?_, ?_, ?_, ?_⟩
      · rw [g2 _ (by omega)]; exact h1
      · rw [g2 _ (by omega)]; exact h2
      · rw [g2 _ (by omega)]; exact h3
      · rw [g2 _ (by omega)]; exact h4
      · rw [g2 _ (by omega)]; exact h5
  sep a c b ha hc hne hb := by
    by_cases e1 : a = i
    · subst e1
      simp only [if_true] at hb
      have e2 : c ≠ a := fun x => hne x.symm
      simp only [e2, if_false]
      intro hb2
      rcases S.priv b hb with h1 | h1
      · exact H.sep a c b ha hc hne h1 hb2
      · have := (H.at_ c hc).priv_lt hb2; omega
    · simp only [e1, if_false] at hb
      by_cases e2 : c = i
      · subst e2
        simp only [if_true]
        intro hb2
        rcases S.priv b hb2 with h1 | h1
        · exact H.sep a c b ha hc hne hb h1
        · have := (H.at_ a ha).priv_lt hb; omega
      · simp only [e2, if_false]; exact H.sep a c b ha hc hne hb
theorem Eyes.ld {tb : Nat → Option TI} {ei es tE : Nat} {ti : TI} (ht : tb tE = some ti) (ha : ti.agg = true) (hz : ti.size = 5) {h : Hp} {ob m : Nat} {L : Nat → EyeS} (H : Eyes ei es h ob m L) {i : Nat} (hi : i < m) : loadA tb h tE (.p ob (5 * i)) = some (L i).val := by
  obtain ⟨ty, cs, h0, h1, h2, h3, h4, h5⟩ := (H.at_ i hi).blk
  have hl := (List.getElem?_eq_some_iff.1 h5).1
  have e : (cs.drop (5 * i)).take 5 = [(L i).nv, (L i).sv, .b (L i).mark, .i .i64 (L i).at_, .b (L i).rm] := by
    apply List.ext_getElem?
    intro j
    rcases Nat.lt_or_ge j 5 with hj | hj
    · rw [List.getElem?_take_of_lt hj, List.getElem?_drop]
      match j, hj with
      | 0, _ => simpa using h1
      | 1, _ => simpa using h2
      | 2, _ => simpa using h3
      | 3, _ => simpa using h4
      | 4, _ => simpa using h5
    · rw [List.getElem?_eq_none (by simp; omega), List.getElem?_eq_none (by simp; omega)]
  simp only [loadA, ht, h0, partV, ha, hz, if_true]
  rw [if_pos (by omega), e]; rfl
structure Cl where
  g : Nat
  a : Nat
  ls : List Lf
structure Clos (Tab : Nat → List Lf → Prop) (G : Nat → Option BT) (h : Hp) (lv : V) (m : Nat) (C : Nat → Cl) (reg : Nat → Nat) : Prop where
  v : (lv = .nils ∧ m = 0) ∨ ∃ lb ty cs rw, lv = .sl lb 0 m (some m) 1 ∧ lb < h.n ∧ G lb = none ∧ h.get lb = some (.blk ty cs rw) ∧ ∀ i, i < m → cs[i]? = some (.f (.func (C i).g) [] [.p (C i).a 0])
  ok : ∀ i, i < m → Tab (C i).g (C i).ls ∧ (wides (C i).ls ≤ 100000000000 ∧ ∀ h, (flats h false (C i).ls (cellsOf h (C i).a) ([], [])).2.length ≤ 1000000000000) ∧ ∃ t, G (C i).a = some t ∧ t.reg = reg i ∧ ∀ (j : Nat) l, (C i).ls[j]? = some l → t.lfs[j]? = some l
  small : m ≤ 1000000
def Cl.seen (c : Cl) (h : Hp) : Sn := flats h false c.ls (cellsOf h c.a) ([], [])
theorem Clos.same {Tab : Nat → List Lf → Prop} {G : Nat → Option BT} {h h' : Hp} {lv : V} {m : Nat} {C : Nat → Cl} {reg : Nat → Nat} (H : Clos Tab G h lv m C reg) (hn : h.n ≤ h'.n) (hg : ∀ b, b < h.n → G b = none → blkOf lv = some b → h'.get b = h.get b) : Clos Tab G h' lv m C reg := by
  refine ⟨?_, H.ok, H.small⟩
  rcases H.v with h1 | ⟨lb, ty, cs, rw, h1, h2, h3, h4, h5⟩
  · exact .inl h1
  · exact .inr ⟨lb, ty, cs, rw, h1, by omega, h3, by rw [hg lb h2 h3 (by rw [h1]; rfl)]; exact h4, h5⟩
theorem Cl.seen_same {Tab : Nat → List Lf → Prop} {G : Nat → Option BT} {h h2 h' : Hp} {lv : V} {m : Nat} {C : Nat → Cl} {reg : Nat → Nat} (H : Clos Tab G h lv m C reg) (T : TOk G h2) {i : Nat} (hi : i < m) (hg : ∀ b t, G b = some t → t.reg = reg i → h'.get b = h2.get b) : (C i).seen h' = (C i).seen h2 := by
  obtain ⟨_, _, t, h1, h2', h3⟩ := H.ok i hi
  unfold Cl.seen
  have hc : cellsOf h' (C i).a = cellsOf h2 (C i).a := by simp only [cellsOf, hg _ t h1 h2']
  rw [hc]
  refine flats_local (r := reg i) (rm := t.rm) T hg (by simp) _ _ _ fun j l v hj hv => ?_
  have := (T.cells h1).2 j l v (h3 j l hj) hv
  rw [h2'] at this; exact this
end Go.Mx

namespace Go.Mx
def Lf.flat : Lf → Bool
  | .sl _ => false
  | _ => true
theorem LfOk.flat {l : Lf} (hl : l.flat = true) {G G' : Nat → Option BT} {r r' : Nat} {rm rm' : Bool} {v : V} (h : LfOk G r rm l v) : LfOk G' r' rm' l v := by
  cases l with
  | sl e => cases hl
  | int k => simpa only [LfOk] using h
  | bool => simpa only [LfOk] using h
  | str => simpa only [LfOk] using h
theorem LfOk.gext {G G' : Nat → Option BT} (hG : ∀ b t, G b = some t → G' b = some t) {r : Nat} {rm : Bool} {l : Lf} {v : V} (h : LfOk G r rm l v) : LfOk G' r rm l v := by
  cases l with
  | int k => simpa only [LfOk] using h
  | bool => simpa only [LfOk] using h
  | str => simpa only [LfOk] using h
  | sl e =>
    simp only [LfOk] at h ⊢
    rcases h with h | h | ⟨b, o, n, c, t, m, h1, h2, h3⟩
    · exact .inl h
    · exact .inr (.inl h)
    · exact .inr (.inr ⟨b, o, n, c, t, m, h1, hG b t h2, h3⟩)
def repL : Nat → List Lf → List Lf
  | 0, _ => []
  | n + 1, l => l ++ repL n l
theorem repL_length : ∀ (n : Nat) (l : List Lf), (repL n l).length = n * l.length
  | 0, l => by simp [repL]
  | n + 1, l => by rw [repL, List.length_append, repL_length n l, Nat.add_mul]; omega
theorem repL_get : ∀ (n : Nat) (l : List Lf) (i j : Nat), i < n → j < l.length → (repL n l)[i * l.length + j]? = l[j]?
  | 0, _, _, _, h, _ => by omega
  | n + 1, l, 0, j, _, hj => by rw [repL, List.getElem?_append_left (by omega)]; simp
  | n + 1, l, i + 1, j, hi, hj => by
    rw [repL, List.getElem?_append_right (by rw [Nat.add_mul]; omega)]
    rw [← repL_get n l i j (by omega) hj]
    congr 1
    rw [Nat.add_mul]; omega
theorem setAll_get : ∀ (vs : List V) (cells : List V) (j k : Nat), k + vs.length ≤ cells.length → (setAll cells k vs)[j]? = if k ≤ j ∧ j < k + vs.length then vs[j - k]? else cells[j]?
  | [], cells, j, k, _ => by simp [setAll]; intro h1 h2; omega
  | v :: r, cells, j, k, hl => by
    simp only [List.length_cons] at hl
    rw [setAll, setAll_get r (cells.set k v) j (k + 1) (by simp; omega)]
    by_cases h1 : j = k
    · subst h1
      rw [if_neg (by omega), if_pos (by simp), List.getElem?_set_self (by omega), Nat.sub_self]; rfl
    · by_cases h2 : k + 1 ≤ j ∧ j < k + 1 + r.length
      · rw [if_pos h2, if_pos (by simp; omega), show j - k = (j - (k + 1)) + 1 by omega]; simp
      · rw [if_neg h2, if_neg (by simp; omega), List.getElem?_set_ne (by omega)]
theorem split_at {z n j : Nat} (hz : 0 < z) (hj : j < n * z) : ∃ q p, j = q * z + p ∧ q < n ∧ p < z :=
  ⟨j / z, j % z, by rw [Nat.mul_comm]; exact (Nat.div_add_mod j z).symm, by rw [Nat.div_lt_iff_lt_mul hz]; exact hj, Nat.mod_lt j hz⟩
structure CpT (tb : Nat → Option TI) (sT el : Nat) (e : List Lf) : Prop where
  sl : ∃ si, tb sT = some si ∧ si.d = .slice el
  el : ∃ te, tb el = some te ∧ te.size = e.length ∧ te.zero.length = te.size ∧ te.bytes ≤ 100 ∧ ∀ (j : Nat) l, e[j]? = some l → ∃ v, te.zero[j]? = some v ∧ LfOk (fun _ => none) 0 true l v
  flat : ∀ (j : Nat) l, e[j]? = some l → l.flat = true
  pos : 0 < e.length
theorem LfOk.one {G : Nat → Option BT} {r : Nat} {rm : Bool} {l : Lf} {v : V} (h : LfOk G r rm l v) : v.one = true := by
  cases l with
  | int k => simp only [LfOk] at h; obtain ⟨n, rfl, _⟩ := h; rfl
  | bool => simp only [LfOk] at h; obtain ⟨n, rfl⟩ := h; rfl
  | str => simp only [LfOk] at h; obtain ⟨n, rfl⟩ := h; rfl
  | sl e => simp only [LfOk] at h; rcases h with rfl | ⟨_, b, rfl⟩ | ⟨b, o, n, c, t, m, rfl, _⟩ <;> rfl
theorem copy_of {tb : Nat → Option TI} {sT el : Nat} {e : List Lf} (T : CpT tb sT el e) {G : Nat → Option BT} {r : Nat} {rm : Bool} {h : Hp} (H : TOk G h) (hs : ∀ b t, G b = some t → t.lfs.length ≤ 2000000000) {v : V} (hv : LfOk G r rm (.sl e) v) :
    ∃ n : Nat, bltA tb .len #[sT] [v] = some (.i .i64 n) ∧ n * e.length ≤ 2000000000 ∧ ∃ h1 h2, makeSliceA tb h sT (.i .i64 0) (.i .i64 ((n + 2 : Nat) : Int)) = some (.sl h.n 0 0 (some (n + 2)) e.length, h1) ∧
      appendA tb h1 sT sT (.sl h.n 0 0 (some (n + 2)) e.length) v = some (.sl h.n 0 n (some (n + 2)) e.length, h2) ∧ Ext h h2 ∧ h2.n = h.n + 1 ∧
      ∃ ty cs, h2.get h.n = some (.blk ty cs true) ∧ cs.length = (repL (n + 2) e).length ∧ ∀ (j : Nat) l x, (repL (n + 2) e)[j]? = some l → cs[j]? = some x → ∀ G r rm, LfOk G r rm l x := by
  obtain ⟨⟨si, hsi, hd⟩, ⟨te, hte, hz, hzl, hby, hzero⟩, hflat, hpos⟩ := T
  have hms : ∀ n : Nat, n ≤ 1000000000000 → makeSliceA tb h sT (.i .i64 0) (.i .i64 ((n + 2 : Nat) : Int)) = some (.sl h.n 0 0 (some (n + 2)) e.length, h.push (.blk (2 * el) (rep (n + 2) te.zero) true)) := by
    intro n hn
    have hb : te.bytes * (n + 2) ≤ 100 * (n + 2) := Nat.mul_le_mul_right _ hby
    have hb' : (te.bytes : Int) * ((n : Int) + 2) ≤ 281474976710656 := by
      have : ((te.bytes * (n + 2) : Nat) : Int) ≤ ((100 * (n + 2) : Nat) : Int) := by exact_mod_cast hb
      simp only [Int.natCast_mul, Int.natCast_add, Int.cast_ofNat_Int] at this
      omega
    have ht : ((n : Int) + 2).toNat = n + 2 := by omega
    simp [makeSliceA, hsi, hd, hte, hz, hzl, ht]
    exact ⟨by omega, by omega, hb'⟩
  have hzt : ∀ n (j : Nat) l x, (repL n e)[j]? = some l → (rep n te.zero)[j]? = some x → ∀ G r rm, LfOk G r rm l x := by
    intro n j l x hl hx G r rm
    have hjl := (List.getElem?_eq_some_iff.1 hl).1
    rw [repL_length] at hjl
    obtain ⟨q, p, rfl, hq, hr⟩ := split_at hpos hjl
    rw [repL_get n e _ _ hq hr] at hl
    have hzl' : te.zero.length = e.length := hzl.trans hz
    rw [Nat.mul_comm, ← hzl', rows_get n te.zero _ _ hq (by rw [hzl']; exact hr)] at hx
    obtain ⟨v, h1, h2⟩ := hzero _ l hl
    rw [h1] at hx; cases hx
    exact h2.flat (hflat _ l hl)
  simp only [LfOk] at hv
  have hnil : ∀ v, sliceLike v = true → srcA tb (h.push (.blk (2 * el) (rep 2 te.zero) true)) sT te v = some (0, []) → bltA tb .len #[sT] [v] = some (.i .i64 ((0 : Nat) : Int)) → ∃ n : Nat, bltA tb .len #[sT] [v] = some (.i .i64 n) ∧ n * e.length ≤ 2000000000 ∧ ∃ h1 h2, makeSliceA tb h sT (.i .i64 0) (.i .i64 ((n + 2 : Nat) : Int)) = some (.sl h.n 0 0 (some (n + 2)) e.length, h1) ∧
      appendA tb h1 sT sT (.sl h.n 0 0 (some (n + 2)) e.length) v = some (.sl h.n 0 n (some (n + 2)) e.length, h2) ∧ Ext h h2 ∧ h2.n = h.n + 1 ∧
      ∃ ty cs, h2.get h.n = some (.blk ty cs true) ∧ cs.length = (repL (n + 2) e).length ∧ ∀ (j : Nat) l x, (repL (n + 2) e)[j]? = some l → cs[j]? = some x → ∀ G r rm, LfOk G r rm l x := by
    intro v hsl hsrc hlen
    refine ⟨0, hlen, by omega, _, _, hms 0 (by omega), ?_, Ext.push _ _, by simp, 2 * el, _, Hp.get_push_self _ _, ?_, hzt 2⟩
    · simp [appendA, hsi, hd, hte, hzl, hz, hpos, hsrc, sliceLike]
    · rw [repL_length, rows_length, hzl, hz]
  rcases hv with rfl | ⟨_, b, rfl⟩ | ⟨b, o, n, c, t, m, rfl, hb, hr, hrm, hnm, hom, hc, hrow⟩
  · exact hnil .nils rfl (by simp [srcA, hsi, hd]) (by simp [bltA, hsi, hd])
  · exact hnil (.se b e.length) rfl (by simp [srcA, hsi, hd]) (by simp [bltA, hsi, hd])
  · obtain ⟨hblt, ty, cs, rw, hg, hcl, _, hok⟩ := H.blk b t hb
    have hsm := hs b t hb
    have hnz : n * e.length ≤ m * e.length := Nat.mul_le_mul_right _ hnm
    have hn1 : n * 1 ≤ n * e.length := Nat.mul_le_mul_left _ hpos
    have hsrc : ∀ o', srcA tb (h.push o') sT te (.sl b o n c e.length) = some (n, (cs.drop o).take (n * e.length)) := by
      intro o'
      by_cases hq : n = 0
      · simp [srcA, hsi, hd, hq]
      · simp [srcA, hsi, hd, hz, hq, Hp.get_push_ne _ _ (show b ≠ h.n by omega), hg]
        omega
    have hlen : bltA tb .len #[sT] [.sl b o n c e.length] = some (.i .i64 ((n : Nat) : Int)) := by simp [bltA, hsi, hd]
    by_cases hn0 : n = 0
    · subst hn0
      exact hnil _ rfl (by rw [hsrc]; simp) hlen
    · have hone : ((cs.drop o).take (n * e.length)).all V.one = true := by
        rw [List.all_eq_true]
        intro x hx
        obtain ⟨q, hq⟩ := List.mem_iff_getElem?.1 hx
        have hql := (List.getElem?_eq_some_iff.1 hq).1
        simp at hql
        rw [List.getElem?_take_of_lt (by omega), List.getElem?_drop] at hq
        have hlf : t.lfs[o + q]? = some (t.lfs[o + q]'(by omega)) := List.getElem?_eq_getElem _
        exact (hok _ _ _ hlf hq).one
      have hzr : (rep (n + 2) te.zero).length = (n + 2) * e.length := by rw [rows_length, hzl, hz]
      have htl : ((cs.drop o).take (n * e.length)).length = n * e.length := by simp; omega
      have hnn : (n + 2) * e.length = n * e.length + 2 * e.length := Nat.add_mul _ _ _
      refine ⟨n, hlen, by omega, _, (h.push (.blk (2 * el) (rep (n + 2) te.zero) true)).set h.n (.blk (2 * el) (setAll (rep (n + 2) te.zero) 0 ((cs.drop o).take (n * e.length))) true), hms n (by omega), ?_, ?_, by simp, 2 * el, _, Hp.get_set_self _ _ _, ?_, ?_⟩
      · simp only [appendA, hsi, hd, hte, hzl, hz, hpos, hsrc, and_self, if_true, hn0, if_false, hone, appendB, Hp.get_push_self]
        simp
        omega
      · exact (Ext.push _ _).set (Nat.le_refl _) _
      · rw [length_setAll, repL_length, hzr]
      · intro j l x hl hx G' r' rm'
        rw [setAll_get _ _ _ _ (by rw [htl, hzr]; omega), htl] at hx
        split at hx
        · rename_i hj
          have hj2 : j < n * e.length := by omega
          rw [Nat.sub_zero, List.getElem?_take_of_lt hj2, List.getElem?_drop] at hx
          obtain ⟨q, p, rfl, hq, hr⟩ := split_at hpos hj2
          rw [repL_get (n + 2) e _ _ (by omega) hr] at hl
          have h1 := hrow q (by omega) _ l hl
          rw [Nat.add_assoc] at h1
          exact (hok _ _ _ h1 hx).flat (hflat _ l hl)
        · exact hzt (n + 2) j l x hl hx G' r' rm'
end Go.Mx

namespace Go.Mx
def asReg (D : Nat → Option (List Lf)) (r : Nat) (b : Nat) : Option BT := (D b).map fun l => ⟨l, r, false, true⟩
def DatOk (D : Nat → Option (List Lf)) (h : Hp) : Prop := ∀ b l, D b = some l → b < h.n ∧ l.length ≤ 1000000000000 ∧ ∃ ty cs, h.get b = some (.blk ty cs true) ∧ cs.length = l.length ∧
  ∀ (j : Nat) lf x, l[j]? = some lf → cs[j]? = some x → ∀ r, LfOk (asReg D r) r false lf x
def addReg (G : Nat → Option BT) (D : Nat → Option (List Lf)) (r : Nat) (b : Nat) : Option BT := match D b with
  | some l => some ⟨l, r, false, true⟩
  | none => G b
theorem TOk.add {G : Nat → Option BT} {h : Hp} (H : TOk G h) {D : Nat → Option (List Lf)} (hD : DatOk D h) (hG : ∀ b l, D b = some l → G b = none) (r : Nat) : TOk (addReg G D r) h where
  small b t hb := by
    unfold addReg at hb
    split at hb
    · rename_i l hl; cases hb; exact (hD b l hl).2.1
    · exact H.small b t hb
  blk b t hb := by
    unfold addReg at hb
    split at hb
    · rename_i l hl; cases hb
      obtain ⟨h1, _, ty, cs, h2, h3, h4⟩ := hD b l hl
      refine ⟨h1, ty, cs, true, h2, h3, ⟨fun _ => rfl, fun h => by cases h⟩, fun j lf x hl' hx => LfOk.gext (fun b' t' hb' => ?_) (h4 j lf x hl' hx r)⟩
      unfold asReg at hb'
      cases hd : D b' with
      | none => rw [hd] at hb'; cases hb'
      | some l' => rw [hd] at hb'; simp only [Option.map_some, Option.some.injEq] at hb'; subst hb'; simp only [addReg, hd]
    · obtain ⟨h1, ty, cs, rw', h2, h3, h4, h5⟩ := H.blk b t hb
      refine ⟨h1, ty, cs, rw', h2, h3, h4, fun j l v hl hv => LfOk.gext (fun b' t' hb' => ?_) (h5 j l v hl hv)⟩
      unfold addReg
      cases hd : D b' with
      | none => exact hb'
      | some l' => rw [hG b' l' hd] at hb'; cases hb'
def boxD (D : Nat → Option (List Lf)) (bb : Nat) (ls : List Lf) (b : Nat) : Option (List Lf) := if b = bb then some ls else D b
theorem DatOk.box {D : Nat → Option (List Lf)} {h h' : Hp} (H : DatOk D h) (hn : h.n ≤ h'.n) {bb : Nat} {ls : List Lf} (hs : ∀ b l, D b = some l → h'.get b = h.get b) (hbb : D bb = none) (hlt : bb < h'.n) (hl : ls.length ≤ 1000000000000)
    {ty : Nat} {vs : List V} (hg : h'.get bb = some (.blk ty vs true)) (hvl : vs.length = ls.length) (hv : ∀ (j : Nat) lf x, ls[j]? = some lf → vs[j]? = some x → ∀ r, LfOk (asReg D r) r false lf x) : DatOk (boxD D bb ls) h' := by
  have hmono : ∀ r b t, asReg D r b = some t → asReg (boxD D bb ls) r b = some t := by
    intro r b t hb
    unfold asReg at hb ⊢
    have : b ≠ bb := fun e => by rw [e, hbb] at hb; cases hb
    simp only [boxD, this, if_false]; exact hb
  intro b l hb
  unfold boxD at hb
  split at hb
  · rename_i e; subst e; cases hb
    exact ⟨hlt, hl, ty, vs, hg, hvl, fun j lf x h1 h2 r => (hv j lf x h1 h2 r).gext (hmono r)⟩
  · obtain ⟨h1, h2, ty', cs, h3, h4, h5⟩ := H b l hb
    exact ⟨Nat.lt_of_lt_of_le h1 hn, h2, ty', cs, by rw [hs b l hb]; exact h3, h4, fun j lf x a1 a2 r => (h5 j lf x a1 a2 r).gext (hmono r)⟩
mutual
def noS1 : Lf → Bool
  | .str => false
  | .sl e => noSs e
  | _ => true
def noSs : List Lf → Bool
  | [] => true
  | l :: r => noS1 l && noSs r
end
theorem sweep_ss {f : Nat → Sn → Sn} (hf : ∀ i a, (f i a).2 = a.2) : ∀ k i a, (sweep f k i a).2 = a.2
  | 0, _, _ => rfl
  | k + 1, i, a => by
    rw [sweep]; split
    · rw [sweep_ss hf k]; exact hf i a
    · rfl
mutual
theorem flat1_ss (h : Hp) (rm : Bool) : ∀ (l : Lf) (v : V) (a : Sn), noS1 l = true → (flat1 h rm l v a).2 = a.2
  | .int _, v, a, _ => by simp only [flat1]; split <;> rfl
  | .bool, v, a, _ => by simp only [flat1]; split <;> rfl
  | .str, v, a, hn => by simp [noS1] at hn
  | .sl e, v, a, hn => by
    simp only [flat1]
    simp only [noS1] at hn
    split
    · exact sweep_ss (fun i a => flats_ss h rm e _ a hn) _ _ _
    · rfl
theorem flats_ss (h : Hp) (rm : Bool) : ∀ (ls : List Lf) (vs : List V) (a : Sn), noSs ls = true → (flats h rm ls vs a).2 = a.2
  | [], _, _, _ => by simp [flats]
  | _ :: _, [], _, _ => by simp [flats]
  | l :: ls, v :: vs, a, hn => by
    simp only [noSs, Bool.and_eq_true] at hn
    simp only [flats]
    rw [flats_ss h rm ls vs _ hn.2, flat1_ss h rm l v a hn.1]
end
def CallsOk (Tab : Nat → List Lf → Prop) (call : Caller) (g : Nat) (ls : List Lf) : Prop := ∀ (G : Nat → Option BT) (r : Nat) (h : Hp) (yb rho : Nat), TOk G h → G yb = some ⟨ls, r, true, true⟩ → (∀ b t, G b = some t → t.reg = r → t.lfs.length ≤ 4000000000) →
  ∃ lv h' G' m C, call (.fn g) [.p yb 0] h = some (.ret lv, h') ∧ Ext h h' ∧ TOk G' h' ∧ (∀ b, b < h.n → G' b = G b) ∧ Clos Tab G' h' lv m C (fun k => rho + k) ∧ (∀ b, blkOf lv = some b → h.n ≤ b) ∧ ∀ b t, h.n ≤ b → G' b = some t → rho ≤ t.reg ∧ t.wr = true
end Go.Mx

namespace Go.Mx
structure Kp (G : Nat → Option BT) (P R : Nat → Prop) (h h' : Hp) : Prop where
  n : h.n ≤ h'.n
  same : ∀ b, b < h.n → ¬ P b → (∀ t, G b = some t → ¬ R t.reg) → h'.get b = h.get b
theorem Kp.ext {G : Nat → Option BT} {P R : Nat → Prop} {h h' : Hp} (x : Ext h h') : Kp G P R h h' := ⟨x.n, fun b hb _ _ => x.old b hb⟩
theorem Kp.refl (G : Nat → Option BT) (P R : Nat → Prop) (h : Hp) : Kp G P R h h := ⟨Nat.le_refl _, fun _ _ _ _ => rfl⟩
theorem Kp.weak {G : Nat → Option BT} {P P' R R' : Nat → Prop} {h h' : Hp} (a : Kp G P R h h') (hp : ∀ b, b < h.n → P b → P' b) (hr : ∀ q, R q → R' q) : Kp G P' R' h h' :=
  ⟨a.n, fun b hb h1 h2 => a.same b hb (fun h => h1 (hp b hb h)) fun t ht h => h2 t ht (hr _ h)⟩
theorem Kp.trans {G : Nat → Option BT} {P R : Nat → Prop} {h h1 h2 : Hp} (a : Kp G P R h h1) (b : Kp G P R h1 h2) : Kp G P R h h2 :=
  ⟨Nat.le_trans a.n b.n, fun k hk hp hr => (b.same k (Nat.lt_of_lt_of_le hk a.n) hp hr).trans (a.same k hk hp hr)⟩
theorem Kp.saw {ei es : Nat} {G : Nat → Option BT} {r : Nat} {h h' : Hp} {eb : Nat} {E E' : EyeS} (S : Saw ei es (inReg G r) h h' eb 0 E E') (hp : ∀ b, ¬ E.priv b) : Kp G (fun b => b = eb) (fun q => E.mark = true ∧ q = r) h h' :=
  ⟨S.n, fun b hb h1 h2 => S.old b hb h1 (hp b) fun ⟨h3, t, h4, h5⟩ => h2 t h4 ⟨h3, h5⟩⟩
structure EyeK (ei es : Nat) (G : Nat → Option BT) (N : Nat) (h : Hp) (a : Nat) (E : EyeS) : Prop where
  at_ : EyeAt ei es h a 0 E
  ga : G a = none
  gp : ∀ b, E.priv b → G b = none ∧ N ≤ b
theorem EyeK.keep {ei es : Nat} {G : Nat → Option BT} {P R : Nat → Prop} {N : Nat} {h h' : Hp} {a : Nat} {E : EyeS} (H : EyeK ei es G N h a E) (K : Kp G P R h h') (ha : ¬ P a) (hp : ∀ b, E.priv b → ¬ P b) : EyeK ei es G N h' a E :=
  ⟨H.at_.same K.n (K.same a H.at_.lt ha (fun t ht => by rw [H.ga] at ht; cases ht)) (fun b hb => K.same b (H.at_.priv_lt hb) (hp b hb) (fun t ht => by rw [(H.gp b hb).1] at ht; cases ht)), H.ga, H.gp⟩
def eyeN (mark : Bool) (n : Int) (room : Bool) : EyeS := ⟨.nils, .nils, [], [], mark, n, room⟩
theorem eyeN_priv (m : Bool) (n : Int) (r : Bool) : ∀ b, ¬ (eyeN m n r).priv b := by
  rintro b (h | h) <;> simp [eyeN, blkOf] at h
theorem TOk.none {G : Nat → Option BT} {h : Hp} (H : TOk G h) {b : Nat} (hb : h.n ≤ b) : G b = none := by
  cases hg : G b with
  | none => rfl
  | some t => have := (H.blk b t hg).1; omega
theorem EyeK.new {ei es : Nat} {G : Nat → Option BT} {N : Nat} {h : Hp} {a ty : Nat} {m : Bool} {n : Int} {r : Bool} (hG : G a = none) (hlt : a < h.n) (hg : h.get a = some (.blk ty [.nils, .nils, .b m, .i .i64 n, .b r] true)) : EyeK ei es G N h a (eyeN m n r) :=
  ⟨⟨hlt, ⟨ty, _, hg, rfl, rfl, rfl, rfl, rfl⟩, .inl ⟨rfl, rfl⟩, .inl ⟨rfl, rfl⟩, eyeN_priv _ _ _ _, fun b hb => by simp [eyeN, blkOf] at hb⟩, hG, fun b hb => absurd hb (eyeN_priv _ _ _ b)⟩
theorem EyeK.ld {tb : Nat → Option TI} {ei es tE : Nat} {ti : TI} (ht : tb tE = some ti) (ha : ti.agg = true) (hz : ti.size = 5) {G : Nat → Option BT} {N : Nat} {h : Hp} {a : Nat} {E : EyeS} (H : EyeK ei es G N h a E) : loadA tb h tE (.p a 0) = some E.val := by
  obtain ⟨ty, cs, h0, h1, h2, h3, h4, h5⟩ := H.at_.blk
  have hl := (List.getElem?_eq_some_iff.1 h5).1
  have e : (cs.drop 0).take 5 = [E.nv, E.sv, .b E.mark, .i .i64 E.at_, .b E.rm] := by
    apply List.ext_getElem?
    intro j
    rcases Nat.lt_or_ge j 5 with hj | hj
    · rw [List.getElem?_take_of_lt hj, List.getElem?_drop]
      match j, hj with
      | 0, _ => simpa using h1
      | 1, _ => simpa using h2
      | 2, _ => simpa using h3
      | 3, _ => simpa using h4
      | 4, _ => simpa using h5
    · rw [List.getElem?_eq_none (by simp; omega), List.getElem?_eq_none (by simp; omega)]
  simp only [loadA, ht, h0, partV, ha, hz, if_true]
  rw [if_pos (by omega), e]; rfl
theorem Eyes.keep {ei es : Nat} {G : Nat → Option BT} {P R : Nat → Prop} {h h' : Hp} {ob m : Nat} {L : Nat → EyeS} (H : Eyes ei es h ob m L) (K : Kp G P R h h') (hg : G ob = none) (hp : ¬ P ob) (hq : ∀ i, i < m → ∀ b, (L i).priv b → G b = none ∧ ¬ P b) : Eyes ei es h' ob m L := by
  have e : h'.get ob = h.get ob := K.same ob H.lt hp fun t ht => by (rw [hg] at ht; cases ht)
  refine ⟨Nat.lt_of_lt_of_le H.lt K.n, by rw [e]; exact H.blk, fun i hi => (H.at_ i hi).same K.n e fun b hb => ?_, H.sep⟩
  exact K.same b ((H.at_ i hi).priv_lt hb) (hq i hi b hb).2 fun t ht => by (rw [(hq i hi b hb).1] at ht; cases ht)
theorem Clos.keep {Tab : Nat → List Lf → Prop} {G : Nat → Option BT} {P R : Nat → Prop} {h h' : Hp} {lv : V} {m : Nat} {C : Nat → Cl} {reg : Nat → Nat} (H : Clos Tab G h lv m C reg) (K : Kp G P R h h') (hp : ∀ b, blkOf lv = some b → ¬ P b) : Clos Tab G h' lv m C reg :=
  H.same K.n fun b hb hg hl => K.same b hb (hp b hl) fun t ht => by (rw [hg] at ht; cases ht)
theorem SeeOk.run {ei es : Nat} {call : Caller} {g : Nat} {ls : List Lf} (hs : SeeOk ei es call g ls) {G : Nat → Option BT} {N : Nat} {h : Hp} {eb xb : Nat} {m : Bool} {n : Int} {room : Bool} (hT : TOk G h) (hE : EyeK ei es G N h eb (eyeN m n room)) {t : BT} (hx : G xb = some t)
    (hl : ∀ (j : Nat) l, ls[j]? = some l → t.lfs[j]? = some l) (hrm : room = true → t.rm = true) (hmk : m = true → ∀ b t', G b = some t' → t'.reg = t.reg → t'.wr = true) (hw : wides ls ≤ 100000000000) :
    ∃ h' E', call (.fn g) [.p eb 0, .p xb 0] h = some (.ret (.tup []), h') ∧ TOk G h' ∧ EyeK ei es G h.n h' eb E' ∧ Kp G (fun b => b = eb) (fun q => m = true ∧ q = t.reg) h h' ∧ E'.ns.length ≤ 1000000000000 ∧
      (m = false → (E'.ns, E'.ss) = flats h room ls (cellsOf h xb) ([], [])) := by
  have P : Pre ei es G t.reg t.rm h eb 0 (eyeN m n room) := ⟨hT, hE.at_, hE.ga, fun b hb => absurd hb (eyeN_priv _ _ _ b), hrm, fun hm b t' hb hr => hmk hm b t' hb hr⟩
  obtain ⟨h', E', hc, hp, hf⟩ := hs G h eb 0 _ xb 0 t P hx (by simpa using hl) (by simp [eyeN]; omega)
  refine ⟨h', E', hc, hp.ok, ⟨hp.saw.at_, hE.ga, fun b hb => ?_⟩, Kp.saw hp.saw (eyeN_priv _ _ _), ?_, fun hm => ?_⟩
  · rcases hp.saw.priv b hb with h1 | h1
    · exact absurd h1 (eyeN_priv _ _ _ b)
    · exact ⟨hT.none h1, h1⟩
  · have := hp.len; simp [eyeN] at this; omega
  · have := hf hm; simpa [eyeN] using this
end Go.Mx

namespace Go.Mx
theorem look_mem {α : Type} : ∀ {l : List (Nat × α)} {b : Nat} {x : α}, look l b = some x → (b, x) ∈ l
  | [], _, _, h => by simp [look] at h
  | (k, v) :: r, b, x, h => by
    simp only [look] at h
    split at h
    · rename_i e; cases h
      have : k = b := by simpa using e
      subst this; simp
    · exact List.mem_cons_of_mem _ (look_mem h)
def FlatAt (h : Hp) (p : Nat × List Lf) : Prop := p.1 < h.n ∧ p.2.length ≤ 4000000000 ∧ ∃ ty cs, h.get p.1 = some (.blk ty cs true) ∧ cs.length = p.2.length ∧ ∀ (j : Nat) lf x, p.2[j]? = some lf → cs[j]? = some x → ∀ G r rm, LfOk G r rm lf x
def addOwn (G : Nat → Option BT) (D : List (Nat × List Lf)) (r : Nat) (b : Nat) : Option BT := match look D b with
  | some l => some ⟨l, r, true, true⟩
  | none => G b
theorem TOk.own {G : Nat → Option BT} {h : Hp} (H : TOk G h) {D : List (Nat × List Lf)} (hD : ∀ p ∈ D, FlatAt h p) (hG : ∀ p ∈ D, G p.1 = Option.none) (r : Nat) : TOk (addOwn G D r) h where
  small b t hb := by
    unfold addOwn at hb
    split at hb
    · rename_i l hl; cases hb; exact Nat.le_trans (hD _ (look_mem hl)).2.1 (by decide)
    · exact H.small b t hb
  blk b t hb := by
    unfold addOwn at hb
    split at hb
    · rename_i l hl; cases hb
      obtain ⟨h1, _, ty, cs, h2, h3, h4⟩ := hD _ (look_mem hl)
      exact ⟨h1, ty, cs, true, h2, h3, ⟨fun _ => rfl, fun h => by cases h⟩, fun j lf x hl' hx => h4 j lf x hl' hx _ _ _⟩
    · obtain ⟨h1, ty, cs, rw', h2, h3, h4, h5⟩ := H.blk b t hb
      refine ⟨h1, ty, cs, rw', h2, h3, h4, fun j l v hl hv => LfOk.gext (fun b' t' hb' => ?_) (h5 j l v hl hv)⟩
      unfold addOwn
      cases hd : look D b' with
      | none => exact hb'
      | some l' => rw [hG _ (look_mem hd)] at hb'; cases hb'
theorem addOwn_list {G : Nat → Option BT} {D : List (Nat × List Lf)} {r b n : Nat} {e : List Lf} (hl : look D b = some (repL (n + 2) e)) (hp : 0 < e.length) : LfOk (addOwn G D r) r true (.sl e) (.sl b 0 n (some (n + 2)) e.length) := by
  refine .inr (.inr ⟨b, 0, n, some (n + 2), ⟨repL (n + 2) e, r, true, true⟩, n + 2, rfl, by simp [addOwn, hl], rfl, rfl, by omega, by simp only [repL_length]; simp, fun _ => rfl, fun i hi j l hl => ?_⟩)
  rw [Nat.zero_add]; exact (repL_get (n + 2) e i j hi (List.getElem?_eq_some_iff.1 hl).1).trans hl
end Go.Mx

namespace Go.Mx
def IntCells (cs : List V) : Prop := ∀ (j : Nat) x, cs[j]? = some x → ∃ k, x = .i .i64 k ∧ IntKind.i64.wrap k = k
def IntRes (h h' : Hp) (v : V) : Prop := v = .nils ∨ ∃ b n c ty cs, v = .sl b 0 n c 1 ∧ h.n ≤ b ∧ b < h'.n ∧ n ≤ 1000000 ∧ h'.get b = some (.blk ty cs true) ∧ cs.length = n ∧ IntCells cs
structure IL (tb : Nat → Option TI) (sT iT : Nat) (h : Hp) (v : V) (n : Nat) : Prop where
  len : bltA tb .len #[sT] [v] = some (.i .i64 n)
  small : n ≤ 1000000000000
  one : v.one = true
  cl : v.cells = [v]
  at_ : ∀ hh, Ext h hh → ∀ i : Nat, i < n → ∃ b o, ∃ x : Int, indexAddrA tb sT v (.i .i64 i) = some (.p b o) ∧ loadA tb hh iT (.p b o) = some (.i .i64 x) ∧ IntKind.i64.wrap x = x
structure NumT (tb : Nat → Option TI) (sT iT : Nat) : Prop where
  sl : ∃ si, tb sT = some si ∧ si.d = .slice iT
  el : ∃ te, tb iT = some te ∧ te.size = 1 ∧ te.agg = false
theorem IL.of {tb : Nat → Option TI} {sT iT : Nat} (T : NumT tb sT iT) {G : Nat → Option BT} {r : Nat} {rm : Bool} {h : Hp} {v : V} (hT : TOk G h) (hv : LfOk G r rm (.sl [.int .i64]) v) : ∃ n, IL tb sT iT h v n := by
  obtain ⟨si, hsi, hd⟩ := T.sl
  obtain ⟨te, hte, hz, hag⟩ := T.el
  obtain ⟨m, hlen, v', m', F, _, hv', R, _⟩ := rows_of (room := false) (sT := sT) (tb := tb) ⟨⟨_, _, _, hsi, hd, hte, (show te.size = [Lf.int .i64].length from hz)⟩, by simp⟩ hT hv (by simp)
  have hvv := hv' rfl; subst hvv
  have hmm : m' = m := by have := R.len; rw [hlen] at this; simp at this; omega
  subst hmm
  refine ⟨m', hlen, R.small, hv.one, ?_, fun hh hx i hi => ?_⟩
  · simp only [LfOk] at hv
    rcases hv with rfl | ⟨_, b, rfl⟩ | ⟨b, o, n, c, t, m, rfl, _⟩ <;> rfl
  · obtain ⟨b, o, t, hia, hGb, hreg, hrm, hsub, _⟩ := R.row i hi
    obtain ⟨hblt, ty, cs, rw', hg, hcl, _, hok⟩ := hT.blk b t hGb
    have hs0 := hsub 0 _ rfl
    have ho : o < cs.length := by rw [hcl]; exact (List.getElem?_eq_some_iff.1 hs0).1
    obtain ⟨x, hxx, hw⟩ := hok o _ _ hs0 (List.getElem?_eq_getElem ho)
    exact ⟨b, o, x, hia, by simp [loadA, hte, hx.old b hblt, hg, partV, hag, ho, hxx], hw⟩
theorem cut_ok {tb : Nat → Option TI} {sT : Nat} {e : List Lf} (T : RowT tb sT e) {G : Nat → Option BT} {r : Nat} {v : V} (hv : LfOk G r true (.sl e) v) {n : Nat} (hn : bltA tb .len #[sT] [v] = some (.i .i64 n)) {lo hi : Option Int} {a c : Nat}
    (hlo : (lo = none ∧ a = 0) ∨ lo = some (a : Int)) (hhi : (hi = none ∧ c = n) ∨ hi = some (c : Int)) (hac : a ≤ c) (hcn : c ≤ n) :
    ∃ v', sliceA tb sT v lo hi none = some v' ∧ LfOk G r true (.sl e) v' ∧ bltA tb .len #[sT] [v'] = some (.i .i64 ((c - a : Nat) : Int)) := by
  obtain ⟨⟨si, el, te, h1, h2, h3, h4⟩, h5⟩ := T
  simp only [LfOk] at hv
  rcases hv with rfl | ⟨hf, b, rfl⟩ | ⟨b, o, n', k, t, m, rfl, hb, hr, htr, hnm, hom, hk, hrow⟩
  · have hn0 : n = 0 := by simp [bltA, h1, h2] at hn; omega
    subst hn0
    obtain rfl : c = 0 := by omega
    obtain rfl : a = 0 := by omega
    have hb : bnds 0 0 lo hi none = some (0, 0, 0) := by
      rcases hlo with ⟨rfl, _⟩ | rfl <;> rcases hhi with ⟨rfl, _⟩ | rfl <;> simp [bnds]
    exact ⟨.nils, by simp [sliceA, h1, h2, h3, hb], .inl rfl, by simp [bltA, h1, h2]⟩
  · cases hf
  · have hn' : n' = n := by simp [bltA, h1, h2] at hn; omega
    subst hn'
    have hk' := hk trivial
    subst hk'
    have hbd : bnds n' m lo hi none = some (a, c, m) := by
      have c1 : (0 : Int) ≤ (c : Int) ∧ (c : Int) ≤ (m : Int) := by omega
      have c2 : (0 : Int) ≤ (a : Int) ∧ (a : Int) ≤ (c : Int) := by omega
      rcases hlo with ⟨rfl, ha0⟩ | rfl <;> rcases hhi with ⟨rfl, hcn'⟩ | rfl
      · subst ha0; subst hcn'; simp [bnds]
      · subst ha0; simp only [bnds, if_pos c1, Int.toNat_natCast]
      · subst hcn'; simp only [bnds, Option.isNone_none, if_true, if_pos c2, Int.toNat_natCast]
      · simp only [bnds, if_pos c1, Int.toNat_natCast, if_pos c2]
    by_cases hma : m = a
    · refine ⟨.sl b o 0 (some 0) e.length, by simp only [sliceA, h1, h2, h3, h4, hbd, if_true]; rw [if_pos hma], .inr (.inr ⟨b, o, 0, some 0, t, 0, rfl, hb, hr, htr, Nat.le_refl _, by omega, fun _ => rfl, fun i hi => by omega⟩), ?_⟩
      simp [bltA, h1, h2]; omega
    · have hmul : a * e.length + (m - a) * e.length = m * e.length := by rw [← Nat.add_mul]; congr 1; omega
      refine ⟨.sl b (o + a * e.length) (c - a) (some (m - a)) e.length, by simp only [sliceA, h1, h2, h3, h4, hbd, if_true, hma, if_false], .inr (.inr ⟨b, _, _, _, t, m - a, rfl, hb, hr, htr, by omega, by omega, fun _ => rfl, fun i hi j l hl => ?_⟩), ?_⟩
      · have := hrow (a + i) (by omega) j l hl
        rw [Nat.add_mul, ← Nat.add_assoc o] at this
        exact this
      · simp [bltA, h1, h2]
end Go.Mx

namespace Go.Mx
section
variable {tb : Nat → Option TI} {call : Caller} {sz : Nat} {ops : Array Oper}
theorem Wo.split (n : Nat) {l : List Oper} {fr : List (Nat × V)} {ds : List Dfr} {h : Hp} {Q : Ex → St → Prop} {t : Bool} (_ : look fr n = some (.b t))
    (h1 : t = true → Wo tb call sz ops l ⟨fr, ds, h⟩ Q) (h2 : t = false → Wo tb call sz ops l ⟨fr, ds, h⟩ Q) : Wo tb call sz ops l ⟨fr, ds, h⟩ Q := by
  cases t
  · exact h2 rfl
  · exact h1 rfl
theorem Wz.split (n : Nat) {opl : List Oper} {dsts : List Nat} {pl : List PS} {lds : List Ld} {als : List Al} {fr : List (Nat × V)} {ds : List Dfr} {h : Hp} {Q : Ex → St → Prop} {t : Bool} (_ : look fr n = some (.b t))
    (h1 : t = true → Wz tb call sz opl dsts pl lds als ⟨fr, ds, h⟩ Q) (h2 : t = false → Wz tb call sz opl dsts pl lds als ⟨fr, ds, h⟩ Q) : Wz tb call sz opl dsts pl lds als ⟨fr, ds, h⟩ Q := by
  cases t
  · exact h2 rfl
  · exact h1 rfl
end
theorem IL.cut {tb : Nat → Option TI} {sT iT : Nat} (T : NumT tb sT iT) (R : RowT tb sT [.int .i64]) {G : Nat → Option BT} {r : Nat} {h : Hp} {v : V} (hT : TOk G h) (hv : LfOk G r true (.sl [.int .i64]) v) {n : Nat} (hn : bltA tb .len #[sT] [v] = some (.i .i64 n)) {lo hi : Option Int} {a c : Nat}
    (hlo : (lo = none ∧ a = 0) ∨ lo = some (a : Int)) (hhi : (hi = none ∧ c = n) ∨ hi = some (c : Int)) (hac : a ≤ c) (hcn : c ≤ n) :
    ∃ v', sliceA tb sT v lo hi none = some v' ∧ LfOk G r true (.sl [.int .i64]) v' ∧ IL tb sT iT h v' (c - a) := by
  obtain ⟨v', h1, h2, h3⟩ := cut_ok R hv hn hlo hhi hac hcn
  obtain ⟨m, hL⟩ := IL.of T hT h2
  have : m = c - a := by have := hL.len; rw [h3] at this; simp at this; omega
  subst this
  exact ⟨v', h1, h2, hL⟩
theorem IntRes.one {h h' : Hp} {b ty : Nat} {x : Int} {c : Option Nat} (h1 : h.n ≤ b) (h2 : b < h'.n) (h3 : h'.get b = some (.blk ty [.i .i64 x] true)) (h4 : IntKind.i64.wrap x = x) : IntRes h h' (.sl b 0 1 c 1) :=
  .inr ⟨b, 1, c, ty, _, rfl, h1, h2, by omega, h3, rfl, fun j y hy => by
    match j with
    | 0 => cases hy; exact ⟨x, rfl, h4⟩
    | j + 1 => simp at hy⟩
end Go.Mx

namespace Go.Mx
theorem LfOk.vbeq {G : Nat → Option BT} {r : Nat} {rm : Bool} {l : Lf} {v : V} (h : LfOk G r rm l v) : Go.Mx.vbeq v v = true := by
  cases l with
  | int k => simp only [LfOk] at h; obtain ⟨n, rfl, _⟩ := h; simp [Go.Mx.vbeq]
  | bool => simp only [LfOk] at h; obtain ⟨n, rfl⟩ := h; simp [Go.Mx.vbeq]
  | str => simp only [LfOk] at h; obtain ⟨n, rfl⟩ := h; simp [Go.Mx.vbeq]
  | sl e => simp only [LfOk] at h; rcases h with rfl | ⟨_, b, rfl⟩ | ⟨b, o, n, c, t, m, rfl, _⟩ <;> simp [Go.Mx.vbeq]
def CallEnd (Tab : Nat → List Lf → Prop) (G : Nat → Option BT) (h : Hp) (rho : Nat) (lv : V) (h' : Hp) : Prop :=
  ∃ G' m C, Ext h h' ∧ TOk G' h' ∧ (∀ b, b < h.n → G' b = G b) ∧ Clos Tab G' h' lv m C (fun k => rho + k) ∧ (∀ b, blkOf lv = some b → h.n ≤ b) ∧ ∀ b t, h.n ≤ b → G' b = some t → rho ≤ t.reg ∧ t.wr = true
theorem CallsOk.of {Tab : Nat → List Lf → Prop} {tb : Nat → Option TI} {fc : Nat → Option Func} {call call' : Caller} {lf g : Nat} {fn : Func} {ls : List Lf} (hc : ∀ args h, call' (.fn g) args h = runF tb fc call lf fn args h)
    (H : ∀ (G : Nat → Option BT) (r : Nat) (h : Hp) (yb rho : Nat), TOk G h → G yb = some ⟨ls, r, true, true⟩ → ∀ yty yc yrw, yb < h.n → h.get yb = some (.blk yty yc yrw) → yc.length = ls.length → (∀ (j : Nat) l v, ls[j]? = some l → yc[j]? = some v → LfOk G r true l v) →
      Wf tb fc call lf fn [.p yb 0] h (CallEnd Tab G h rho)) : CallsOk Tab call' g ls := by
  intro G r h yb rho hT hy _
  obtain ⟨hylt, yty, yc, yrw, hyg, hyl, _, hyok⟩ := hT.blk yb _ hy
  obtain ⟨w, h', h1, G', m, C, h2⟩ := H G r h yb rho hT hy yty yc yrw hylt hyg hyl hyok
  exact ⟨w, h', G', m, C, by rw [hc]; exact h1, h2⟩
theorem CallEnd.nil {Tab : Nat → List Lf → Prop} {G : Nat → Option BT} {h h' : Hp} {rho : Nat} (hT : TOk G h) (hx : Ext h h') : CallEnd Tab G h rho .nils h' :=
  ⟨G, 0, fun _ => ⟨0, 0, []⟩, hx, hT.ext hx, fun _ _ => rfl, ⟨.inl ⟨rfl, rfl⟩, fun i hi => absurd hi (by omega), by omega⟩, fun b hb => by simp [blkOf] at hb, fun b t hb ht => by
    have := (hT.blk b t ht).1; omega⟩
def ResOk (h h' : Hp) (ls : List Lf) (vs : List V) : Prop := vs.length = ls.length ∧ ∃ D : Nat → Option (List Lf), DatOk D h' ∧ (∀ b l, D b = some l → h.n ≤ b) ∧ ∀ (j : Nat) lf x, ls[j]? = some lf → vs[j]? = some x → ∀ r, LfOk (asReg D r) r false lf x
theorem CallEnd.one {Tab : Nat → List Lf → Prop} {G : Nat → Option BT} {h h' : Hp} {rho : Nat} (hT : TOk G h) (hx : Ext h h') {D : Nat → Option (List Lf)} {gc lb bb fty bty : Nat} {rl : List Lf} {vs : List V} (htab : Tab gc rl) (hsm : rl.length ≤ 1000 ∧ wides rl ≤ 1000 ∧ noSs rl = true)
    (hD : DatOk D h') (hDn : ∀ b l, D b = some l → h.n ≤ b ∧ b ≠ bb ∧ b ≠ lb) (hbb : h.n ≤ bb) (hlb : h.n ≤ lb) (hne : lb ≠ bb) (hbl : bb < h'.n) (hll : lb < h'.n)
    (glb : h'.get lb = some (.blk fty [.f (.func gc) [] [.p bb 0]] true)) (gbb : h'.get bb = some (.blk bty vs true)) (hvl : vs.length = rl.length) (hv : ∀ (j : Nat) lf x, rl[j]? = some lf → vs[j]? = some x → ∀ r, LfOk (asReg D r) r false lf x) :
    CallEnd Tab G h rho (.sl lb 0 1 (some 1) 1) h' := by
  have hDb : D bb = none := by
    cases hd : D bb with
    | none => rfl
    | some l => exact absurd rfl (hDn bb l hd).2.1
  have hD4 : DatOk (boxD D bb rl) h' := hD.box (Nat.le_refl _) (fun b l hb => rfl) hDb hbl (by omega) gbb hvl hv
  have hGn : ∀ b, h.n ≤ b → G b = none := fun b hb => by
    cases hg : G b with
    | none => rfl
    | some t => have := (hT.blk b t hg).1; omega
  have hnew : ∀ b l, boxD D bb rl b = some l → h.n ≤ b := fun b l hb => by
    unfold boxD at hb
    split at hb
    · omega
    · exact (hDn b l hb).1
  refine ⟨addReg G (boxD D bb rl) rho, 1, fun _ => ⟨gc, bb, rl⟩, hx, (hT.ext hx).add hD4 (fun b l hb => hGn b (hnew b l hb)) rho, fun b hb => ?_, ⟨.inr ⟨lb, fty, [.f (.func gc) [] [.p bb 0]], true, rfl, hll, ?_, glb, fun i hi => ?_⟩, fun i hi => ⟨htab, ⟨Nat.le_trans hsm.2.1 (by omega), fun hh => by rw [flats_ss _ _ _ _ _ hsm.2.2]; simp⟩, ⟨rl, rho, false, true⟩, by simp [addReg, boxD], (by simp; omega), fun j l hl => by simpa using hl⟩, ?_⟩, (fun b hb => by (simp only [blkOf, Option.some.injEq] at hb; omega)), fun b t hb hbt => ?_⟩
  · unfold addReg
    cases hd : boxD D bb rl b with
    | none => rfl
    | some l => have := hnew b l hd; omega
  · unfold addReg
    cases hd : boxD D bb rl lb with
    | none => exact hGn _ hlb
    | some l =>
      unfold boxD at hd
      rw [if_neg hne] at hd
      exact absurd rfl (hDn _ _ hd).2.2
  · obtain rfl : i = 0 := by omega
    rfl
  · omega
  · unfold addReg at hbt
    split at hbt
    · cases hbt; exact ⟨Nat.le_refl _, rfl⟩
    · rw [hGn b hb] at hbt; cases hbt
theorem CallEnd.drawn {Tab : Nat → List Lf → Prop} {G : Nat → Option BT} {h h2 : Hp} {rho bt ft gc : Nat} {zs vs : List V} {rl : List Lf} (hT : TOk G h) (htab : Tab gc rl) (hsm : rl.length ≤ 1000 ∧ wides rl ≤ 1000 ∧ noSs rl = true)
    (x2 : Ext (h.push (.blk bt zs true)) h2) (hres : ResOk (h.push (.blk bt zs true)) h2 rl vs) : CallEnd Tab G h rho (.sl h2.n 0 1 (some 1) 1) ((h2.set h.n (.blk bt vs true)).push (.blk ft [.f (.func gc) [] [.p h.n 0]] true)) := by
  obtain ⟨hvl, D, hD, hDn, hv⟩ := hres
  have hn2 := x2.n
  simp only [Hp.n_push] at hn2
  have xx : Ext h (h2.set h.n (.blk bt vs true)) := ((Ext.push _ _).trans x2).set (Nat.le_refl _) _
  have hDb : ∀ b l, D b = some l → h.n + 1 ≤ b ∧ b < h2.n := fun b l hb => ⟨by have := hDn b l hb; simpa using this, (hD b l hb).1⟩
  refine CallEnd.one (bb := h.n) (lb := h2.n) hT (xx.trans (Ext.push _ _)) htab hsm (fun b l hb => ?_) (fun b l hb => ?_) (Nat.le_refl _) (by omega) (by omega) (by simp; omega) (by simp) (by rw [show h2.n = (h2.set h.n (.blk bt vs true)).n from rfl]; exact Hp.get_push_self _ _) (by rw [Hp.get_push_ne _ _ (by simp; omega), Hp.get_set_self]) hvl hv
  · have hb' := hDb b l hb
    obtain ⟨h1, h2', ty, cs, h3, h4, h5⟩ := hD b l hb
    refine ⟨by simp; omega, h2', ty, cs, ?_, h4, h5⟩
    rw [Hp.get_push_ne _ _ (by simp; omega), Hp.get_set_ne _ _ (by omega)]; exact h3
  · have := hDb b l hb; omega
theorem CallEnd.plain {Tab : Nat → List Lf → Prop} {G : Nat → Option BT} {h h2 : Hp} {rho bt ft gc : Nat} {zs vs : List V} {rl : List Lf} (hT : TOk G h) (htab : Tab gc rl) (hsm : rl.length ≤ 1000 ∧ wides rl ≤ 1000 ∧ noSs rl = true)
    (x2 : Ext h h2) (hres : ResOk h h2 rl vs) : CallEnd Tab G h rho (.sl (h2.n + 1) 0 1 (some 1) 1) (((h2.push (.blk bt zs true)).set h2.n (.blk bt vs true)).push (.blk ft [.f (.func gc) [] [.p h2.n 0]] true)) := by
  obtain ⟨hvl, D, hD, hDn, hv⟩ := hres
  have hn2 := x2.n
  have xx : Ext h ((h2.push (.blk bt zs true)).set h2.n (.blk bt vs true)) := (x2.trans (Ext.push _ _)).set hn2 _
  have hDb : ∀ b l, D b = some l → h.n ≤ b ∧ b < h2.n := fun b l hb => ⟨hDn b l hb, (hD b l hb).1⟩
  refine CallEnd.one (bb := h2.n) (lb := h2.n + 1) hT (xx.trans (Ext.push _ _)) htab hsm (fun b l hb => ?_) (fun b l hb => ?_) (by omega) (by omega) (by omega) (by simp; omega) (by simp) (by rw [show h2.n + 1 = ((h2.push (.blk bt zs true)).set h2.n (.blk bt vs true)).n from by simp]; exact Hp.get_push_self _ _) (by rw [Hp.get_push_ne _ _ (by simp), Hp.get_set_self]) hvl hv
  · have hb' := hDb b l hb
    obtain ⟨h1, h2', ty, cs, h3, h4, h5⟩ := hD b l hb
    refine ⟨by simp; omega, h2', ty, cs, ?_, h4, h5⟩
    rw [Hp.get_push_ne _ _ (by simp; omega), Hp.get_set_ne _ _ (by omega), Hp.get_push_ne _ _ (by omega)]; exact h3
  · have := hDb b l hb; omega
end Go.Mx

namespace Go.Mx
def CopyOk (call : Caller) (g : Nat) (e : List Lf) : Prop := ∀ (G : Nat → Option BT) (r : Nat) (rm : Bool) (h : Hp) (v : V), TOk G h → (∀ b t, G b = some t → t.lfs.length ≤ 2000000000) → LfOk G r rm (.sl e) v →
  ∃ (n : Nat) (h' : Hp), n * e.length ≤ 2000000000 ∧ call (.fn g) [v] h = some (.ret (.sl h.n 0 n (some (n + 2)) e.length), h') ∧ Ext h h' ∧ h'.n = h.n + 1 ∧
    ∃ ty cs, h'.get h.n = some (.blk ty cs true) ∧ cs.length = (repL (n + 2) e).length ∧ ∀ (j : Nat) l x, (repL (n + 2) e)[j]? = some l → cs[j]? = some x → ∀ G r rm, LfOk G r rm l x
def OwnOk (call : Caller) (g : Nat) (ls : List Lf) : Prop := ∀ (G : Nat → Option BT) (r r' : Nat) (rm : Bool) (h : Hp) (xs : List V), TOk G h → (∀ b t, G b = some t → t.lfs.length ≤ 2000000000) → xs.length = ls.length → (∀ (j : Nat) l x, ls[j]? = some l → xs[j]? = some x → LfOk G r rm l x) →
  ∃ h' ys G', call (.fn g) [.agg xs] h = some (.ret (.agg ys), h') ∧ Ext h h' ∧ TOk G' h' ∧ ys.length = ls.length ∧ (∀ (j : Nat) l y, ls[j]? = some l → ys[j]? = some y → LfOk G' r' true l y) ∧
    (∀ b, b < h.n → G' b = G b) ∧ (∀ b t, h.n ≤ b → G' b = some t → t.reg = r' ∧ t.rm = true ∧ t.wr = true ∧ t.lfs.length ≤ 4000000000)
def DupOk (mk : List V → V) (call : Caller) (g : Nat) (ls : List Lf) : Prop := ∀ (G : Nat → Option BT) (r : Nat) (rm : Bool) (h : Hp) (xs : List V), TOk G h → (∀ b t, G b = some t → t.lfs.length ≤ 2000000000) → xs.length = ls.length → (∀ (j : Nat) l x, ls[j]? = some l → xs[j]? = some x → LfOk G r rm l x) →
  ∃ h' ys D, call (.fn g) [mk xs] h = some (.ret (mk ys), h') ∧ Ext h h' ∧ ys.length = ls.length ∧ (∀ p ∈ D, FlatAt h' p ∧ h.n ≤ p.1) ∧ ∀ (r' : Nat) (j : Nat) l y, ls[j]? = some l → ys[j]? = some y → LfOk (addOwn (fun _ => none) D r') r' true l y
def mk1 (xs : List V) : V := xs.headD .jk
theorem CopyOk.dup {call : Caller} {g : Nat} {e : List Lf} (H : CopyOk call g e) (hp : 0 < e.length) (hle : e.length ≤ 1000) : DupOk mk1 call g [.sl e] := by
  intro G r rm h xs hT hs hxl hxs
  obtain ⟨x, rfl⟩ : ∃ x, xs = [x] := by
    match xs, hxl with
    | [x], _ => exact ⟨x, rfl⟩
  obtain ⟨n, h', hn, hc, hx, hl, ty, cs, hg, hcl, hcs⟩ := H G r rm h x hT hs (hxs 0 _ _ rfl rfl)
  refine ⟨h', [.sl h.n 0 n (some (n + 2)) e.length], [(h.n, repL (n + 2) e)], hc, hx, rfl, fun p hp => ?_, fun r' j l y hj hy => ?_⟩
  · obtain rfl : p = _ := by simpa using hp
    refine ⟨⟨by simp; omega, ?_, ty, cs, hg, hcl, hcs⟩, Nat.le_refl _⟩
    simp only [repL_length]
    rw [Nat.add_mul]; omega
  · match j with
    | 0 => cases hj; cases hy; exact addOwn_list (by simp [look]) hp
    | j + 1 => simp at hj
theorem FlatAt.ext {h h' : Hp} {p : Nat × List Lf} (H : FlatAt h p) (x : Ext h h') : FlatAt h' p := by
  obtain ⟨h1, h2, ty, cs, h3, h4⟩ := H
  exact ⟨Nat.lt_of_lt_of_le h1 x.n, h2, ty, cs, by rw [x.old _ h1]; exact h3, h4⟩
theorem FlatAt.set {h : Hp} {p : Nat × List Lf} (H : FlatAt h p) {b : Nat} {o : Ob} (hne : p.1 ≠ b) : FlatAt (h.set b o) p := by
  obtain ⟨h1, h2, ty, cs, h3, h4⟩ := H
  exact ⟨by simpa using h1, h2, ty, cs, by rw [Hp.get_set_ne _ _ hne]; exact h3, h4⟩
theorem look_app {α : Type} : ∀ (A B : List (Nat × α)) (b : Nat), look (A ++ B) b = match look A b with
    | some x => some x
    | none => look B b
  | [], B, b => by simp [look]
  | p :: A, B, b => by
    obtain ⟨k, v⟩ := p
    simp only [List.cons_append, look]
    split
    · rfl
    · exact look_app A B b
theorem DupOk.own {call : Caller} {g : Nat} {ls : List Lf} (H : DupOk .agg call g ls) : OwnOk call g ls := by
  intro G r r' rm h xs hT hs hxl hxs
  obtain ⟨h', ys, D, hc, hx, hyl, hD, hy⟩ := H G r rm h xs hT hs hxl hxs
  refine ⟨h', ys, addOwn G D r', hc, hx, (hT.ext hx).own (fun p hp => (hD p hp).1) (fun p hp => hT.none (hD p hp).2) r', hyl, fun j l y hj hyy => (hy r' j l y hj hyy).gext fun b t hb => ?_, fun b hb => ?_, fun b t hb hbt => ?_⟩
  · unfold addOwn at hb ⊢
    split at hb
    · exact hb
    · cases hb
  · unfold addOwn
    cases hd : look D b with
    | none => rfl
    | some l => have h2 := (hD _ (look_mem hd)).2; dsimp only at h2; omega
  · unfold addOwn at hbt
    split at hbt
    · rename_i l hd; cases hbt; exact ⟨rfl, rfl, rfl, (hD _ (look_mem hd)).1.2.1⟩
    · rw [hT.none hb] at hbt; cases hbt
theorem LfOk.cl {G : Nat → Option BT} {r : Nat} {rm : Bool} {l : Lf} {v : V} (h : LfOk G r rm l v) : v.cells = [v] := by
  cases l with
  | int k => simp only [LfOk] at h; obtain ⟨n, rfl, _⟩ := h; rfl
  | bool => simp only [LfOk] at h; obtain ⟨n, rfl⟩ := h; rfl
  | str => simp only [LfOk] at h; obtain ⟨n, rfl⟩ := h; rfl
  | sl e => simp only [LfOk] at h; rcases h with rfl | ⟨_, b, rfl⟩ | ⟨b, o, n, c, t, m, rfl, _⟩ <;> rfl
end Go.Mx

namespace Go.Mx
theorem Post1.keep {ei es : Nat} {G : Nat → Option BT} {r : Nat} {rm : Bool} {h h' : Hp} {eb eo : Nat} {E : EyeS} (P : Pre ei es G r rm h eb eo E) (hn : h'.n = h.n) (hg : ∀ b, h'.get b = h.get b) : Post1 ei es G r h h' eb eo E E 0 :=
  ⟨⟨by omega, P.eye.same (by omega) (hg _) (fun b _ => hg b), rfl, rfl, fun _ h => .inl h, fun b _ _ _ _ => hg b, fun ty cs h => ⟨cs, by rw [hg]; exact h, rfl, fun _ _ => rfl⟩⟩, P.ok.same (by omega) (fun b _ _ => hg b), by omega⟩
theorem addOwn_left {D B : List (Nat × List Lf)} {r : Nat} {rm : Bool} {l : Lf} {v : V} (H : LfOk (addOwn (fun _ => none) D r) r rm l v) : LfOk (addOwn (fun _ => none) (D ++ B) r) r rm l v := by
  refine H.gext fun b t hb => ?_
  unfold addOwn at hb ⊢
  cases hd : look D b with
  | none => rw [hd] at hb; cases hb
  | some l' => rw [hd] at hb; rw [look_app, hd]; exact hb
theorem addOwn_skip {A X : List (Nat × List Lf)} {r m : Nat} (hA : ∀ p ∈ A, p.1 < m) (hX : ∀ p ∈ X, m ≤ p.1) {rm : Bool} {l : Lf} {v : V} (H : LfOk (addOwn (fun _ => none) X r) r rm l v) : LfOk (addOwn (fun _ => none) (A ++ X) r) r rm l v := by
  refine H.gext fun b t hb => ?_
  unfold addOwn at hb ⊢
  cases hd : look X b with
  | none => rw [hd] at hb; cases hb
  | some l' =>
    have ha : look A b = none := by
      cases h : look A b with
      | none => rfl
      | some l2 => have h1 := hA _ (look_mem h); have h2 := hX _ (look_mem hd); dsimp only at h1 h2; omega
    rw [look_app, ha, hd]
    rw [hd] at hb; exact hb
theorem all_app {α : Type} {P : α → Prop} {A B : List α} (h1 : ∀ p ∈ A, P p) (h2 : ∀ p ∈ B, P p) : ∀ p ∈ A ++ B, P p := fun p hp => (List.mem_append.1 hp).elim (h1 p) (h2 p)
end Go.Mx

namespace Go.Mx
theorem HRel.view {M : Mod} {B : Base} {h : Hp} {w : World} (H : HRel M B h w) (hro : ∀ id ob, h.get id = some ob → ob.wr = false) {r bas siz ty : Nat} {cs : Array Value} {fr : Nat × Nat} (hr : w.heap[r]? = some (.cells cs ty fr)) (hb : bas + siz ≤ cs.size)
    (cs' : List V) (hl : cs'.length ≤ siz) (hfz : ∀ o, bas ≤ o → o < bas + cs'.length → ¬ (fr.1 ≤ o ∧ o < fr.2)) (hc : ∀ (j : Nat) (v : V), cs'[j]? = some v → ∃ y, cs[bas + j]? = some y ∧ VRel M v y) : HRel (M.push r bas cs'.length siz) B (h.push (.blk (2 * ty + 1) cs' false)) w := by
  have hle := M.le_push H.okM r bas cs'.length siz
  have hMn := H.n
  have pb : ∀ i, i ≠ h.n → (M.push r bas cs'.length siz).blk i = M.blk i := fun i hi => by simp [Mod.push, hMn, hi]
  have pb2 : (M.push r bas cs'.length siz).blk h.n = r := by simp [Mod.push, hMn]
  have hoks : ∀ id, (M.push r bas cs'.length siz).ok id → id ≠ h.n → M.ok id := fun id hk e => by
    rcases hk with hk | hk
    · exact absurd (hk.trans hMn) e
    · exact hk.2
  refine ⟨by simp [Mod.push, hMn], H.os, H.tape, H.output, H.size, H.old, ?_, ?_, ?_, ?_⟩
  · intro id ob hi
    by_cases e : id = h.n
    · subst e; simp
    · rw [Hp.get_push_ne _ _ e] at hi
      have := H.lt id ob hi; simp; omega
  · intro id hk
    by_cases e : id = h.n
    · subst e; simp
    · have := H.okn id (hoks id hk e); simp; omega
  · intro id ob hi hk
    by_cases e : id = h.n
    · subst e
      rw [Hp.get_push_self] at hi; cases hi
      refine ⟨cs, fr, by rw [pb2, show (2 * ty + 1) / 2 = ty by omega]; exact hr, by simp [Mod.push, hMn], by simp [Mod.push, hMn]; omega, by simp [Mod.push, hMn]; omega, ?_, (fun h => by cases h), (fun h => by omega), fun _ _ o h1 h2 => hfz o (by simpa [Mod.push, hMn] using h1) (by simpa [Mod.push, hMn] using h2)⟩
      intro j v hj
      obtain ⟨y, hy, hv⟩ := hc j v hj
      exact ⟨y, by simp [Mod.push, hMn]; exact hy, hv.mono hle⟩
    · rw [Hp.get_push_ne _ _ e] at hi
      exact (H.blk id ob hi (hoks id hk e)).mono hle.toLe0 (hoks id hk e) fun _ => rfl
  · intro id id' ob ob' hne hi hi' hk hk' hl hl' hrr
    exfalso
    by_cases e : id = h.n
    · subst e; rw [Hp.get_push_self] at hi; cases hi; simp [Ob.wr] at hrr
    · rw [Hp.get_push_ne _ _ e] at hi
      rw [hro id ob hi] at hrr; cases hrr
theorem HRel.viewDead {M : Mod} {B : Base} {h : Hp} {w : World} (H : HRel M B h w) (r bas : Nat) : HRel (M.push r bas 0 0) B (h.push .dead) w := by
  have hle := M.le_push H.okM r bas 0 0
  have hMn := H.n
  have pb : ∀ i, i ≠ h.n → (M.push r bas 0 0).blk i = M.blk i := fun i hi => by simp [Mod.push, hMn, hi]
  have hoks : ∀ id, (M.push r bas 0 0).ok id → id ≠ h.n → M.ok id := fun id hk e => by
    rcases hk with hk | hk
    · exact absurd (hk.trans hMn) e
    · exact hk.2
  refine ⟨by simp [Mod.push, hMn], H.os, H.tape, H.output, H.size, H.old, ?_, ?_, ?_, ?_⟩
  · intro id ob hi
    by_cases e : id = h.n
    · subst e; simp
    · rw [Hp.get_push_ne _ _ e] at hi
      have := H.lt id ob hi; simp; omega
  · intro id hk
    by_cases e : id = h.n
    · subst e; simp
    · have := H.okn id (hoks id hk e); simp; omega
  · intro id ob hi hk
    by_cases e : id = h.n
    · subst e; rw [Hp.get_push_self] at hi; cases hi; trivial
    · rw [Hp.get_push_ne _ _ e] at hi
      exact (H.blk id ob hi (hoks id hk e)).mono hle.toLe0 (hoks id hk e) fun _ => rfl
  · intro id id' ob ob' hne hi hi' hk hk' hl hl' hrr
    by_cases e : id = h.n
    · subst e; rw [Hp.get_push_self] at hi; cases hi; simp [Ob.wr] at hrr
    · rw [Hp.get_push_ne _ _ e] at hi
      by_cases e' : id' = h.n
      · subst e'; rw [Hp.get_push_self] at hi'; cases hi'; simp [Ob.live] at hl'
      · rw [Hp.get_push_ne _ _ e'] at hi'
        rw [pb _ e, pb _ e']
        exact H.sep id id' ob ob' hne hi hi' (hoks id hk e) (hoks id' hk' e') hl hl' hrr
end Go.Mx

namespace Go.Mx
theorem wrap_wf {k : IntKind} {n : Int} (h : (Lit.int k n).wf = true) : k.wrap n = n := by
  cases k <;> simp [Lit.wf, IntKind.min, IntKind.max, IntKind.signed, IntKind.bits] at h <;> simp [IntKind.wrap, IntKind.signed, IntKind.bits] <;> (try split) <;> omega
structure Imp (B : Base) (w : World) (M : Mod) (h : Hp) (G : Nat → Option BT) : Prop where
  rel : HRel M B h w
  ro : ∀ id ob, h.get id = some ob → ob.wr = false
  ok : TOk G h
  low : ∀ b t, G b = some t → t.reg = 0 ∧ t.lfs.length ≤ 2000000000
theorem Imp.start (w : World) : Imp ⟨w, fun _ => False⟩ w Mod.none ⟨[], 0⟩ (fun _ => none) :=
  ⟨HRel.start w, fun id ob hg => by simp [Hp.get, look] at hg, ⟨(fun b t h => by cases h), (fun b t h => by cases h)⟩, fun b t h => by cases h⟩
def IsInts (w : World) (k : IntKind) (sv : Value) : Prop := sv = .slice none 0 0 ∨ ∃ (b o len cap : Nat) (zs : List Int), sv = .slice (some ⟨b, o, none⟩) len cap ∧ len ≤ cap ∧ cap ≤ 1048576 ∧ zs.length = cap ∧
  (∀ i, i < zs.length → w.cell? ⟨b, o + i, none⟩ = some (.int k (zs.getD i 0)) ∧ w.frozen? ⟨b, o + i, none⟩ = false) ∧ ∀ n ∈ zs, (Lit.int k n).wf = true
theorem Imp.ints {B : Base} {w : World} {M : Mod} {h : Hp} {G : Nat → Option BT} (I : Imp B w M h G) {k : IntKind} {sv : Value} (hs : IsInts w k sv) :
    ∃ M' h' G' x, Imp B w M' h' G' ∧ M.le M' ∧ (∀ b t, G b = some t → G' b = some t) ∧ VRel M' x sv ∧ LfOk G' 0 false (.sl [.int k]) x := by
  rcases hs with rfl | ⟨b, o, len, cap, zs, rfl, hlc, hcap, hzl, hcell, hwf⟩
  · exact ⟨M, h, G, .nils, I, Mod.le.refl M, fun _ _ h => h, by simp only [VRel], .inl rfl⟩
  · have hMn := I.rel.n
    rcases Nat.eq_zero_or_pos cap with hc0 | hc0
    · subst hc0
      obtain rfl : len = 0 := by omega
      refine ⟨_, _, G, .se h.n 1, ⟨I.rel.viewDead b o, fun id ob hg => ?_, I.ok.ext (Ext.push _ _), I.low⟩, M.le_push I.rel.okM _ _ _ _, fun _ _ h => h, ?_, .inr (.inl ⟨rfl, h.n, rfl⟩)⟩
      · by_cases e : id = h.n
        · subst e; rw [Hp.get_push_self] at hg; cases hg; rfl
        · rw [Hp.get_push_ne _ _ e] at hg; exact I.ro id ob hg
      · simp only [VRel, Mod.push, hMn]
        exact ⟨by simp, 0, 0, by simp, by simp⟩
    · have h0 := (hcell 0 (by omega)).1
      have hblk : ∃ cs ty fr, w.heap[b]? = some (.cells cs ty fr) := by
        unfold World.cell? at h0
        split at h0
        · rename_i c t f hh; exact ⟨c, t, f, hh⟩
        · cases h0
      obtain ⟨cs, ty, fr, hblk⟩ := hblk
      have hcs : ∀ i, i < zs.length → cs[o + i]? = some (.int k (zs.getD i 0)) := fun i hi => by
        have := (hcell i hi).1
        simpa [World.cell?, hblk] using this
      have hsz : o + cap ≤ cs.size := by
        have := (Array.getElem?_eq_some_iff.1 (hcs (cap - 1) (by omega))).1; omega
      have hfz : ∀ q, o ≤ q → q < o + (zs.map (V.i k)).length → ¬ (fr.1 ≤ q ∧ q < fr.2) := fun q h1 h2 => by
        have := (hcell (q - o) (by simp at h2; omega)).2
        rw [show o + (q - o) = q by omega] at this
        simp only [World.frozen?, hblk] at this
        simp at this
        omega
      have hv := I.rel.view I.ro (r := b) (bas := o) (siz := cap) hblk hsz (zs.map (V.i k)) (by simp [hzl]) hfz (fun j v hj => by
        have hjl := (List.getElem?_eq_some_iff.1 hj).1
        rw [List.length_map] at hjl
        refine ⟨_, hcs j hjl, ?_⟩
        rw [List.getElem?_map, List.getElem?_eq_getElem hjl] at hj
        simp only [Option.map_some, Option.some.injEq] at hj
        subst hj
        simp [VRel, List.getD, hjl])
      have gone : ∀ (j : Nat) l, (repL cap [Lf.int k])[j]? = some l → l = .int k := fun j l hl => by
        have hj := (List.getElem?_eq_some_iff.1 hl).1
        rw [repL_length] at hj
        have := repL_get cap [.int k] j 0 (by simpa using hj) (by simp)
        simp at this
        rw [this] at hl; cases hl; rfl
      obtain ⟨G', hG', hGn⟩ : ∃ G' : Nat → Option BT, G' h.n = some ⟨repL cap [.int k], 0, false, false⟩ ∧ ∀ b, b ≠ h.n → G' b = G b := ⟨fun b => if b = h.n then some ⟨repL cap [.int k], 0, false, false⟩ else G b, by simp, fun b hb => by simp [hb]⟩
      have hGG : ∀ b t, G b = some t → G' b = some t := fun b t hb => by
        rw [hGn b fun e => by rw [e, I.ok.none (Nat.le_refl _)] at hb; cases hb]; exact hb
      refine ⟨_, _, G', .sl h.n 0 len (some cap) 1, ⟨hv, fun id ob hg => ?_, ⟨fun b t hb => ?_, fun b t hb => ?_⟩, fun b t hb => ?_⟩, M.le_push I.rel.okM _ _ _ _, hGG, ?_, ?_⟩
      · by_cases e : id = h.n
        · subst e; rw [Hp.get_push_self] at hg; cases hg; rfl
        · rw [Hp.get_push_ne _ _ e] at hg; exact I.ro id ob hg
      · by_cases e : b = h.n
        · subst e; rw [hG'] at hb; cases hb; simp only [repL_length]; simp; omega
        · rw [hGn b e] at hb; exact I.ok.small b t hb
      · by_cases e : b = h.n
        · subst e; rw [hG'] at hb; cases hb
          refine ⟨by simp, _, _, false, Hp.get_push_self _ _, by simp only [repL_length]; simp [hzl], ⟨fun h => (by cases h), fun _ => by omega⟩, fun j l v hl hv => ?_⟩
          rw [gone j l hl]
          rw [List.getElem?_map] at hv
          obtain ⟨z, hz, rfl⟩ := Option.map_eq_some_iff.1 hv
          exact ⟨z, rfl, wrap_wf (hwf z (List.mem_of_getElem? hz))⟩
        · rw [hGn b e] at hb
          obtain ⟨a1, ty', cs', rw', a2, a3, a4, a5⟩ := I.ok.blk b t hb
          exact ⟨by simp; omega, ty', cs', rw', by rw [Hp.get_push_ne _ _ e]; exact a2, a3, a4, fun j l v hl hv => (a5 j l v hl hv).gext hGG⟩
      · by_cases e : b = h.n
        · subst e; rw [hG'] at hb; cases hb; exact ⟨rfl, by simp only [repL_length]; simp; omega⟩
        · rw [hGn b e] at hb; exact I.low b t hb
      · simp only [VRel, Mod.push, hMn]
        exact ⟨by simp, cap, by simp, hlc, by simp [hzl]; omega, by simp, rfl, by simp [hzl]⟩
      · refine .inr (.inr ⟨h.n, 0, len, some cap, _, cap, rfl, hG', rfl, rfl, hlc, by simp only [repL_length]; simp, fun _ => rfl, fun i hi j l hl => ?_⟩)
        rw [Nat.zero_add]
        exact (repL_get cap _ i j hi (List.getElem?_eq_some_iff.1 hl).1).trans hl
end Go.Mx

namespace Go.Mx
open Go.ChangeShapes Go.WideShapes Go.ChangeAt Go.RowKit
theorem IsInts.of {H : Type} {enc : TypeId × Value → H} {P : Program} {W : World} {base base2 fuel : Nat} {t e : TypeId} {k : IntKind} {c : Value} {x : DataW H × List MemPlace} {ps : List MemPlace} {spare : Nat → Bool} {held : Bool} (hsp' : ∀ b, spare b = true)
    (ht : P.underlying t = some (.slice e)) (he : P.underlying e = some (.int k)) (hc : P.cellsOf e = 1) (hf : DataW.trod enc P W base spare held fuel t [c] = some x)
    (hfz : W.noneFrozen ps) (hps : ∀ p ∈ x.2, p ∈ ps) (hok : Cell.okWide P W .any base2 t c) (hbulk : ∀ a b, x.1 = .slice a b → a.length + b.length ≤ 1048576) : IsInts W k c := by
  rcases open_ints ht he hc hf with ⟨e3, _⟩ | ⟨a, len, cap, zs, e3, _, hlc, _, hz, hy, hcl, hwf⟩
  · exact .inl (List.head_eq_of_cons_eq e3)
  · have e3' := List.head_eq_of_cons_eq e3
    subst e3'
    have hz' : zs.length = cap := by rw [hz, hsp']; rfl
    have hsp : a.spot = none := by
      simp only [Cell.okWide, Cell.ok, ht, World.has] at hok
      exact hok.2.2.2.1
    obtain ⟨ab, ao, asp⟩ := a
    simp only at hsp; subst hsp
    refine .inr ⟨ab, ao, len, cap, zs, rfl, hlc, ?_, hz', fun i hi => ⟨?_, ?_⟩, hwf⟩
    · have := hbulk _ _ (by rw [hy])
      simp only [lits, List.length_map, List.length_take, List.length_drop] at this
      omega
    · have := hcl i hi
      rwa [add_plain] at this
    · refine hfz ab (ao + i) (hps _ ?_)
      rw [hy]
      simp only [MemPlace.row]
      exact List.mem_map.2 ⟨i, List.mem_range.2 hi, by simp [Addr.add]⟩
end Go.Mx

namespace Go.Mx
open Go.ChangeShapes Go.WideShapes Go.ChangeAt Go.RowKit
def CellIs : Lf → Value → V → Prop
  | .int k, c, v => ∃ n, c = .int k n ∧ v = .i k n ∧ (Lit.int k n).wf = true
  | .bool, c, v => ∃ b, c = .bool b ∧ v = .b b
  | _, _, _ => False
def toV : Value → V
  | .int k n => .i k n
  | .bool b => .b b
  | _ => .jk
theorem CellIs.lf {l : Lf} {c : Value} {v : V} (H : CellIs l c v) (G : Nat → Option BT) (r : Nat) (rm : Bool) : LfOk G r rm l v := by
  cases l with
  | int k => obtain ⟨n, _, rfl, h⟩ := H; exact ⟨n, rfl, wrap_wf h⟩
  | bool => obtain ⟨b, _, rfl⟩ := H; exact ⟨b, rfl⟩
  | str => exact H.elim
  | sl e => exact H.elim
theorem CellIs.rel {l : Lf} {c : Value} {v : V} (H : CellIs l c v) (M : Mod) : VRel M v c := by
  cases l with
  | int k => obtain ⟨n, rfl, rfl, h⟩ := H; simp only [VRel]
  | bool => obtain ⟨b, rfl, rfl⟩ := H; simp only [VRel]
  | str => exact H.elim
  | sl e => exact H.elim
structure FlatTy (P : Program) (t : TypeId) (ls : List Lf) : Prop where
  size : P.cellsOf t = ls.length
  rd : ∀ {H : Type} {enc : TypeId × Value → H} {w : World} {base fuel : Nat} {spare : Nat → Bool} {held : Bool} {cs : List Value} {x : DataW H × List MemPlace}, DataW.trod enc P w base spare held fuel t cs = some x →
    x.2 = [] ∧ cs.length = ls.length ∧ ∀ (j : Nat) l c, ls[j]? = some l → cs[j]? = some c → CellIs l c (toV c)
theorem FlatTy.int {P : Program} {t : TypeId} {k : IntKind} (ht : P.underlying t = some (.int k)) (hc : P.cellsOf t = 1) : FlatTy P t [.int k] where
  size := hc
  rd h := by
    obtain ⟨n, rfl, rfl, hw⟩ := DataW.trod_int ht h
    refine ⟨rfl, rfl, fun j l c hl hc => ?_⟩
    match j with
    | 0 => cases hl; cases hc; exact ⟨n, rfl, rfl, hw⟩
    | j + 1 => simp at hl
theorem FlatTy.bool {P : Program} {t : TypeId} (ht : P.underlying t = some .bool) (hc : P.cellsOf t = 1) : FlatTy P t [.bool] where
  size := hc
  rd h := by
    obtain ⟨n, rfl, rfl⟩ := DataW.trod_bool ht h
    refine ⟨rfl, rfl, fun j l c hl hc => ?_⟩
    match j with
    | 0 => cases hl; cases hc; exact ⟨n, rfl, rfl⟩
    | j + 1 => simp at hl
theorem FlatTy.struct {P : Program} {t : TypeId} {fs : Array Field} {ls : List Lf} (ht : P.underlying t = some (.struct fs)) (hc : P.cellsOf t = ls.length)
    (hf : ∀ (i : Nat) f, fs[i]? = some f → ∃ l1, FlatTy P f.type l1) (hj : ∀ j, j < ls.length → ∃ (i : Nat) (f : Field) (l1 : List Lf), fs[i]? = some f ∧ FlatTy P f.type l1 ∧ f.offset ≤ j ∧ j < f.offset + l1.length ∧ ls[j]? = l1[j - f.offset]?) : FlatTy P t ls where
  size := hc
  rd h := by
    obtain ⟨xs, n, _, rfl, hl, hxl, hfs⟩ := DataW.trod_struct ht h
    refine ⟨?_, by rw [hl, hc], fun j l c hll hcc => ?_⟩
    · simp only [List.flatMap_eq_nil_iff]
      intro y hy
      obtain ⟨i, hi⟩ := List.mem_iff_getElem?.1 hy
      have hil := (List.getElem?_eq_some_iff.1 hi).1
      have hfi : fs[i]? = some fs[i] := Array.getElem?_eq_getElem (by omega)
      obtain ⟨l1, F⟩ := hf i _ hfi
      have := hfs i _ hfi
      rw [hi] at this
      exact (F.rd this).1
    · obtain ⟨i, f, l1, hi, F, h1, h2, h3⟩ := hj j (List.getElem?_eq_some_iff.1 hll).1
      have hil := (Array.getElem?_eq_some_iff.1 hi).1
      have := hfs i f hi
      rw [List.getElem?_eq_getElem (by omega)] at this
      refine (F.rd this).2.2 (j - f.offset) l c (by rw [← h3]; exact hll) ?_
      rw [F.size, List.getElem?_take_of_lt (by omega), List.getElem?_drop, show f.offset + (j - f.offset) = j by omega]
      exact hcc
theorem trod_array {H : Type} {enc : TypeId × Value → H} {P : Program} {w : World} {base fuel : Nat} {spare : Nat → Bool} {held : Bool} {cs : List Value} {x : DataW H × List MemPlace} {t e : TypeId} {k : Nat} (ht : P.underlying t = some (.array k e)) (h : DataW.trod enc P w base spare held fuel t cs = some x) :
    ∃ (xs : List (DataW H × List MemPlace)) (m : Nat), x = (.agg (xs.map (·.1)), xs.flatMap (·.2)) ∧ cs.length = P.cellsOf t ∧ xs.length = k ∧
      ∀ i, i < k → DataW.trod enc P w base spare held m e ((cs.drop (i * P.cellsOf e)).take (P.cellsOf e)) = xs[i]? := by
  cases fuel with
  | zero => simp [DataW.trod] at h
  | succ n =>
    rw [DataW.trod_step] at h
    unfold DataW.trodStep at h
    rw [ht] at h
    split at h <;> simp_all
    obtain ⟨hl, xs, hp, hd⟩ := h
    exact ⟨xs, hd.symm, by simpa using mapM_some_length hp, n, fun i hi => mapM_some_get hp i i (by simp [hi])⟩
theorem FlatTy.array {P : Program} {t e : TypeId} {k : Nat} {l1 ls : List Lf} (ht : P.underlying t = some (.array k e)) (hc : P.cellsOf t = ls.length) (F : FlatTy P e l1)
    (hj : ∀ j, j < ls.length → ∃ i, i < k ∧ i * l1.length ≤ j ∧ j < i * l1.length + l1.length ∧ ls[j]? = l1[j - i * l1.length]?) : FlatTy P t ls where
  size := hc
  rd h := by
    obtain ⟨xs, n, rfl, hl, hxl, hfs⟩ := trod_array ht h
    refine ⟨?_, by rw [hl, hc], fun j l c hll hcc => ?_⟩
    · simp only [List.flatMap_eq_nil_iff]
      intro y hy
      obtain ⟨i, hi⟩ := List.mem_iff_getElem?.1 hy
      have hil := (List.getElem?_eq_some_iff.1 hi).1
      have := hfs i (by omega)
      rw [hi] at this
      exact (F.rd this).1
    · obtain ⟨i, hi, h1, h2, h3⟩ := hj j (List.getElem?_eq_some_iff.1 hll).1
      have := hfs i hi
      rw [List.getElem?_eq_getElem (by omega)] at this
      refine (F.rd this).2.2 (j - i * l1.length) l c (by rw [← h3]; exact hll) ?_
      rw [F.size, List.getElem?_take_of_lt (by omega), List.getElem?_drop, show i * l1.length + (j - i * l1.length) = j by omega]
      exact hcc
def IsRows (w : World) (e : List Lf) (sv : Value) : Prop := sv = .slice none 0 0 ∨ ∃ (b o len cap : Nat), sv = .slice (some ⟨b, o, none⟩) len cap ∧ len ≤ cap ∧ cap ≤ 1048576 ∧
  ∀ q, q < cap * e.length → ∃ c l, w.cell? ⟨b, o + q, none⟩ = some c ∧ w.frozen? ⟨b, o + q, none⟩ = false ∧ e[q % e.length]? = some l ∧ CellIs l c (toV c)
theorem IsRows.of {H : Type} {enc : TypeId × Value → H} {P : Program} {W : World} {base base2 fuel : Nat} {t e : TypeId} {ls : List Lf} {c : Value} {x : DataW H × List MemPlace} {ps : List MemPlace} {spare : Nat → Bool} {held : Bool} (hsp' : ∀ b, spare b = true)
    (ht : P.underlying t = some (.slice e)) (F : FlatTy P e ls) (hp : 0 < ls.length) (hf : DataW.trod enc P W base spare held fuel t [c] = some x)
    (hfz : W.noneFrozen ps) (hps : ∀ p ∈ x.2, p ∈ ps) (hok : Cell.okWide P W .any base2 t c) (hbulk : ∀ a b, x.1 = .slice a b → a.length + b.length ≤ 1048576) : IsRows W ls c := by
  rcases DataW.trod_slice ht hf with ⟨e3, _⟩ | ⟨a, len, cap, elems, rest, n, _, e3, rfl, _, hlc, _, hel, h1, h2, _⟩
  · exact .inl (List.head_eq_of_cons_eq e3)
  · have e3' := List.head_eq_of_cons_eq e3
    subst e3'
    have hsp : a.spot = none := by
      simp only [Cell.okWide, Cell.ok, ht, World.has] at hok
      exact hok.2.2.2.1
    obtain ⟨ab, ao, asp⟩ := a
    simp only at hsp; subst hsp
    obtain ⟨hrl, h3⟩ := h2 (hsp' _)
    have hbk := hbulk _ _ rfl
    simp only [List.length_map] at hbk
    rw [F.size] at h1 h3
    have each : ∀ i, i < cap → ∃ cs y, W.cells? base (Addr.add ⟨ab, ao, none⟩ (i * ls.length)) ls.length = some cs ∧ DataW.trod enc P W base spare held n e cs = some y := by
      intro i hi
      by_cases hil : i < len
      · have := h1 i hil
        rw [List.getElem?_eq_getElem (by omega), Option.bind_eq_some_iff] at this
        obtain ⟨cs, a1, a2⟩ := this
        exact ⟨cs, _, a1, a2⟩
      · have := h3 (i - len) (by omega)
        rw [show len + (i - len) = i by omega, List.getElem?_eq_getElem (by omega), Option.bind_eq_some_iff] at this
        obtain ⟨cs, a1, a2⟩ := this
        exact ⟨cs, _, a1, a2⟩
    refine .inr ⟨ab, ao, len, cap, rfl, hlc, by omega, fun q hq => ?_⟩
    have hqd : q / ls.length < cap := Nat.div_lt_of_lt_mul (by rw [Nat.mul_comm]; exact hq)
    have hqm := Nat.mod_lt q hp
    have hqq : q / ls.length * ls.length + q % ls.length = q := by rw [Nat.mul_comm]; exact Nat.div_add_mod q ls.length
    obtain ⟨cs, y, hcs, hy⟩ := each _ hqd
    obtain ⟨_, hcl, hcell⟩ := World.cells?_some hcs
    have hr := (F.rd hy).2.2 (q % ls.length) (ls[q % ls.length]) (cs[q % ls.length]) (List.getElem?_eq_getElem _) (List.getElem?_eq_getElem _)
    refine ⟨cs[q % ls.length], _, ?_, ?_, List.getElem?_eq_getElem hqm, hr⟩
    · have := hcell (q % ls.length) hqm
      rw [List.getElem?_eq_getElem (by omega)] at this
      rw [add_plain, add_plain, Nat.add_assoc, hqq] at this
      exact this
    · refine hfz ab (ao + q) (hps _ ?_)
      rw [List.mem_append]
      refine .inl ?_
      simp only [MemPlace.row, F.size]
      refine List.mem_map.2 ⟨q, List.mem_range.2 ?_, by simp⟩
      have : elems.length + rest.length = cap := by omega
      rw [this]; exact hq
theorem Imp.rows {B : Base} {w : World} {M : Mod} {h : Hp} {G : Nat → Option BT} (I : Imp B w M h G) {e : List Lf} {sv : Value} (hp : 0 < e.length) (hpe : e.length ≤ 1000) (hs : IsRows w e sv) :
    ∃ M' h' G' x, Imp B w M' h' G' ∧ M.le M' ∧ (∀ b t, G b = some t → G' b = some t) ∧ VRel M' x sv ∧ LfOk G' 0 false (.sl e) x := by
  rcases hs with rfl | ⟨b, o, len, cap, rfl, hlc, hcap, hcell⟩
  · exact ⟨M, h, G, .nils, I, Mod.le.refl M, fun _ _ h => h, by simp only [VRel], .inl rfl⟩
  · have hMn := I.rel.n
    rcases Nat.eq_zero_or_pos cap with hc0 | hc0
    · subst hc0
      obtain rfl : len = 0 := by omega
      refine ⟨_, _, G, .se h.n e.length, ⟨I.rel.viewDead b o, fun id ob hg => ?_, I.ok.ext (Ext.push _ _), I.low⟩, M.le_push I.rel.okM _ _ _ _, fun _ _ h => h, ?_, .inr (.inl ⟨rfl, h.n, rfl⟩)⟩
      · by_cases e : id = h.n
        · subst e; rw [Hp.get_push_self] at hg; cases hg; rfl
        · rw [Hp.get_push_ne _ _ e] at hg; exact I.ro id ob hg
      · simp only [VRel, Mod.push, hMn]
        exact ⟨by simp, 0, 0, by simp, by simp⟩
    · have hmul : cap ≤ cap * e.length := by have := Nat.mul_le_mul_left cap hp; omega
      have hmul2 : cap * e.length ≤ 1048576 * 1000 := Nat.mul_le_mul hcap hpe
      obtain ⟨c0, _, h0, _⟩ := hcell 0 (by omega)
      have hblk : ∃ cs ty fr, w.heap[b]? = some (.cells cs ty fr) := by
        unfold World.cell? at h0
        split at h0
        · rename_i c t f hh; exact ⟨c, t, f, hh⟩
        · cases h0
      obtain ⟨cs, ty, fr, hblk⟩ := hblk
      have hcs : ∀ q, q < cap * e.length → ∃ c l, cs[o + q]? = some c ∧ ¬ (fr.1 ≤ o + q ∧ o + q < fr.2) ∧ e[q % e.length]? = some l ∧ CellIs l c (toV c) := fun q hq => by
        obtain ⟨c, l, h1, h2, h3, h4⟩ := hcell q hq
        refine ⟨c, l, by simpa [World.cell?, hblk] using h1, ?_, h3, h4⟩
        simp only [World.frozen?, hblk] at h2
        simp at h2
        omega
      have hsz : o + cap * e.length ≤ cs.size := by
        obtain ⟨c, l, h1, _⟩ := hcs (cap * e.length - 1) (by omega)
        have := (Array.getElem?_eq_some_iff.1 h1).1; omega
      obtain ⟨vs, hvl, hvs⟩ : ∃ vs : List V, vs.length = cap * e.length ∧ ∀ q c, q < cap * e.length → cs[o + q]? = some c → vs[q]? = some (toV c) :=
        ⟨(List.range (cap * e.length)).map fun q => toV ((cs[o + q]?).getD (.bool true)), by simp, fun q c hq hc => by simp [hq, hc]⟩
      have hget : ∀ (q : Nat) v, vs[q]? = some v → ∃ c l, cs[o + q]? = some c ∧ ¬ (fr.1 ≤ o + q ∧ o + q < fr.2) ∧ e[q % e.length]? = some l ∧ CellIs l c v := fun q v hv => by
        have hq := (List.getElem?_eq_some_iff.1 hv).1
        rw [hvl] at hq
        obtain ⟨c, l, h1, h2, h3, h4⟩ := hcs q hq
        have := hvs q c hq h1
        rw [this] at hv; cases hv
        exact ⟨c, l, h1, h2, h3, h4⟩
      have hfz : ∀ q, o ≤ q → q < o + vs.length → ¬ (fr.1 ≤ q ∧ q < fr.2) := fun q h1 h2 => by
        obtain ⟨_, _, _, h3, _⟩ := hcs (q - o) (by omega)
        rwa [show o + (q - o) = q by omega] at h3
      have hv := I.rel.view I.ro (r := b) (bas := o) (siz := cap * e.length) hblk hsz vs (by omega) hfz (fun j v hj => by
        obtain ⟨c, l, h1, _, _, h4⟩ := hget j v hj
        exact ⟨c, h1, h4.rel _⟩)
      have gone : ∀ (j : Nat) l, (repL cap e)[j]? = some l → e[j % e.length]? = some l := fun j l hl => by
        have hj := (List.getElem?_eq_some_iff.1 hl).1
        rw [repL_length] at hj
        obtain ⟨q, p, rfl, hq, hr⟩ := split_at hp hj
        rw [repL_get cap e _ _ hq hr] at hl
        rw [show (q * e.length + p) % e.length = p by rw [Nat.add_comm, Nat.add_mul_mod_self_right, Nat.mod_eq_of_lt hr]]
        exact hl
      obtain ⟨G', hG', hGn⟩ : ∃ G' : Nat → Option BT, G' h.n = some ⟨repL cap e, 0, false, false⟩ ∧ ∀ b, b ≠ h.n → G' b = G b := ⟨fun b => if b = h.n then some ⟨repL cap e, 0, false, false⟩ else G b, by simp, fun b hb => by simp [hb]⟩
      have hGG : ∀ b t, G b = some t → G' b = some t := fun b t hb => by
        rw [hGn b fun e => by rw [e, I.ok.none (Nat.le_refl _)] at hb; cases hb]; exact hb
      refine ⟨_, _, G', .sl h.n 0 len (some cap) e.length, ⟨hv, fun id ob hg => ?_, ⟨fun b t hb => ?_, fun b t hb => ?_⟩, fun b t hb => ?_⟩, M.le_push I.rel.okM _ _ _ _, hGG, ?_, ?_⟩
      · by_cases e : id = h.n
        · subst e; rw [Hp.get_push_self] at hg; cases hg; rfl
        · rw [Hp.get_push_ne _ _ e] at hg; exact I.ro id ob hg
      · by_cases e : b = h.n
        · subst e; rw [hG'] at hb; cases hb; simp only [repL_length]; omega
        · rw [hGn b e] at hb; exact I.ok.small b t hb
      · by_cases e : b = h.n
        · subst e; rw [hG'] at hb; cases hb
          refine ⟨by simp, _, _, false, Hp.get_push_self _ _, by simp only [repL_length]; exact hvl, ⟨fun h => (by cases h), fun _ => by omega⟩, fun j l v hl hv => ?_⟩
          obtain ⟨c, l', _, _, h3, h4⟩ := hget j v hv
          rw [gone j l hl] at h3; cases h3
          exact h4.lf _ _ _
        · rw [hGn b e] at hb
          obtain ⟨a1, ty', cs', rw', a2, a3, a4, a5⟩ := I.ok.blk b t hb
          exact ⟨by simp; omega, ty', cs', rw', by rw [Hp.get_push_ne _ _ e]; exact a2, a3, a4, fun j l v hl hv => (a5 j l v hl hv).gext hGG⟩
      · by_cases e : b = h.n
        · subst e; rw [hG'] at hb; cases hb; exact ⟨rfl, by simp only [repL_length]; omega⟩
        · rw [hGn b e] at hb; exact I.low b t hb
      · have hlm : len * e.length ≤ cap * e.length := Nat.mul_le_mul_right _ hlc
        simp only [VRel, Mod.push, hMn]
        exact ⟨by simp, cap, by simp, hlc, by simp [hvl]; omega, by simp, rfl, by simp [hvl]⟩
      · refine .inr (.inr ⟨h.n, 0, len, some cap, _, cap, rfl, hG', rfl, rfl, hlc, by simp only [repL_length]; omega, fun _ => rfl, fun i hi j l hl => ?_⟩)
        rw [Nat.zero_add]
        exact (repL_get cap _ i j hi (List.getElem?_eq_some_iff.1 hl).1).trans hl
end Go.Mx
