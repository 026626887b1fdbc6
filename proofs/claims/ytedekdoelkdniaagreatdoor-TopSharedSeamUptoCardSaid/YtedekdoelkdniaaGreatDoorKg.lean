/- The abstract machine: code, calls; a run as a contract. -/
import Derived.RangeFuncNested
import Derived.RangeFuncLeaves
import Derived.RecoverIn
import Derived.Room.MakeNoZero
import Derived.Laws.Externs
import Derived.Test.YtedekdoelkdniaaGreatDoorKf
set_option linter.all false
namespace Go.Mx
def iter : Nat → (St → Option (Ex × St)) → St → Option (Ex × St)
  | 0, _, _ => none
  | n + 1, f, s => match f s with
    | some (.normal, s') => iter n f s'
    | r => r
def backRange (L : Nat) (fr : List (Nat × V)) (ds : List Dfr) : Option (En × Hp) → Option (Ex × St)
  | some (.ret _, h3) => (match h3.get L with
    | some (.oth (.loop st pend sz fr' ps as c D)) => (match st with
      | .busy => none
      | _ =>
        let h4 := h3.set L (.oth (.loop .exhausted pend sz fr' ps as c D))
        (match pend with
        | none => some (.normal, ⟨fr, ds, h4⟩)
        | some .ret => some (.ret, ⟨fr, ds, h4⟩)
        | some (.exit id) => some (.exit id, ⟨fr, ds, h4⟩)
        | some (.goto l) => some (.goto l, ⟨fr, ds, h4⟩)
        | _ => none))
    | _ => none)
  | some (.panic v, h3) => some (.panic v, ⟨fr, ds, h3⟩)
  | none => none
def rangeA (call : Caller) (ro : Option Nat) (sz : Nat) (f : Operand) (ps : Array Tmp) (as c : Code) (s : St) : Option (Ex × St) :=
  match evF s.fr f with
  | some (.f (.func g) first cap) => (match ro with
    | none =>
      let h1 := s.h.push (.oth (.dfr true))
      backRange h1.n s.fr (.col s.h.n :: s.ds) (call (.it g) (first ++ [.y h1.n] ++ cap) (h1.push (.oth (.loop .ready none sz s.fr ps.toList as c s.h.n))))
    | some l => (match s.h.get l with
      | some (.oth (.loop _ _ _ _ _ _ _ D)) => backRange s.h.n s.fr s.ds (call (.it g) (first ++ [.y s.h.n] ++ cap) (s.h.push (.oth (.loop .ready none sz s.fr ps.toList as c D))))
      | _ => none))
  | _ => none
theorem run_getLoop {P : Program} {w : World} {l : Nat} {r : Loop} (h : w.heap[l]? = some (.loop r)) : (Instr.getLoop l).run P w = .ok r w := by
  simp [Instr.getLoop, run_getO h (by intro c t f e; cases e)]
theorem run_endLoop' {P : Program} {w : World} {l : Nat} {r : Loop} (h : w.heap[l]? = some (.loop r)) (hs : r.state ≠ .busy) : (Instr.endLoop l).run P w = .ok r.pending (putO w l (.loop { r with state := .exhausted })) := by
  simp [Instr.endLoop, run_getLoop h, hs, run_setO _ h (by intro c t f e; cases e)]
section
variable {P : Program} {tb : Nat → Option TI} {B : Base} {call : Caller} {sz : Nat} {ro rr : Option Nat} {n : Nat}
theorem backRange_sound {L : Nat} {fr : List (Nat × V)} {ds : List Dfr} {cr : Option (En × Hp)} {r : Ex × St} (hr : backRange L fr ds cr = some r) {M : Mod} {a : Act} {M2 : Mod} (hle2 : M.le M2) (hL : M2.ok L) (hF : FRel M sz fr a.tmps) (hD : DRels M2 ds a.defers) :
    ∃ x, cr = some x ∧ ∀ (e : Ending) (w3 : World), (∃ M', M2.le M' ∧ HRel M' B x.2 w3 ∧ EnRel M' x.1 e) → rangePost (Fw rr) n P (M2.blk L) (Post B M sz r) a e w3 := by
  unfold backRange at hr
  split at hr <;> first | (cases hr; done) | skip
  · rename_i v h3
    refine ⟨_, rfl, ?_⟩
    rintro e w3 ⟨M', hle, H', y, rfl, hv⟩
    split at hr <;> first | (cases hr; done) | skip
    rename_i st pend sz' fr' ps as c D hg
    have hLk := (hle.same L hL).1
    obtain ⟨ob, q1, q2, _⟩ := oth_of H' hLk hg
    rw [(hle.same L hL).2.1] at q1
    have q2' := q2
    simp only [ORel] at q2
    obtain ⟨hDk, fn, tmps, rfl, hfr⟩ := q2
    have fin : ∀ (hst : st ≠ .busy), ∃ w4, (Instr.endLoop (M2.blk L)).run P w3 = .ok pend w4 ∧ HRel M' B (h3.set L (.oth (.loop .exhausted pend sz' fr' ps as c D))) w4 := fun hst => by
      refine ⟨_, run_endLoop' q1 hst, ?_⟩
      rw [← (hle.same L hL).2.1]
      exact H'.putOth hLk hg (by simp only [ORel]; exact ⟨hDk, fn, tmps, rfl, hfr⟩)
    have key : ∀ {w4 : World}, HRel M' B (h3.set L (.oth (.loop .exhausted pend sz' fr' ps as c D))) w4 → ∀ {ex : Ex} {e : Exit}, ExRel M' ex e → Post B M sz (ex, ⟨fr, ds, h3.set L (.oth (.loop .exhausted pend sz' fr' ps as c D))⟩) e a w4 := fun H4 ex e he =>
      ⟨M', hle2.trans hle, H4, hF.mono (hle2.trans hle), hD.mono hle, he⟩
    split at hr
    · cases hr
    · rename_i hst
      obtain ⟨w4, hrun, H4⟩ := fin (fun e => hst e)
      refine ⟨pend, w4, hrun, ?_⟩
      split at hr <;> first | (cases hr; done) | skip
      · cases hr; exact key H4 rfl
      · cases hr; exact wpIn_ret (key H4 rfl)
      · cases hr; exact wpIn_exit (key H4 rfl)
      · cases hr; exact wpIn_goto (key H4 rfl)
  · rename_i v h3
    cases hr
    refine ⟨_, rfl, ?_⟩
    rintro e w3 ⟨M', hle, H', y, rfl, hv⟩
    exact ⟨M', hle2.trans hle, H', hF.mono (hle2.trans hle), hD.mono hle, y, rfl, hv⟩
set_option maxHeartbeats 1000000 in
theorem rangeA_sound (hC : CallOk P B call) {f : Operand} {ps : Array Tmp} {as c : Code} {s : St} {r : Ex × St} (hr : rangeA call ro sz f ps as c s = some r) {M : Mod} {a : Act} {w : World} (H : HRel M B s.h w) (hro : RoOk M ro rr) (hF : FRel M sz s.fr a.tmps) (hD : DRels M s.ds a.defers) :
    (Code.rangeFunc f ps as c).wpIn (Fw rr) n P (Post B M sz r) a w := by
  unfold rangeA at hr
  split at hr <;> first | (cases hr; done) | skip
  rename_i g first cap hf
  have hfv := evF_rel hF _ _ hf
  simp only [VRel] at hfv
  obtain ⟨fs, cs, hfe, hfs, hcs⟩ := hfv
  refine wpIn_rangeFunc fun fn _ => ?_
  have go : ∀ {L : Nat} {ds1 : List Dfr} {h2 : Hp} {M2 : Mod} {w2 : World} {mark : List Deferred}, M.le M2 → M2.ok L → HRel M2 B h2 w2 → DRels M2 ds1 (mark ++ a.defers) →
      backRange L s.fr ds1 (call (.it g) (first ++ [.y L] ++ cap) h2) = some r → (Instr.enterLoop fn a.tmps ps as c (Fw rr).round).run P w = .ok (M2.blk L, mark) w2 →
      ∃ (l : Nat) (mark : List Deferred) (w₁ : World) (d : Deferred) (w₁' : World) (f' : FuncId) (args : Array Value) (w₂ : World),
      (Instr.enterLoop fn a.tmps ps as c (Fw rr).round).run P w = .ok (l, mark) w₁ ∧
      (resolve a.eval (rangeCall f l) 0).run P w₁ = .ok d w₁' ∧
      (∀ f', Target.leads P w₁' d.target d.args = some f' → (Fw rr).fn f') ∧
      (invoke d.target d.args).run P w₁' = .ok (.enter f' args) w₂ ∧
      ((Fw rr).depth.isSome = true → 1 ≤ n) ∧
      CallsIn (Fw rr) (n - 1) P f' args w₂ (rangePost (Fw rr) n P l (Post B M sz r) { a with defers := mark ++ a.defers }) := by
    intro L ds1 h2 M2 w2 mark hle2 hL H2 hD2 hb hent
    obtain ⟨x, hx, hpost⟩ := backRange_sound (P := P) (B := B) (rr := rr) (n := n) (a := { a with defers := mark ++ a.defers }) hb hle2 hL hF hD2
    have hargs : VRels M2 (first ++ [.y L] ++ cap) (fs ++ #[Value.func (Fn.yield (M2.blk L)) #[] #[]] ++ cs).toList := by
      have hy : VRels M2 [V.y L] [Value.func (.yield (M2.blk L)) #[] #[]] := by simp only [VRels, VRel]; exact ⟨⟨hL, trivial⟩, trivial⟩
      simpa using ((hfs.mono hle2).append hy).append (hcs.mono hle2)
    obtain ⟨hen, hcall⟩ := hC.it hx H2 hargs
    refine ⟨M2.blk L, mark, w2, { target := .fn (.func g) cs, args := fs ++ #[Value.func (Fn.yield (M2.blk L)) #[] #[]] }, w2, g, fs ++ #[Value.func (Fn.yield (M2.blk L)) #[] #[]] ++ cs, w2, hent, ?_, fun f' _ => Fw_fn rr f', ?_, fun h => by simp [Fw_depth] at h, (callsIn_zero rr _ hcall).mono fun e w3 he => hpost e w3 he⟩
    · have hcst : a.eval (.const (Value.func (Fn.yield (M2.blk L)) #[] #[])) = Value.func (Fn.yield (M2.blk L)) #[] #[] := rfl
      simp [resolve, hfe, hcst, Deferred.ofValue]
    · simpa [invoke] using hen w2
  split at hr
  ·
    cases rr with
    | some k => simp [RoOk] at hro
    | none =>
      have H1 := H.pushOth (k := .dfr true) (o := .deferred (some [])) (by simp only [ORel]; rfl)
      have hle1 := M.le_push H.okM w.heap.size 0 0 0
      have hok1 : (M.push w.heap.size 0 0 0).ok s.h.n := .inl H.n.symm
      have H2 := H1.pushOth (k := .loop .ready none sz s.fr ps.toList as c s.h.n) (o := .loop { state := .ready, pending := none, fn := fn, tmps := a.tmps, params := ps, assign := as, body := c, defers := (M.push w.heap.size 0 0 0).blk s.h.n }) (by
        simp only [ORel]; exact ⟨hok1, fn, a.tmps, rfl, hF.mono hle1⟩)
      have hle2 := Mod.le_push H1.okM (w.alloc (.deferred (some []))).heap.size 0 0 0
      have hb1 : (M.push w.heap.size 0 0 0).blk s.h.n = w.heap.size := by simp [Mod.push, H.n]
      have hL : ((M.push w.heap.size 0 0 0).push (w.alloc (.deferred (some []))).heap.size 0 0 0).ok (s.h.push (.oth (.dfr true))).n := .inl (by simp [Mod.push, H.n])
      have hb2 : ((M.push w.heap.size 0 0 0).push (w.alloc (.deferred (some []))).heap.size 0 0 0).blk (s.h.push (.oth (.dfr true))).n = w.heap.size + 1 := by simp [Mod.push, H.n]
      refine go (ds1 := .col s.h.n :: s.ds) (hle1.trans hle2) hL H2 (mark := [{ target := .collected w.heap.size, args := #[] }]) ⟨⟨(hle2.same _ hok1).1, by rw [(hle2.same _ hok1).2.1, hb1]⟩, hD.mono (hle1.trans hle2)⟩ hr ?_
      rw [hb2, hb1]
      simp [Instr.enterLoop, Fw, Fence.wide]
  · rename_i l
    split at hr <;> first | (cases hr; done) | skip
    rename_i st pend sz0 fr0 ps0 as0 c0 D hg
    cases rr with
    | none => simp [RoOk] at hro
    | some k =>
      obtain ⟨hlk, rfl⟩ := hro
      obtain ⟨ob, q1, q2, _⟩ := oth_of H hlk hg
      simp only [ORel] at q2
      obtain ⟨hDk, fn0, tmps0, rfl, _⟩ := q2
      have hle1 := M.le_push H.okM w.heap.size 0 0 0
      have H2 := H.pushOth (k := .loop .ready none sz s.fr ps.toList as c D) (o := .loop { state := .ready, pending := none, fn := fn, tmps := a.tmps, params := ps, assign := as, body := c, defers := M.blk D }) (by
        simp only [ORel]; exact ⟨hDk, fn, a.tmps, rfl, hF⟩)
      have hL : (M.push w.heap.size 0 0 0).ok s.h.n := .inl H.n.symm
      have hb2 : (M.push w.heap.size 0 0 0).blk s.h.n = w.heap.size := by simp [Mod.push, H.n]
      refine go hle1 hL H2 (mark := []) (by simpa using hD.mono hle1) hr ?_
      rw [hb2, Fw_round]
      simp [Instr.enterLoop, run_getLoop q1]
end
end Go.Mx

namespace Go.Mx
theorem stepR_scope {P : Program} {b : Frame} {a : Act} {k : List Item} {cs : List Frame} {w : World} {c : Code} : step P (lone (b.atR a (.code (.scope c) :: k)) cs w) = .next (lone (b.atR a (.code c :: .inScope c :: k)) cs w) :=
  step_lone_go (by simp [stepG, stepG.exec, Frame.atR])
theorem stepR_inScope {P : Program} {b : Frame} {a : Act} {k : List Item} {cs : List Frame} {w : World} {c : Code} : step P (lone (b.atR a (.inScope c :: k)) cs w) = .next (lone (b.atR a k) cs w) :=
  step_lone_go (by simp [stepG, stepG.exec, Frame.atR])
theorem wpIn_scope {F : Fence} {n : Nat} {P : Program} {Q : Exit → Act → World → Prop} {a : Act} {w : World} {c : Code} (h : c.wpIn F n P (Exit.noGoto Q) a w) : (Code.scope c).wpIn F n P Q a w := by
  intro b k cs hro hb hr
  have h0 : (lone (b.atR a (.code (.scope c) :: k)) cs w).fenced P F := fenced_calm hb hr rfl
  obtain ⟨e, a₁, w₁, hq, harr⟩ := h b (.inScope c :: k) cs hro hb hr
  cases e with
  | normal => exact ⟨.normal, a₁, w₁, hq, .head h0 stepR_scope (StepsIn.trans harr (.one (fenced_calm hb hr rfl) stepR_inScope))⟩
  | exit id =>
    have hx : exitTo id (.inScope c :: k) = exitTo id k := by simp [exitTo]
    exact ⟨.exit id, a₁, w₁, hq, fun k' hk => .head h0 stepR_scope (harr.1 k' (by rw [hx]; exact hk)),
      fun hr' hk => let ⟨k₁, h1, h2⟩ := harr.2 hr' (by rw [hx]; exact hk); ⟨k₁, h1, .head h0 stepR_scope h2⟩⟩
  | goto l => exact hq.elim
  | ret => exact ⟨_, a₁, w₁, hq, .of_steps (.one h0 stepR_scope) harr⟩
  | panic ch => exact ⟨_, a₁, w₁, hq, .of_steps (.one h0 stepR_scope) harr⟩
  | outgrown => exact ⟨_, a₁, w₁, hq, .of_steps (.one h0 stepR_scope) harr⟩
def runC (tb : Nat → Option TI) (call : Caller) (ro : Option Nat) (lf sz : Nat) : Code → St → Option (Ex × St)
  | .skip, s => some (.normal, s)
  | .label _, s => some (.normal, s)
  | .region _ ops false, s => runOps tb call ro sz ops ops.toList s
  | .region _ ops true, s => drawA tb call ro sz ops s
  | .seq a b, s => match runC tb call ro lf sz a s with
    | some (.normal, s') => runC tb call ro lf sz b s'
    | r => r
  | .cond c a b, s => match evF s.fr c with
    | some (.b true) => runC tb call ro lf sz a s
    | some (.b false) => runC tb call ro lf sz b s
    | _ => none
  | .block id c, s => match runC tb call ro lf sz c s with
    | some (.exit id', s') => if id' = id then some (.normal, s') else some (.exit id', s')
    | r => r
  | .loop c, s => iter lf (runC tb call ro lf sz c) s
  | .scope c, s => match runC tb call ro lf sz c s with
    | some (.goto _, _) => none
    | r => r
  | .exit id, s => some (.exit id, s)
  | .ret, s => some (.ret, s)
  | .goto l, s => some (.goto l, s)
  | .rangeFunc f ps as c, s => rangeA call ro sz f ps as c s
  | .refuse _, _ => none
theorem range_map_get (ops : Array Oper) : ((List.range ops.size).map fun i => ops[i]?) = ops.toList.map some := by
  apply List.ext_getElem?
  intro j
  by_cases hj : j < ops.size
  · simp [hj]
  · simp [hj]
theorem runC_sound {P : Program} (hm : P.follows .mixedOrders = true) {tb : Nat → Option TI} (hT : TbOk P tb) {B : Base} {call : Caller} (hC : CallOk P B call) {ro rr : Option Nat} {lf sz : Nat} : ∀ (c : Code) {s : St} {r : Ex × St}, runC tb call ro lf sz c s = some r →
    ∀ {n : Nat} {M : Mod} {a : Act} {w : World}, HRel M B s.h w → RoOk M ro rr → FRel M sz s.fr a.tmps → DRels M s.ds a.defers → c.wpIn (Fw rr) n P (Post B M sz r) a w := by
  intro c
  induction c with
  | skip => intro s r hr n M a w H hro hF hd; simp [runC] at hr; subst hr; exact wpIn_skip ⟨M, Mod.le.refl M, H, hF, hd, rfl⟩
  | label l => intro s r hr n M a w H hro hF hd; simp [runC] at hr; subst hr; exact wpIn_label ⟨M, Mod.le.refl M, H, hF, hd, rfl⟩
  | exit id => intro s r hr n M a w H hro hF hd; simp [runC] at hr; subst hr; exact wpIn_exit ⟨M, Mod.le.refl M, H, hF, hd, rfl⟩
  | goto l => intro s r hr n M a w H hro hF hd; simp [runC] at hr; subst hr; exact wpIn_goto ⟨M, Mod.le.refl M, H, hF, hd, rfl⟩
  | ret => intro s r hr n M a w H hro hF hd; simp [runC] at hr; subst hr; exact wpIn_ret ⟨M, Mod.le.refl M, H, hF, hd, rfl⟩
  | refuse y => intro s r hr; simp [runC] at hr
  | region id ops draw =>
    intro s r hr n M a w H hro hF hd
    cases draw with
    | false =>
      simp only [runC] at hr
      exact wpIn_region (runOps_sound hT hC _ _ s r M a w (range_map_get ops) hr H hro hF hd (fun _ _ _ h => h))
    | true => simp only [runC] at hr; exact drawA_sound hm hT hC hr H hro hF hd
  | rangeFunc f ps as c _ _ =>
    intro s r hr n M a w H hro hF hd
    simp only [runC] at hr
    exact rangeA_sound hC hr H hro hF hd
  | seq x y ihx ihy =>
    intro s r hr n M a w H hro hF hd
    simp only [runC] at hr
    refine wpIn_seq ?_
    split at hr
    · rename_i s' hx
      refine wpIn_mono (ihx hx H hro hF hd) ?_
      rintro e a' w' ⟨M', hle, H', hF', hd', he⟩
      simp only [ExRel] at he; subst he
      exact wpIn_mono (ihy hr H' (hro.mono0 hle.toLe0) hF' hd') (fun _ _ _ h => h.mono hle)
    · rename_i q hq
      refine wpIn_mono (ihx hr H hro hF hd) ?_
      rintro e a' w' hp
      have hp' := hp
      obtain ⟨M', hle, H', hF', hd', he⟩ := hp
      obtain ⟨ex, s'⟩ := r
      cases ex <;> simp only [ExRel] at he
      · exact absurd hr (hq s')
      · subst he; exact hp'
      · subst he; exact hp'
      · subst he; exact hp'
      · obtain ⟨y, rfl, _⟩ := he; exact hp'
  | cond c x y ihx ihy =>
    intro s r hr n M a w H hro hF hd
    simp only [runC] at hr
    split at hr <;> first | (cases hr; done) | skip
    · rename_i hc
      have := evF_rel hF _ _ hc
      simp only [VRel] at this
      exact wpIn_cond_true this (ihx hr H hro hF hd)
    · rename_i hc
      have := evF_rel hF _ _ hc
      simp only [VRel] at this
      exact wpIn_cond_false this (ihy hr H hro hF hd)
  | block id c ih =>
    intro s r hr n M a w H hro hF hd
    simp only [runC] at hr
    refine wpIn_block ?_
    split at hr
    · rename_i id' s' hx
      refine wpIn_mono (ih hx H hro hF hd) ?_
      rintro e a' w' ⟨M', hle, H', hF', hd', he⟩
      simp only [ExRel] at he; subst he
      simp only [Exit.inBlock]
      split at hr <;> rename_i hid <;> cases hr
      · rw [if_pos hid]; exact ⟨M', hle, H', hF', hd', rfl⟩
      · rw [if_neg hid]; exact ⟨M', hle, H', hF', hd', rfl⟩
    · rename_i q hq
      refine wpIn_mono (ih hr H hro hF hd) ?_
      rintro e a' w' hp
      have hp' := hp
      obtain ⟨M', hle, H', hF', hd', he⟩ := hp
      obtain ⟨ex, s'⟩ := r
      cases ex <;> simp only [ExRel] at he
      · subst he; exact hp'
      · subst he; exact hp'
      · exact absurd hr (hq _ s')
      · subst he; exact hp'
      · obtain ⟨y, rfl, _⟩ := he; exact hp'
  | scope c ih =>
    intro s r hr n M a w H hro hF hd
    simp only [runC] at hr
    refine wpIn_scope ?_
    split at hr <;> first | (cases hr; done) | skip
    rename_i q hq
    refine wpIn_mono (ih hr H hro hF hd) ?_
    rintro e a' w' hp
    have hp' := hp
    obtain ⟨M', hle, H', hF', hd', he⟩ := hp
    obtain ⟨ex, s'⟩ := r
    cases ex <;> simp only [ExRel] at he
    · subst he; exact hp'
    · subst he; exact hp'
    · subst he; exact hp'
    · exact absurd hr (hq _ s')
    · obtain ⟨y, rfl, _⟩ := he; exact hp'
  | loop c ih =>
    intro s r hr n M a w H hro hF hd
    simp only [runC] at hr
    refine wpIn_loop_rounds lf ?_
    generalize hlf : lf = m at hr ⊢
    have key : ∀ m s M a w, iter m (runC tb call ro lf sz c) s = some r → HRel M B s.h w → RoOk M ro rr → FRel M sz s.fr a.tmps → DRels M s.ds a.defers → Code.roundsIn (Fw rr) n P c (Post B M sz r) m a w := by
      intro m
      induction m with
      | zero => intro s M a w hr; simp [iter] at hr
      | succ m ihm =>
        intro s M a w hr H hro hF hd
        simp only [iter] at hr
        rw [roundsIn_succ]
        split at hr
        · rename_i s' hx
          refine wpIn_mono (ih hx H hro hF hd) ?_
          rintro e a' w' ⟨M', hle, H', hF', hd', he⟩
          simp only [ExRel] at he; subst he
          have := ihm s' M' a' w' hr H' (hro.mono0 hle.toLe0) hF' hd'
          refine roundsIn_mono ?_ m a' w' this
          exact fun _ _ _ h => h.mono hle
        · rename_i q hq
          refine wpIn_mono (ih hr H hro hF hd) ?_
          rintro e a' w' hp
          have hp' := hp
          obtain ⟨M', hle, H', hF', hd', he⟩ := hp
          obtain ⟨ex, s'⟩ := r
          cases ex <;> simp only [ExRel] at he
          · exact absurd hr (hq s')
          · subst he; exact hp'
          · subst he; exact hp'
          · subst he; exact hp'
          · obtain ⟨y, rfl, _⟩ := he; exact hp'
    rw [hlf] at key
    exact key m s M a w hr H hro hF hd
where
  roundsIn_mono {F : Fence} {n : Nat} {P : Program} {c : Code} {Q Q' : Exit → Act → World → Prop} (h : ∀ e a w, Q e a w → Q' e a w) : ∀ (m : Nat) (a : Act) (w : World), Code.roundsIn F n P c Q m a w → Code.roundsIn F n P c Q' m a w
    | 0, _, _, hr => hr
    | m + 1, a, w, hr => by
      rw [roundsIn_succ] at hr ⊢
      refine wpIn_mono hr ?_
      intro e a' w' he
      cases e with
      | normal => exact roundsIn_mono h m a' w' he
      | _ => exact h _ _ _ he
end Go.Mx

namespace Go.Mx
def jumpOf : Ex → Option (Option Code)
  | .normal => some none
  | .ret => some (some .ret)
  | .exit id => some (some (.exit id))
  | .goto l => some (some (.goto l))
  | .panic _ => none
def putsF (sz : Nat) : List (Nat × V) → List Nat → List V → Option (List (Nat × V))
  | fr, [], [] => some fr
  | fr, t :: ts, v :: vs => if t < sz then putsF sz ((t, v) :: fr) ts vs else none
  | _, _, _ => none
def runY (tb : Nat → Option TI) (call : Caller) (lf : Nat) (l : Nat) (args : List V) (h : Hp) : Option (En × Hp) :=
  match h.get l with
  | some (.oth (.loop .ready _ sz fr ps as c _)) => (match putsF sz fr ps args with
    | some fr' => (match runC tb call (some l) lf sz as ⟨fr', [], h⟩ with
      | some (.normal, s1) => (match s1.h.get l with
        | some (.oth (.loop .ready pend sz1 fr1 ps1 as1 c1 D1)) => (match runC tb call (some l) lf sz c ⟨s1.fr, s1.ds, s1.h.set l (.oth (.loop .busy pend sz1 fr1 ps1 as1 c1 D1))⟩ with
          | some (ex, s2) => (match jumpOf ex, s2.h.get l with
            | some j, some (.oth (.loop _ _ sz2 fr2 ps2 as2 c2 D2)) => some (.ret (.b j.isNone), s2.h.set l (.oth (.loop (if j.isNone then .ready else .done) j sz2 fr2 ps2 as2 c2 D2)))
            | _, _ => none)
          | none => none)
        | _ => none)
      | _ => none)
    | none => none)
  | _ => none
def resA (tb : Nat → Option TI) (fr : List (Nat × V)) (h : Hp) : List ResultVar → Option (List V)
  | [] => some []
  | .tmp t :: r => (match look fr t, resA tb fr h r with
    | some v, some vs => some (v :: vs)
    | _, _ => none)
  | .cell p t :: r => (match look fr p, resA tb fr h r with
    | some q, some vs => (match loadA tb h t q with
      | some v => some (v :: vs)
      | none => none)
    | _, _ => none)
def oneOrTup : List V → V
  | [v] => v
  | vs => .tup vs
def argFr : Nat → List V → List (Nat × V)
  | _, [] => []
  | i, v :: r => (i, v) :: argFr (i + 1) r
def recOf : Code → Option (Option Nat × Code)
  | .seq (.region _ ops false) c => (match ops.toList with
    | [⟨dst, .call ⟨.builtin .recover, _, _⟩, _, _, _, none⟩] => some (dst, c)
    | _ => none)
  | _ => none
def finDf (tb : Nat → Option TI) (rs : List ResultVar) (mode : Option V) : Option (Ex × St) → Option (Option V × Hp)
  | some (.normal, ⟨fr, [], h⟩) => (match resA tb fr h rs with
    | some _ => some (mode, h)
    | none => none)
  | some (.ret, ⟨fr, [], h⟩) => (match resA tb fr h rs with
    | some _ => some (mode, h)
    | none => none)
  | _ => none
def runDf (tb : Nat → Option TI) (call : Caller) (lf : Nat) (fn : Func) (args : List V) (mode : Option V) (h : Hp) : Option (Option V × Hp) :=
  match fn.body with
  | none => none
  | some c => (match recOf c with
    | some (dst, c') => (match putF (max args.length fn.ntmps) (argFr 0 args) dst (mode.getD .nili) with
      | some fr => finDf tb fn.results.toList none (runC tb call none lf (max args.length fn.ntmps) c' ⟨fr, [], h⟩)
      | none => none)
    | none => finDf tb fn.results.toList mode (runC tb call none lf (max args.length fn.ntmps) c ⟨argFr 0 args, [], h⟩))
def runDs (tb : Nat → Option TI) (fc : Nat → Option Func) (call : Caller) (lf : Nat) : List Dfr → Option V → Hp → Option (Option V × Hp)
  | [], m, h => some (m, h)
  | .col b :: r, m, h => (match h.get b with
    | some (.oth (.dfr true)) => runDs tb fc call lf r m (h.set b (.oth (.dfr false)))
    | _ => none)
  | .fn (.func g) cap args :: r, m, h => (match fc g with
    | some fn => (match runDf tb call lf fn (args ++ cap) m h with
      | some (m', h') => runDs tb fc call lf r m' h'
      | none => none)
    | none => none)
  | _, _, _ => none
def finF (tb : Nat → Option TI) (fc : Nat → Option Func) (call : Caller) (lf : Nat) (rs : List ResultVar) (m : Option V) (s : St) : Option (En × Hp) :=
  match runDs tb fc call lf s.ds m s.h with
  | some (none, h') => (match resA tb s.fr h' rs with
    | some vs => some (.ret (oneOrTup vs), h')
    | none => none)
  | some (some v, h') => some (.panic v, h')
  | none => none
def runF (tb : Nat → Option TI) (fc : Nat → Option Func) (call : Caller) (lf : Nat) (fn : Func) (args : List V) (h : Hp) : Option (En × Hp) :=
  match fn.body with
  | none => none
  | some c => match runC tb call none lf (max args.length fn.ntmps) c ⟨argFr 0 args, [], h⟩ with
    | some (.normal, s) => finF tb fc call lf fn.results.toList none s
    | some (.ret, s) => finF tb fc call lf fn.results.toList none s
    | some (.panic v, s) => finF tb fc call lf fn.results.toList (some v) s
    | _ => none
def callD (tb : Nat → Option TI) (fc : Nat → Option Func) (ct : Nat → Option (List V → Hp → Option (En × Hp))) (lf : Nat) : Nat → Caller
  | 0 => fun _ _ _ => none
  | d + 1 => fun t args h => match t with
    | .it g => (match fc g with
      | some fn => runF tb fc (callD tb fc ct lf d) lf fn args h
      | none => none)
    | .fn g => (match ct g with
      | some k => k args h
      | none => (match fc g with
        | some fn => runF tb fc (callD tb fc ct lf d) lf fn args h
        | none => none))
    | .yield l => runY tb (callD tb fc ct lf d) lf l args h
end Go.Mx

namespace Go.Mx
theorem run_resA {P : Program} {tb : Nat → Option TI} (hT : TbOk P tb) {M : Mod} {B : Base} {sz : Nat} {fr : List (Nat × V)} {h : Hp} {tmps : Array Value} {w : World} (H : HRel M B h w) (hF : FRel M sz fr tmps) : ∀ (l : List ResultVar) (vs : List V), resA tb fr h l = some vs →
    ∃ ys : List Value, (l.mapM fun r => (match r with | .tmp t => pure (tmps.getD t undef) | .cell p t => do loadVar t (← asAddr (tmps.getD p undef)) : Sem Value)).run P w = .ok ys w ∧ VRels M vs ys
  | [], vs, h => by simp [resA] at h; subst h; exact ⟨[], by simp, by simp [VRels]⟩
  | .tmp t :: r, vs, h => by
    simp only [resA] at h
    split at h <;> first | (cases h; done) | skip
    rename_i v vs' h1 h2
    cases h
    obtain ⟨y, hy, hv⟩ := hF.2 t v h1
    obtain ⟨ys, hys, hvs⟩ := run_resA hT H hF r vs' h2
    refine ⟨y :: ys, ?_, by simp only [VRels]; exact ⟨hv, hvs⟩⟩
    simp only [List.mapM_cons, Sem.run_bind, Sem.run_pure, Result.andThen_ok, hys]
    simp [hy]
  | .cell p t :: r, vs, h => by
    simp only [resA] at h
    split at h <;> first | (cases h; done) | skip
    rename_i q vs' h1 h2
    split at h <;> first | (cases h; done) | skip
    rename_i v hl
    cases h
    obtain ⟨y, hy, hv⟩ := hF.2 p q h1
    obtain ⟨ys, hys, hvs⟩ := run_resA hT H hF r vs' h2
    obtain ⟨z, hz, hzv⟩ := run_loadA (P := P) hT H hl hv
    have hpa : ∃ ad, y = .pointer (some ad) := by
      unfold loadA at hl
      split at hl <;> first | (cases hl; done) | skip
      simp only [VRel] at hv
      obtain ⟨_, rfl⟩ := hv
      exact ⟨_, rfl⟩
    obtain ⟨ad, rfl⟩ := hpa
    refine ⟨z :: ys, ?_, by simp only [VRels]; exact ⟨hzv, hvs⟩⟩
    have hz' : (loadVar t ad).run P w = .ok z w := by simpa [Instr.loadAt, Instr.sureAddr] using hz
    have hg : tmps.getD p undef = .pointer (some ad) := by simp [hy]
    have hga : (asAddr (tmps.getD p undef)).run P w = .ok ad w := by rw [hg]; rfl
    simp only [List.mapM_cons, Sem.run_bind, hga, Sem.run_pure, Result.andThen_ok, hz', hys]
theorem run_results {P : Program} {tb : Nat → Option TI} (hT : TbOk P tb) {M : Mod} {B : Base} {sz : Nat} {fr : List (Nat × V)} {h : Hp} {tmps : Array Value} {w : World} (H : HRel M B h w) (hF : FRel M sz fr tmps) {fn : Func} {vs : List V} (hr : resA tb fr h fn.results.toList = some vs) :
    ∃ y, (results fn tmps).run P w = .ok y w ∧ VRel M (oneOrTup vs) y := by
  obtain ⟨ys, hys, hvs⟩ := run_resA hT H hF _ vs hr
  have hm : (fn.results.mapM fun r => (match r with | .tmp t => pure (tmps.getD t undef) | .cell p t => do loadVar t (← asAddr (tmps.getD p undef)) : Sem Value)).run P w = .ok ys.toArray w := by
    rw [Array.mapM_eq_mapM_toList]
    simp only [Sem.run_map, hys]
    rfl
  have hrun : (results fn tmps).run P w = .ok (if h : ys.toArray.size = 1 then ys.toArray[0] else .tuple ys.toArray) w := by
    unfold results
    rw [Sem.run_bind]
    refine Eq.trans (congrArg (fun r => Result.andThen r _) hm) ?_
    rfl
  refine ⟨_, hrun, ?_⟩
  have hl := hvs.length
  match vs, ys, hvs, hl with
  | [], [], _, _ => simp [oneOrTup, VRel, VRels]
  | [v], [y], hv, _ => simp only [VRels] at hv; simpa [oneOrTup] using hv.1
  | v :: v2 :: vs, y :: y2 :: ys, hv, _ =>
    have : ¬ ((y :: y2 :: ys).toArray.size = 1) := by simp
    rw [dif_neg this]
    simp only [oneOrTup, VRel]
    exact ⟨_, rfl, by simpa using hv⟩
  | [_], [], _, h => simp at h
  | [], _ :: _, _, h => simp at h
  | [_], _ :: _ :: _, _, h => simp at h
  | _ :: _ :: _, [], _, h => simp at h
  | _ :: _ :: _, [_], _, h => simp at h
theorem look_argFr : ∀ (args : List V) (i t : Nat) (v : V), look (argFr i args) t = some v → i ≤ t ∧ args[t - i]? = some v
  | [], i, t, v, h => by simp [argFr, look] at h
  | x :: r, i, t, v, h => by
    simp only [argFr, look] at h
    split at h
    · rename_i e
      have : i = t := by simpa using e
      subst this
      cases h
      simp
    · rename_i e
      have hne : i ≠ t := by simpa using e
      obtain ⟨h1, h2⟩ := look_argFr r (i + 1) t v h
      refine ⟨by omega, ?_⟩
      rw [show t - i = (t - (i + 1)) + 1 by omega]
      simpa using h2
theorem frel_args {M : Mod} {args : List V} {argsr : Array Value} (hA : VRels M args argsr.toList) (k : Nat) : FRel M (max args.length k) (argFr 0 args) (argsr ++ Array.replicate (k - argsr.size) undef) := by
  have hl : args.length = argsr.size := by have := hA.length; simpa using this
  refine ⟨by simp [hl]; omega, fun t v ht => ?_⟩
  obtain ⟨_, h2⟩ := look_argFr args 0 t v ht
  obtain ⟨y, hy, hv⟩ := hA.get h2
  refine ⟨y, ?_, hv⟩
  have hlt : t < argsr.size := by have := (List.getElem?_eq_some_iff.1 h2).1; omega
  rw [Array.getElem?_append_left hlt]
  simpa using hy
theorem putsF_rel {M : Mod} {sz : Nat} : ∀ {ts : List Nat} {vs : List V} {ys : List Value} {fr fr' : List (Nat × V)} {tmps : Array Value}, putsF sz fr ts vs = some fr' → VRels M vs ys → FRel M sz fr tmps → FRel M sz fr' ((ts.zip ys).foldl (fun (tmps : Array Value) (x : Nat × Value) => tmps.setIfInBounds x.1 x.2) tmps) ∧ ts.length = ys.length
  | [], [], ys, fr, fr', tmps, h, hv, hF => by
    have : ys = [] := by cases ys with
      | nil => rfl
      | cons => simp [VRels] at hv
    subst this
    simp [putsF] at h; subst h
    exact ⟨by simpa using hF, rfl⟩
  | t :: ts, v :: vs, y :: ys, fr, fr', tmps, h, hv, hF => by
    simp only [putsF] at h
    split at h <;> first | (cases h; done) | skip
    rename_i ht
    simp only [VRels] at hv
    have h1 : FRel M sz ((t, v) :: fr) (tmps.setIfInBounds t y) := putF_rel (a := { tmps := tmps, defers := [] }) (dst := some t) (fr' := (t, v) :: fr) hF (by simp [putF, ht]) hv.1
    obtain ⟨h2, h3⟩ := putsF_rel h hv.2 h1
    exact ⟨by simpa using h2, by simp [h3]⟩
  | [], _ :: _, _, _, _, _, h, _, _ => by simp [putsF] at h
  | _ :: _, [], _, _, _, _, h, _, _ => by simp [putsF] at h
  | _ :: _, _ :: _, [], _, _, _, _, hv, _ => by simp [VRels] at hv
section
variable {P : Program} {tb : Nat → Option TI} {B : Base} {call : Caller} {lf : Nat}
theorem run_beginRound' {w : World} {l : Nat} {r : Loop} (h : w.heap[l]? = some (.loop r)) (hs : r.state = .ready) : (Instr.beginRound l).run P w = .ok () (putO w l (.loop { r with state := .busy })) := by
  simp [Instr.beginRound, run_getLoop h, run_setO _ h (by intro c t f e; cases e), hs]
theorem run_endRound' {w : World} {l : Nat} {r : Loop} (h : w.heap[l]? = some (.loop r)) (j : Option Code) : (Instr.endRound l j).run P w = .ok (.bool j.isNone) (putO w l (.loop { r with state := if j.isNone then .ready else .done, pending := j })) := by
  simp [Instr.endRound, run_getLoop h, run_setO _ h (by intro c t f e; cases e)]
set_option maxHeartbeats 1000000 in
theorem runY_sound (hm : P.follows .mixedOrders = true) (hT : TbOk P tb) (hC : CallOk P B call) {l : Nat} {args : List V} {h : Hp} {r : En × Hp} (hr : runY tb call lf l args h = some r) {M : Mod} {w : World} {argsr : Array Value} (hl : M.ok l) (H : HRel M B h w) (hA : VRels M args argsr.toList) :
    ∃ fn tmps assign body, (Instr.yield (M.blk l) argsr).run P w = .ok (.round (M.blk l) fn tmps assign body) w ∧ RoundIn Fence.wide 0 P (M.blk l) fn tmps assign body w fun e w' => ∃ M', M.le M' ∧ HRel M' B r.2 w' ∧ EnRel M' r.1 e := by
  unfold runY at hr
  split at hr <;> first | (cases hr; done) | skip
  rename_i pend sz fr ps as c D hg
  obtain ⟨ob, q1, q2, _⟩ := oth_of H hl hg
  simp only [ORel] at q2
  obtain ⟨hDk, fn, tmps, rfl, hF⟩ := q2
  split at hr <;> first | (cases hr; done) | skip
  rename_i fr' hput
  obtain ⟨hF', hlen⟩ := putsF_rel hput hA hF
  have hsz : argsr.size = ps.length := by simpa using hlen.symm
  have hy : (Instr.yield (M.blk l) argsr).run P w = .ok (.round (M.blk l) fn ((ps.zip argsr.toList).foldl (fun (tmps : Array Value) (x : Nat × Value) => tmps.setIfInBounds x.1 x.2) tmps) as c) w := by
    have hz : (ps.toArray.zip argsr).foldl (fun (tmps : Array Value) (x : Nat × Value) => tmps.setIfInBounds x.1 x.2) tmps = (ps.zip argsr.toList).foldl (fun (tmps : Array Value) (x : Nat × Value) => tmps.setIfInBounds x.1 x.2) tmps := by
      rw [← Array.foldl_toList]; simp [Array.toList_zip]
    have hns : ¬ (argsr.size ≠ ps.toArray.size) := by simp [hsz]
    simp only [Instr.yield, Sem.run_bind, run_getLoop q1, Result.andThen_ok, hns, if_false]
    rw [← hz]
    rfl
  refine ⟨fn, _, as, c, hy, roundIn_of_wpIn trivial ?_⟩
  split at hr <;> first | (cases hr; done) | skip
  rename_i s1 hs1
  refine wpIn_mono (F := Fw (some (M.blk l))) (runC_sound hm hT hC as hs1 (ro := some l) (rr := some (M.blk l)) (a := { tmps := _, defers := [] }) H ⟨hl, rfl⟩ hF' trivial) ?_
  rintro e a1 w1 ⟨M1, hle1, H1, hF1, hD1, he1⟩
  simp only [ExRel] at he1; subst he1
  split at hr <;> first | (cases hr; done) | skip
  rename_i pend1 sz1 fr1 ps1 as1 c1 D1 hg1
  have hl1 := (hle1.same l hl).1
  have hb1 := (hle1.same l hl).2.1
  obtain ⟨ob1, p1, p2, _⟩ := oth_of H1 hl1 hg1
  simp only [ORel] at p2
  obtain ⟨hDk1, fn1, tmps1, rfl, hFr1⟩ := p2
  rw [hb1] at p1
  refine ⟨_, run_beginRound' p1 rfl, ?_⟩
  have H2 := H1.putOth hl1 hg1 (k' := .loop .busy pend1 sz1 fr1 ps1 as1 c1 D1) (o := .loop { state := .busy, pending := pend1, fn := fn1, tmps := tmps1, params := ps1.toArray, assign := as1, body := c1, defers := M1.blk D1 }) (by simp only [ORel]; exact ⟨hDk1, fn1, tmps1, rfl, hFr1⟩)
  rw [hb1] at H2
  split at hr <;> first | (cases hr; done) | skip
  rename_i ex s2 hs2
  refine wpIn_mono (F := Fw (some (M.blk l))) (runC_sound hm hT hC c hs2 (ro := some l) (rr := some (M.blk l)) (a := a1) H2 ⟨hl1, hb1.symm⟩ hF1 hD1) ?_
  rintro e a2 w2 ⟨M2, hle2, H3, hF2, hD2, he2⟩
  split at hr <;> first | (cases hr; done) | skip
  rename_i j st2 p2 sz2 fr2 ps2 as2 c2 D2 hj hg2
  cases hr
  have hl2 := (hle2.same l hl1).1
  have hb2 : M2.blk l = M.blk l := (hle2.same l hl1).2.1.trans hb1
  obtain ⟨ob2, t1, t2, _⟩ := oth_of H3 hl2 hg2
  simp only [ORel] at t2
  obtain ⟨hDk2, fn2, tmps2, rfl, hFr2⟩ := t2
  rw [hb2] at t1
  have H4 := H3.putOth hl2 hg2 (k' := .loop (if j.isNone then .ready else .done) j sz2 fr2 ps2 as2 c2 D2) (o := .loop { state := if j.isNone then .ready else .done, pending := j, fn := fn2, tmps := tmps2, params := ps2.toArray, assign := as2, body := c2, defers := M2.blk D2 }) (by simp only [ORel]; exact ⟨hDk2, fn2, tmps2, rfl, hFr2⟩)
  rw [hb2] at H4
  have hend := run_endRound' (P := P) t1 j
  have hR : ∃ M', M.le M' ∧ HRel M' B (s2.h.set l (.oth (.loop (if j.isNone then .ready else .done) j sz2 fr2 ps2 as2 c2 D2))) (putO w2 (M.blk l) (.loop { state := if j.isNone then .ready else .done, pending := j, fn := fn2, tmps := tmps2, params := ps2.toArray, assign := as2, body := c2, defers := M2.blk D2 })) ∧ EnRel M' (.ret (.b j.isNone)) (.returned (.bool j.isNone)) :=
    ⟨M2, hle1.trans hle2, H4, _, rfl, by simp only [VRel]⟩
  cases ex <;> simp only [jumpOf] at hj <;> first | (cases hj; done) | skip
  all_goals
    cases hj
    simp only [ExRel] at he2
    subst he2
    exact ⟨_, _, hend, hR⟩
def URel (M : Mod) : Option V → FrameMode → Prop
  | none, u => u = .returning
  | some v, u => ∃ y, u = .panicking [{ v := y, recovered := false }] ∧ VRel M v y
theorem URel.mono {M M' : Mod} (h : M.le M') {m : Option V} {u : FrameMode} (hu : URel M m u) : URel M' m u := by
  cases m with
  | none => exact hu
  | some v => obtain ⟨y, h1, h2⟩ := hu; exact ⟨y, h1, h2.mono h⟩
theorem URel.settle {M : Mod} {m : Option V} {u : FrameMode} (hu : URel M m u) : URel M m (settle u) := by
  cases m with
  | none => simp only [URel] at hu; subst hu; simp [URel, Go.settle]
  | some v => obtain ⟨y, h1, h2⟩ := hu; subst h1; exact ⟨y, by simp [Go.settle], h2⟩
theorem finDf_sound (hT : TbOk P tb) {fn : Func} {m m' : Option V} {h' : Hp} {sz : Nat} {x : Option (Ex × St)} (hr : finDf tb fn.results.toList m x = some (m', h')) : m' = m ∧ ∃ r, x = some r ∧
    ∀ {M : Mod} {e : Exit} {a : Act} {w : World}, Post B M sz r e a w → (e = .normal ∨ e = .ret) ∧ a.defers = [] ∧ ∃ v, (results fn a.tmps).run P w = .ok v w ∧ ∃ M', M.le M' ∧ HRel M' B h' w := by
  unfold finDf at hr
  split at hr <;> first | (cases hr; done) | skip
  all_goals
    rename_i fr h
    split at hr <;> first | (cases hr; done) | skip
    rename_i vs hvs
    cases hr
    refine ⟨rfl, _, rfl, ?_⟩
    rintro M e a w ⟨M', hle, H', hF', hD', he⟩
    obtain ⟨y, hy, _⟩ := run_results (P := P) hT H' hF' hvs
    simp only [ExRel] at he
    exact ⟨by simp [he], hD'.nil_iff, y, hy, M', hle, H'⟩
theorem runDf_sound (hm : P.follows .mixedOrders = true) (hT : TbOk P tb) (hC : CallOk P B call) {g : Nat} {fn : Func} (hf : P.funcs[g]? = some fn) {args : List V} {m m' : Option V} {h h' : Hp} (hr : runDf tb call lf fn args m h = some (m', h')) {M : Mod} {w : World} {argsr : Array Value} {u : FrameMode} {n : Nat}
    (H : HRel M B h w) (hA : VRels M args argsr.toList) (hU : URel M m u) : CallsDIn Fence.wide n P g argsr u w fun e u' w' => (∃ v, e = .returned v) ∧ ∃ M', M.le M' ∧ HRel M' B h' w' ∧ URel M' m' (settle u') := by
  unfold runDf at hr
  split at hr <;> first | (cases hr; done) | skip
  rename_i c hb
  have hF := frel_args hA fn.ntmps
  split at hr
  · rename_i dst c' hrec
    split at hr <;> first | (cases hr; done) | skip
    rename_i fr hfr
    obtain ⟨rfl, x, hx, hpost⟩ := finDf_sound (P := P) (B := B) (sz := max args.length fn.ntmps) hT hr
    unfold recOf at hrec
    split at hrec <;> first | (cases hrec; done) | skip
    rename_i id ops c0
    split at hrec <;> first | (cases hrec; done) | skip
    rename_i dst0 a1 a2 ty pos aft hops
    cases hrec
    have hops' : ops = #[⟨dst, .call ⟨.builtin .recover, a1, a2⟩, ty, pos, aft, none⟩] := by apply Array.ext'; simpa using hops
    subst hops'
    refine callsDIn_of_wpSIn hf hb trivial fun c₀ cs hu => wpSIn_seq (wpSIn_region ?_)
    have rest : ∀ (y : Value) (u' : FrameMode), VRel M (m.getD .nili) y → settle u' = .returning →
        c'.wpSIn Fence.wide n P (bodyPostS P fn c₀ cs fun e u' w' => (∃ v, e = .returned v) ∧ ∃ M', M.le M' ∧ HRel M' B h' w' ∧ URel M' none (settle u')) (({ tmps := argsr ++ Array.replicate (fn.ntmps - argsr.size) undef, defers := [] } : Act).put dst y) ({ c₀ with mode := u' } :: cs) w := by
      intro y u' hy hset
      refine wpSIn_of_wpIn rfl (wpIn_mono (F := Fw none) (runC_sound hm hT hC c' hx (ro := none) (rr := none) H trivial (putF_rel (a := { tmps := _, defers := [] }) hF hfr hy) (by rw [Act.put_defers']; trivial)) ?_)
      intro e a w' hp
      obtain ⟨he, hd, v, hv, M', hle, H'⟩ := hpost hp
      rcases he with rfl | rfl
      · exact ⟨hd, u', rfl, v, hv, ⟨v, rfl⟩, M', hle, H', hset⟩
      · exact ⟨hd, u', rfl, v, hv, ⟨v, rfl⟩, M', hle, H', hset⟩
    have hrun : ∀ ρ, (execOp ρ (⟨dst, .call ⟨.builtin .recover, a1, a2⟩, ty, pos, aft, none⟩ : Oper)).run P w = .ok .recover w := fun ρ => by
      simp [execOp, resolve, invoke, builtin]
    show wpOpsSIn Fence.wide n P _ _ [0] _ _ w
    simp only [wpOpsSIn, List.getElem?_toArray, List.getElem?_cons_zero, Region.wanted, if_true, hrun]
    refine ⟨fun _ _ => trivial, ?_⟩
    cases m with
    | none =>
      simp only [URel] at hU
      have hc0 : c₀.mode = .returning := hu.trans hU
      have hrd : recoverD (c₀ :: cs) = none := by simp [recoverD, hc0]
      rw [hrd]
      have := rest .nilIface c₀.mode (by simp [VRel]) (by rw [hc0]; rfl)
      exact this
    | some v =>
      obtain ⟨y, hy, hv⟩ := hU
      have hc0 : c₀.mode = .panicking [{ v := y, recovered := false }] := hu.trans hy
      have hrd : recoverD (c₀ :: cs) = some (y, { c₀ with mode := .panicking [{ v := y, recovered := true }] } :: cs) := by simp [recoverD, hc0]
      rw [hrd]
      exact rest y _ hv (by simp [Go.settle])
  · obtain ⟨rfl, x, hx, hpost⟩ := finDf_sound (P := P) (B := B) (sz := max args.length fn.ntmps) hT hr
    refine (callsDIn_of_wp (R := fun e w' => (∃ v, e = .returned v) ∧ ∃ M', M.le M' ∧ HRel M' B h' w') hf hb trivial (wpIn_mono (F := Fw none) (runC_sound hm hT hC c hx (ro := none) (rr := none) (a := { tmps := _, defers := [] }) H trivial hF trivial) ?_)).mono ?_
    · intro e a w' hp
      obtain ⟨he, hd, v, hv, hM⟩ := hpost hp
      rcases he with rfl | rfl
      · exact ⟨hd, v, hv, ⟨v, rfl⟩, hM⟩
      · exact ⟨hd, v, hv, ⟨v, rfl⟩, hM⟩
    · rintro e u' w' ⟨rfl, h1, M', hle, H'⟩
      exact ⟨h1, M', hle, H', (hU.mono hle).settle⟩
end
end Go.Mx

namespace Go.Mx
structure FcOk (P : Program) (fc : Nat → Option Func) : Prop where
  get : ∀ g fn, fc g = some fn → P.funcs[g]? = some fn
  enter : ∀ g fn, fc g = some fn → fn.body.isSome = true → ∀ args w, (callFunc g args).run P w = .ok (.enter g args) w
section
variable {P : Program} {tb : Nat → Option TI} {fc : Nat → Option Func} {B : Base} {call : Caller} {lf : Nat}
theorem runDf_body {fn : Func} {args : List V} {m : Option V} {h : Hp} {r : Option V × Hp} (hr : runDf tb call lf fn args m h = some r) : fn.body.isSome = true := by
  unfold runDf at hr
  split at hr <;> first | (cases hr; done) | skip
  rename_i c hb
  rw [hb]; rfl
theorem runDs_sound (hm : P.follows .mixedOrders = true) (hT : TbOk P tb) (hf : FcOk P fc) (hC : CallOk P B call) {fn : Func} {tmps : Array Value} {R : Ending → World → Prop} {n : Nat} {m' : Option V} {h' : Hp} :
    ∀ (ds : List Dfr) (m : Option V) (h : Hp) (defers : List Deferred) (M : Mod) (w : World) (u : FrameMode), runDs tb fc call lf ds m h = some (m', h') → HRel M B h w → DRels M ds defers → URel M m u →
    (∀ M' w' u', M.le M' → HRel M' B h' w' → URel M' m' u' → LeavesInM Fence.wide n P fn tmps R [] u' w') → LeavesInM Fence.wide n P fn tmps R defers u w
  | [], m, h, defers, M, w, u, hr, H, hD, hU, hK => by
    simp [runDs] at hr
    obtain ⟨rfl, rfl⟩ := hr
    rw [hD.nil_iff]
    exact hK M w u (Mod.le.refl M) H hU
  | d :: ds, m, h, [], M, w, u, hr, H, hD, hU, hK => hD.elim
  | .col b :: ds, m, h, x :: defers, M, w, u, hr, H, hD, hU, hK => by
    simp only [runDs] at hr
    split at hr <;> first | (cases hr; done) | skip
    rename_i hg
    obtain ⟨⟨hb, rfl⟩, hD⟩ := hD
    obtain ⟨o, q1, q2, _⟩ := oth_of H hb hg
    simp only [ORel] at q2
    simp only [if_true] at q2
    subst q2
    have hrun : u ≠ .run := by
      cases m with
      | none => simp only [URel] at hU; subst hU; simp
      | some v => obtain ⟨y, rfl, _⟩ := hU; simp
    have ht : (Instr.takeDeferred (M.blk b)).run P w = .ok [] (putO w (M.blk b) (.deferred none)) := run_takeDeferred q1
    have H' := H.putOth hb hg (k' := .dfr false) (o := .deferred none) (by simp only [ORel]; rfl)
    refine ⟨hrun, .inl ⟨M.blk b, _, rfl, ht, ?_⟩⟩
    exact runDs_sound hm hT hf hC ds m _ defers M _ u hr H' hD hU hK
  | .fn (.func g) cap args :: ds, m, h, x :: defers, M, w, u, hr, H, hD, hU, hK => by
    simp only [runDs] at hr
    split at hr <;> first | (cases hr; done) | skip
    rename_i gfn hg
    split at hr <;> first | (cases hr; done) | skip
    rename_i m1 h1 hdf
    obtain ⟨⟨cs, as, rfl, hcap, hargs⟩, hD⟩ := hD
    have hrun : u ≠ .run := by
      cases m with
      | none => simp only [URel] at hU; subst hU; simp
      | some v => obtain ⟨y, rfl, _⟩ := hU; simp
    have hA : VRels M (args ++ cap) (as ++ cs).toList := by simpa using hargs.append hcap
    have hcall := runDf_sound hm hT hC (hf.get g gfn hg) hdf (n := n - 1) H hA hU
    refine ⟨hrun, .inr ⟨fun h => by simp [Fence.wide] at h, .func g, cs, g, as ++ cs, rfl, ?_, fun _ _ => trivial, hcall.mono ?_⟩⟩
    · simpa [invoke] using hf.enter g gfn hg (runDf_body hdf) (as ++ cs) w
    · rintro e u' w' ⟨⟨v, rfl⟩, M', hle, H', hU'⟩
      exact runDs_sound hm hT hf hC ds m1 h1 defers M' w' (settle u') hr H' (hD.mono hle) hU' fun M2 w2 u2 hle2 => hK M2 w2 u2 (hle.trans hle2)
  | .fn (.method _) _ _ :: ds, m, h, x :: defers, M, w, u, hr, H, hD, hU, hK => by simp [runDs] at hr
  | .fn (.methodOf _ _) _ _ :: ds, m, h, x :: defers, M, w, u, hr, H, hD, hU, hK => by simp [runDs] at hr
  | .fn (.yield _) _ _ :: ds, m, h, x :: defers, M, w, u, hr, H, hD, hU, hK => by simp [runDs] at hr
theorem finF_sound (hm : P.follows .mixedOrders = true) (hT : TbOk P tb) (hf : FcOk P fc) (hC : CallOk P B call) {fn : Func} {m : Option V} {s : St} {r : En × Hp} (hr : finF tb fc call lf fn.results.toList m s = some r) {M0 M : Mod} {sz n : Nat} {a : Act} {w : World} {u : FrameMode} (hle0 : M0.le M) (H : HRel M B s.h w) (hF : FRel M sz s.fr a.tmps) (hD : DRels M s.ds a.defers) (hU : URel M m u) :
    LeavesInM Fence.wide n P fn a.tmps (fun e w' => ∃ M', M0.le M' ∧ HRel M' B r.2 w' ∧ EnRel M' r.1 e) a.defers u w := by
  unfold finF at hr
  split at hr <;> first | (cases hr; done) | skip
  · rename_i h' hds
    split at hr <;> first | (cases hr; done) | skip
    rename_i vs hvs
    cases hr
    refine runDs_sound hm hT hf hC _ _ _ _ M w u hds H hD hU fun M' w' u' hle H' hU' => ?_
    simp only [URel] at hU'; subst hU'
    obtain ⟨y, hy, hv⟩ := run_results (P := P) hT H' (hF.mono hle) hvs
    exact ⟨y, hy, M', hle0.trans hle, H', y, rfl, hv⟩
  · rename_i v h' hds
    cases hr
    refine runDs_sound hm hT hf hC _ _ _ _ M w u hds H hD hU fun M' w' u' hle H' hU' => ?_
    obtain ⟨y, rfl, hv⟩ := hU'
    exact ⟨M', hle0.trans hle, H', y, rfl, hv⟩
theorem runF_sound (hm : P.follows .mixedOrders = true) (hT : TbOk P tb) (hf : FcOk P fc) (hC : CallOk P B call) {g : Nat} {fn : Func} (hg : P.funcs[g]? = some fn) {args : List V} {h : Hp} {r : En × Hp} (hr : runF tb fc call lf fn args h = some r)
    {M : Mod} {w : World} {argsr : Array Value} (H : HRel M B h w) (hA : VRels M args argsr.toList) : CallsIn Fence.wide 0 P g argsr w fun e w' => ∃ M', M.le M' ∧ HRel M' B r.2 w' ∧ EnRel M' r.1 e := by
  unfold runF at hr
  split at hr
  · cases hr
  rename_i c hb
  have hF := frel_args hA fn.ntmps
  refine callsIn_of_wp_marks hg hb trivial ?_
  split at hr <;> first | (cases hr; done) | skip
  · rename_i s hs
    refine wpIn_mono (F := Fw none) (runC_sound hm hT hC c hs (ro := none) (rr := none) (a := { tmps := _, defers := [] }) H trivial hF trivial) ?_
    rintro e a w' ⟨M', hle, H', hF', hD', he⟩
    simp only [ExRel] at he; subst he
    exact finF_sound hm hT hf hC hr hle H' hF' hD' rfl
  · rename_i s hs
    refine wpIn_mono (F := Fw none) (runC_sound hm hT hC c hs (ro := none) (rr := none) (a := { tmps := _, defers := [] }) H trivial hF trivial) ?_
    rintro e a w' ⟨M', hle, H', hF', hD', he⟩
    simp only [ExRel] at he; subst he
    exact finF_sound hm hT hf hC hr hle H' hF' hD' rfl
  · rename_i v s hs
    refine wpIn_mono (F := Fw none) (runC_sound hm hT hC c hs (ro := none) (rr := none) (a := { tmps := _, defers := [] }) H trivial hF trivial) ?_
    rintro e a w' ⟨M', hle, H', hF', hD', he⟩
    simp only [ExRel] at he
    obtain ⟨y, rfl, hv⟩ := he
    exact finF_sound hm hT hf hC hr hle H' hF' hD' ⟨y, rfl, hv⟩
theorem runF_body {fn : Func} {args : List V} {h : Hp} {r : En × Hp} (hr : runF tb fc call lf fn args h = some r) : fn.body.isSome = true := by
  unfold runF at hr
  split at hr <;> first | (cases hr; done) | skip
  rename_i c hb
  rw [hb]; rfl
def CtOk (P : Program) (ct : Nat → Option (List V → Hp → Option (En × Hp))) : Prop :=
  ∀ (B : Base) (g : Nat) k, ct g = some k → ∀ {args : List V} {h : Hp} {r : En × Hp} {M : Mod} {w : World} {argsr : Array Value}, k args h = some r → HRel M B h w → VRels M args argsr.toList →
    ((∀ w, (callFunc g argsr).run P w = .ok (.enter g argsr) w) ∧ CallsIn Fence.wide 0 P g argsr w fun e w' => ∃ M', M.le M' ∧ HRel M' B r.2 w' ∧ EnRel M' r.1 e) ∨
    (∃ v w' y M', r.1 = .ret v ∧ (callFunc g argsr).run P w = .ok (.value y) w' ∧ M.le M' ∧ HRel M' B r.2 w' ∧ VRel M' v y)
theorem callD_ok (hm : P.follows .mixedOrders = true) (hT : TbOk P tb) (hf : FcOk P fc) {ct : Nat → Option (List V → Hp → Option (En × Hp))} (hct : CtOk P ct) : ∀ d, CallOk P B (callD tb fc ct lf d)
  | 0 => ⟨fun h => by simp [callD] at h, fun h => by simp [callD] at h, fun h => by simp [callD] at h⟩
  | d + 1 => by
    have ih := callD_ok hm hT hf hct d
    refine ⟨fun {g args h r M w argsr} hr H hA => ?_, fun {g args h r M w argsr} hr H hA => ?_, fun {l args h r M w argsr} hr hl H hA => ?_⟩
    · simp only [callD] at hr
      split at hr
      · rename_i k hk
        exact hct B g k hk hr H hA
      · split at hr <;> first | (cases hr; done) | skip
        rename_i fn hg
        exact .inl ⟨fun w => hf.enter g fn hg (runF_body hr) _ w, runF_sound hm hT hf ih (hf.get g fn hg) hr H hA⟩
    · simp only [callD] at hr
      split at hr <;> first | (cases hr; done) | skip
      rename_i fn hg
      exact ⟨fun w => hf.enter g fn hg (runF_body hr) _ w, runF_sound hm hT hf ih (hf.get g fn hg) hr H hA⟩
    · simp only [callD] at hr
      exact runY_sound hm hT ih hr hl H hA
end
end Go.Mx

namespace Go.Mx
def ctSame : List V → Hp → Option (En × Hp)
  | [x], h => some (.ret x, h)
  | _, _ => none
def ctBytes (e : Nat) : List V → Hp → Option (En × Hp)
  | [.i .i64 n], h => if 0 ≤ n ∧ n ≤ 281474976710656 then some (.ret (.sl h.n 0 n.toNat none 1), h.push (.blk (2 * e + 1) (rep n.toNat [.jk]) true)) else none
  | _, _ => none
theorem digits_get : ∀ (n t : Nat) (acc : Array Value) (j : Nat), (∀ i (h : i < acc.size), ∃ k : Nat, k < 256 ∧ acc[i] = .int .u8 k) → j < acc.size + n → ∃ k : Nat, k < 256 ∧ (Extern.BytealgMakeNoZero.digits n t acc)[j]? = some (.int .u8 k)
  | 0, t, acc, j, h, hj => by
    obtain ⟨k, h1, h2⟩ := h j (by omega)
    exact ⟨k, h1, by simp [Extern.BytealgMakeNoZero.digits, h2, show j < acc.size by omega]⟩
  | n + 1, t, acc, j, h, hj => by
    simp only [Extern.BytealgMakeNoZero.digits]
    refine digits_get n (t / 256) _ j (fun i hi => ?_) (by simp; omega)
    by_cases e : i < acc.size
    · obtain ⟨k, h1, h2⟩ := h i e
      exact ⟨k, h1, by rw [Array.getElem_push_lt e]; exact h2⟩
    · have : i = acc.size := by simp at hi; omega
      subst this
      exact ⟨t % 256, Nat.mod_lt _ (by omega), by simp⟩
theorem ctSame_ok {P : Program} {B : Base} {g : Nat} {fn : Func} (hf : P.funcs[g]? = some fn) (hname : (fn.name == "runtime.NumGoroutine") = false) (hb : fn.body.isNone = true) (hn : Extern.findNext fn = none) (he : Extern.find fn = some Extern.AbiNoEscape.same)
    {args : List V} {h : Hp} {r : En × Hp} {M : Mod} {w : World} {argsr : Array Value} (hk : ctSame args h = some r) (H : HRel M B h w) (hA : VRels M args argsr.toList) :
    ∃ v w' y M', r.1 = .ret v ∧ (callFunc g argsr).run P w = .ok (.value y) w' ∧ M.le M' ∧ HRel M' B r.2 w' ∧ VRel M' v y := by
  unfold ctSame at hk
  split at hk <;> first | (cases hk; done) | skip
  rename_i x
  cases hk
  obtain ⟨X, rfl, hX⟩ : ∃ X, argsr = #[X] ∧ VRel M x X := by
    rcases argsr with ⟨_ | ⟨X, _ | _⟩⟩ <;> simp [VRels] at hA
    exact ⟨X, rfl, hA⟩
  refine ⟨x, w, X, M, rfl, ?_, Mod.le.refl M, H, hX⟩
  rw [run_callFunc_extern hf hname hb hn he]
  rfl
theorem run_bytes {P : Program} (w : World) (ps : Array TypeId) (t e : TypeId) (ht : P.underlying t = some (.slice e)) (n : Nat) (hn : n ≤ 281474976710656) :
    ∃ cap b, n ≤ cap ∧ (Extern.BytealgMakeNoZero.makeNoZero ps #[t] #[.int .i64 n]).run P w = .ok (.slice (some ⟨w.heap.size, 0, none⟩) n cap) (w.drew.drew.alloc (.cells (Extern.BytealgMakeNoZero.digits cap b #[]) e)) := by
  have hdef : Extern.BytealgMakeNoZero.makeNoZero ps #[t] #[.int .i64 n] =
      (do
        let .slice elem ← underlying t | stuck "bytealg.MakeNoZero: slice type expected"
        if (n : Int) < 0 || (n : Int) > 2 ^ 48 then runtimePanic (.error "makeslice: len out of range")
        let cap ← choose (.appendCap (n : Int).toNat 0 elem)
        askRoom cap
        let bytes ← choose (.extern "internal/bytealg.MakeNoZero.bytes" 0)
        let a ← newRow elem (Extern.BytealgMakeNoZero.digits cap bytes #[])
        pure (.slice (some a) (n : Int).toNat cap)) := rfl
  refine ⟨grownCap w n 0 e, (Question.extern "internal/bytealg.MakeNoZero.bytes" 0).cut (w.tape (w.drawn + 1) (.extern "internal/bytealg.MakeNoZero.bytes" 0)), by simpa using grownCap_ge w n 0 e, ?_⟩
  rw [hdef]
  have h1 : ¬ (n : Int) < 0 := by omega
  have h2 : ¬ (281474976710656 : Int) < (n : Int) := by omega
  simp [run_underlying ht, h1, h2, Question.forced, newRow, grownCap]
theorem ctBytes_ok {P : Program} {B : Base} {g t e : Nat} {fn : Func} (hf : P.funcs[g]? = some fn) (hname : (fn.name == "runtime.NumGoroutine") = false) (hb : fn.body.isNone = true) (hn : Extern.findNext fn = none)
    (he : ∃ ps, Extern.find fn = some (Extern.BytealgMakeNoZero.makeNoZero ps #[t])) (ht : P.underlying t = some (.slice e))
    {args : List V} {h : Hp} {r : En × Hp} {M : Mod} {w : World} {argsr : Array Value} (hk : ctBytes e args h = some r) (H : HRel M B h w) (hA : VRels M args argsr.toList) :
    ∃ v w' y M', r.1 = .ret v ∧ (callFunc g argsr).run P w = .ok (.value y) w' ∧ M.le M' ∧ HRel M' B r.2 w' ∧ VRel M' v y := by
  unfold ctBytes at hk
  split at hk <;> first | (cases hk; done) | skip
  rename_i n
  split at hk <;> first | (cases hk; done) | skip
  rename_i hc
  cases hk
  obtain ⟨X, rfl, hX⟩ : ∃ X, argsr = #[X] ∧ VRel M (.i .i64 n) X := by
    rcases argsr with ⟨_ | ⟨X, _ | _⟩⟩ <;> simp [VRels] at hA
    exact ⟨X, rfl, hA⟩
  simp only [VRel] at hX; subst hX
  obtain ⟨ps, he⟩ := he
  obtain ⟨m, rfl⟩ : ∃ m : Nat, n = m := ⟨n.toNat, by omega⟩
  obtain ⟨cap, b, hcap, hrun⟩ := run_bytes w ps t e ht m (by omega)
  have hsz : (Extern.BytealgMakeNoZero.digits cap b #[]).size = cap := by rw [Lib.size_digits]; simp
  have hlen : (rep m [V.jk]).length = m := by rw [rep_length]; simp
  have H0 : HRel M B h w.drew.drew := (H.drawn _).drawn _
  have H' := H0.alloc e (tag := 2 * e + 1) (by omega) (rep m [V.jk]) (Extern.BytealgMakeNoZero.digits cap b #[]) (by rw [hlen, hsz]; exact hcap) (fun j v hj => by
    have hjl : j < m := by have := (List.getElem?_eq_some_iff.1 hj).1; omega
    obtain ⟨k, k1, k2⟩ := digits_get cap b #[] j (by simp) (by simp; omega)
    refine ⟨_, k2, ?_⟩
    rw [rep_get [V.jk] (by simp) m j (by simpa using hjl)] at hj
    simp only [List.length_singleton, Nat.mod_one, List.getElem?_cons_zero, Option.some.injEq] at hj
    subst hj
    simp only [VRel]
    exact ⟨k, k1, rfl⟩) true
  refine ⟨_, _, .slice (some ⟨w.heap.size, 0, none⟩) m cap, _, rfl, ?_, M.le_push H.okM _ _ _ _, H', ?_⟩
  · rw [run_callFunc_extern hf hname hb hn he, hrun]
    rfl
  · rw [← H.n]
    simp only [VRel, Mod.push, hlen, hsz, if_true, Int.toNat_natCast, Nat.mul_one, Nat.zero_add]
    refine ⟨.inl trivial, cap, rfl, hcap, ?_, ?_, ?_⟩ <;> omega
end Go.Mx

namespace Go.Mx
theorem HRel.later {M : Mod} {B : Base} {h : Hp} {w w' : World} (H : HRel M B h w) (h1 : w'.os = w.os) (h2 : w'.tape = w.tape) (h3 : w'.output = w.output) (h4 : w.heap.size ≤ w'.heap.size) (h5 : ∀ k, k < w.heap.size → w'.heap[k]? = w.heap[k]?) : HRel M B h w' :=
  ⟨H.n, h1.trans H.os, h2.trans H.tape, h3.trans H.output, Nat.le_trans H.size h4, fun k hk hn => (h5 k (Nat.lt_of_lt_of_le hk H.size)).trans (H.old k hk hn), H.lt, H.okn,
    fun id ob hg hk => (H.blk id ob hg hk).mono (Mod.le0.refl M) hk fun hl => h5 _ (H.blk_lt hg hk hl), H.sep⟩
def Mod.none : Mod := { n := 0, ok := fun _ => False, blk := fun _ => 0, bas := fun _ => 0, len := fun _ => 0, siz := fun _ => 0 }
theorem HRel.start (w : World) : HRel Mod.none ⟨w, fun _ => False⟩ ⟨[], 0⟩ w :=
  ⟨rfl, rfl, rfl, rfl, Nat.le_refl _, fun _ _ _ => rfl, fun _ _ h => by simp [Hp.get, look] at h, fun _ h => h.elim, fun _ _ h => by simp [Hp.get, look] at h, fun _ _ _ _ _ h => by simp [Hp.get, look] at h⟩
def isTrue : Option (En × Hp) → Bool
  | some (.ret (.b true), _) => true
  | _ => false
theorem true_of_run {P : Program} (hm : P.follows .mixedOrders = true) {tb : Nat → Option TI} (hT : TbOk P tb) {fc : Nat → Option Func} (hf : FcOk P fc) {ct : Nat → Option (List V → Hp → Option (En × Hp))} (hct : CtOk P ct) {lf d g : Nat} (hr : isTrue (callD tb fc ct lf d (.it g) [] ⟨[], 0⟩) = true) (w : World) :
    (∀ w, (callFunc g #[]).run P w = .ok (.enter g #[]) w) ∧ CallsIn Fence.wide 0 P g #[] w fun e w' => e = .returned (.bool true) ∧ w'.os = w.os ∧ w'.tape = w.tape ∧ w'.output = w.output ∧ w.heap.size ≤ w'.heap.size ∧ ∀ k, k < w.heap.size → w'.heap[k]? = w.heap[k]? := by
  unfold isTrue at hr
  split at hr <;> first | (cases hr; done) | skip
  rename_i h' hc
  obtain ⟨h1, h2⟩ := (callD_ok hm hT hf hct d).it hc (HRel.start w) (argsr := #[]) (by simp [VRels])
  refine ⟨h1, h2.mono ?_⟩
  rintro e w' ⟨M', hle, H', y, rfl, hv⟩
  simp only [VRel] at hv; subst hv
  exact ⟨rfl, H'.os, H'.tape, H'.output, H'.size, fun k hk => H'.old k hk (fun h => h)⟩
def ctTrue : List V → Hp → Option (En × Hp)
  | [], h => some (.ret (.b true), h)
  | _, _ => none
theorem ctTrue_ok {P : Program} {g : Nat} (hg : ∀ w, (∀ w, (callFunc g #[]).run P w = .ok (.enter g #[]) w) ∧ CallsIn Fence.wide 0 P g #[] w fun e w' => e = .returned (.bool true) ∧ w'.os = w.os ∧ w'.tape = w.tape ∧ w'.output = w.output ∧ w.heap.size ≤ w'.heap.size ∧ ∀ k, k < w.heap.size → w'.heap[k]? = w.heap[k]?)
    {B : Base} {args : List V} {h : Hp} {r : En × Hp} {M : Mod} {w : World} {argsr : Array Value} (hk : ctTrue args h = some r) (H : HRel M B h w) (hA : VRels M args argsr.toList) :
    (∀ w, (callFunc g argsr).run P w = .ok (.enter g argsr) w) ∧ CallsIn Fence.wide 0 P g argsr w fun e w' => ∃ M', M.le M' ∧ HRel M' B r.2 w' ∧ EnRel M' r.1 e := by
  unfold ctTrue at hk
  split at hk <;> first | (cases hk; done) | skip
  cases hk
  have : argsr = #[] := by
    rcases argsr with ⟨_ | _⟩ <;> simp [VRels] at hA
    rfl
  subst this
  refine ⟨(hg w).1, (hg w).2.mono ?_⟩
  rintro e w' ⟨rfl, h1, h2, h3, h4, h5⟩
  exact ⟨M, Mod.le.refl M, H.later h1 h2 h3 h4 h5, _, rfl, by simp only [VRel]⟩
end Go.Mx
