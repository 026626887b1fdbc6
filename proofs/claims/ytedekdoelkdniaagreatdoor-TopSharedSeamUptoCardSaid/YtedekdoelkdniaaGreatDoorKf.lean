/- The abstract machine: regions whose order is drawn, sound. -/
import Derived.OrdersIn
import Derived.Test.YtedekdoelkdniaaGreatDoorKe
set_option linter.all false
namespace Go.Mx
def Mod.reserve (M : Mod) : Mod := { M with n := M.n + 1 }
def Mod.bind (M : Mod) (id blk len siz : Nat) : Mod :=
  { n := M.n, ok := fun b => b = id ∨ M.ok b, blk := fun b => if b = id then blk else M.blk b, bas := fun b => if b = id then 0 else M.bas b,
    len := fun b => if b = id then len else M.len b, siz := fun b => if b = id then siz else M.siz b }
theorem Mod.le_reserve (M : Mod) : M.le M.reserve := ⟨⟨fun _ h => ⟨h, rfl, rfl, rfl, rfl⟩⟩, Nat.le_succ _, fun _ _ h => h⟩
theorem Mod.le0_bind {M : Mod} {id : Nat} (h : ¬ M.ok id) (blk len siz : Nat) : M.le0 (M.bind id blk len siz) :=
  ⟨fun b hb => by
    have : b ≠ id := fun e => h (e ▸ hb)
    simp [Mod.bind, this, hb]⟩
theorem HRel.reserve {M : Mod} {B : Base} {h : Hp} {w : World} (H : HRel M B h w) (ob : Ob) : HRel M.reserve B (h.push ob) w := by
  have hne : ∀ id, M.ok id → id ≠ h.n := fun id hk => by have := H.okn id hk; omega
  refine ⟨by simp [Mod.reserve, H.n], H.os, H.tape, H.output, H.size, H.old, ?_, ?_, ?_, ?_⟩
  · intro id o hg
    by_cases e : id = h.n
    · subst e; simp
    · rw [Hp.get_push_ne _ _ e] at hg
      have := H.lt id o hg; simp; omega
  · intro id hk
    have := H.okn id hk; simp; omega
  · intro id o hg hk
    rw [Hp.get_push_ne _ _ (hne id hk)] at hg
    exact (H.blk id o hg hk).mono (Mod.le_reserve M).toLe0 hk fun _ => rfl
  · intro i j o o' hn hi hj hki hkj hli hlj hw
    rw [Hp.get_push_ne _ _ (hne i hki)] at hi
    rw [Hp.get_push_ne _ _ (hne j hkj)] at hj
    exact H.sep i j o o' hn hi hj hki hkj hli hlj hw
theorem HRel.bind {M : Mod} {B : Base} {h : Hp} {w : World} (H : HRel M B h w) {id ty : Nat} {cells : List V} {cs : Array Value} (hnk : ¬ M.ok id) (hg : h.get id = some (.blk (2 * ty) cells true)) (hc : VRels M cells cs.toList) :
    HRel (M.bind id w.heap.size cells.length cs.size) B h (w.alloc (.cells cs ty)) := by
  have hle := Mod.le0_bind hnk w.heap.size cells.length cs.size
  have hold : ∀ k, k < w.heap.size → (w.alloc (.cells cs ty)).heap[k]? = w.heap[k]? := fun k hk => RowKit.Below.heap_alloc w _ k hk
  have hl : cells.length = cs.size := by have := hc.length; simpa using this
  have hoks : ∀ b, (M.bind id w.heap.size cells.length cs.size).ok b → b ≠ id → M.ok b := fun b hk e => hk.resolve_left e
  have hb1 : ∀ b, b ≠ id → (M.bind id w.heap.size cells.length cs.size).blk b = M.blk b := fun b e => by simp [Mod.bind, e]
  have hb2 : (M.bind id w.heap.size cells.length cs.size).blk id = w.heap.size := by simp [Mod.bind]
  refine ⟨H.n, H.os, H.tape, H.output, by simp only [World.size_alloc]; have := H.size; omega, fun k hk hw => (hold k (by have := H.size; omega)).trans (H.old k hk hw), H.lt, ?_, ?_, ?_⟩
  · intro b hk
    by_cases e : b = id
    · subst e; exact H.lt b _ hg
    · exact H.okn b (hoks b hk e)
  · intro b o hgb hk
    by_cases e : b = id
    · subst e
      rw [hg] at hgb; cases hgb
      refine ⟨cs, (0, 0), ?_, by simp [Mod.bind], by simp [Mod.bind]; omega, by simp [Mod.bind], ?_, ?_, fun _ _ => by simp [Mod.bind], fun h => by cases h⟩
      · rw [hb2, show 2 * ty / 2 = ty by omega]; exact World.alloc_heap_new w _
      · intro j v hj
        obtain ⟨y, hy, hv⟩ := hc.get hj
        exact ⟨y, by simp [Mod.bind]; simpa using hy, hv.mono0 hle⟩
      · intro _
        refine ⟨.inl (by rw [hb2]; exact H.size), fun o _ => by simp⟩
    · have hk' := hoks b hk e
      exact (H.blk b o hgb hk').mono hle hk' fun hlv => hold _ (H.blk_lt hgb hk' hlv)
  · intro i j o o' hne hi hj hki hkj hli hlj hw
    by_cases e : i = id
    · subst e
      have e' : j ≠ i := fun x => hne x.symm
      have := H.blk_lt hj (hoks j hkj e') hlj
      rw [hb2, hb1 _ e']; omega
    · by_cases e' : j = id
      · subst e'
        have := H.blk_lt hi (hoks i hki e) hli
        rw [hb2, hb1 _ e]; omega
      · rw [hb1 _ e, hb1 _ e']
        exact H.sep i j o o' hne hi hj (hoks i hki e) (hoks j hkj e') hli hlj hw
def Tin (listed : Array Bool) (i : Nat) : Prop := listed.getD i false = true
section
variable (tb : Nat → Option TI) (B : Base) (ops : Array Oper) (bs : List Nat) (sz : Nat) (ro rr : Option Nat) (M0 : Mod)
def Pend (lds : List Ld) (als : List Al) (s : St) (M : Mod) (o : Oper) (i : Nat) (v : V) : Prop :=
  clsA o.op < 3 ∧ (∀ d, o.dst = some d → d < sz ∧ look s.fr d = some v) ∧
  ((wantedR ops.toList.zipIdx (evR s.fr (badOf ops.toList.zipIdx bs i)) o = some false ∧ v = .tup []) ∨
   (wantedR ops.toList.zipIdx (evR s.fr (badOf ops.toList.zipIdx bs i)) o = some true ∧ clsA o.op ≠ 2 ∧ readA tb (evR s.fr (badOf ops.toList.zipIdx bs i)) o.op s.h = some v ∧
      (clsA o.op = 1 → (⟨i, o.op, badOf ops.toList.zipIdx bs i, v⟩ : Ld) ∈ lds)) ∨
   (wantedR ops.toList.zipIdx (evR s.fr (badOf ops.toList.zipIdx bs i)) o = some true ∧ ∃ t ti nb, o.op = .alloc t ∧ tb t = some ti ∧ v = .p nb 0 ∧ M0.n ≤ nb ∧ nb < M.n ∧ ¬ M.ok nb ∧ s.h.get nb = some (.blk (2 * t) ti.zero true) ∧
      (⟨i, nb, t, ti.zero⟩ : Al) ∈ als) ∨
   (wantedR ops.toList.zipIdx (evR s.fr (badOf ops.toList.zipIdx bs i)) o = some true ∧ ∃ t x y e zero vf nb, o.op = .makeSlice t x y ∧ newS tb (evR s.fr (badOf ops.toList.zipIdx bs i)) t x y = some (e, zero, vf) ∧ v = vf nb ∧ M0.n ≤ nb ∧ nb < M.n ∧ ¬ M.ok nb ∧ s.h.get nb = some (.blk (2 * e) zero true) ∧
      (⟨i, nb, e, zero⟩ : Al) ∈ als))
structure DI (S : Nat) (lds : List Ld) (als : List Al) (s : St) (listed : Array Bool) (a : Act) (w : World) (M : Mod) : Prop where
  le : M0.le M
  H : HRel M B s.h w
  ro : RoOk M ro rr
  D : DRels M s.ds a.defers
  tsz : a.tmps.size = sz
  lsz : listed.size = ops.size
  sub : ∀ i, Tin listed i → S.testBit i = true
  slt : ∀ i, S.testBit i = true → i < ops.size
  scl : ∀ i j, S.testBit i = true → (bs.getD i 0).testBit j = true → S.testBit j = true
  tcl : ∀ i j, Tin listed i → (bs.getD i 0).testBit j = true → Tin listed j
  F : ∀ t v, (∀ j o, ops[j]? = some o → S.testBit j = true → ¬ Tin listed j → o.dst ≠ some t) → look s.fr t = some v → ∃ y, a.tmps[t]? = some y ∧ VRel M v y
  pend : ∀ i o, ops[i]? = some o → S.testBit i = true → ¬ Tin listed i → ∃ v, Pend tb ops bs sz M0 lds als s M o i v
  alsN : ∀ x ∈ als, x.nb < M.n
  alsD : ∀ x ∈ als, ∀ y ∈ als, x.nb = y.nb → x = y
end
theorem Mod.bind_sl (M : Mod) (id blk len siz n k z : Nat) (hn : n ≤ k) (hk : k * z ≤ len) (hs : len ≤ siz) : VRel (M.bind id blk len siz) (.sl id 0 n (some k) z) (.slice (some ⟨blk, 0, none⟩) n k) := by
  have : n * z ≤ k * z := Nat.mul_le_mul_right _ hn
  simp only [VRel, Mod.bind]
  refine ⟨.inl trivial, k, by simp, hn, by simp; omega, by simp; omega, rfl, by simp; omega⟩
theorem mem_bad {ops : Array Oper} {bs : List Nat} {i j : Nat} {o : Oper} {d : Nat} (ho : ops[j]? = some o) (hd : o.dst = some d) (hb : (bs.getD i 0).testBit j = false) (hc : clsA o.op < 3 ∨ (bs.getD j 0).testBit i = false) : (badOf ops.toList.zipIdx bs i).contains d = true := by
  rw [List.contains_iff_mem]
  unfold badOf
  rw [List.mem_filterMap]
  refine ⟨(o, j), by rw [List.mk_mem_zipIdx_iff_getElem?]; simpa using ho, ?_⟩
  rw [if_neg (by show ¬ ((bs.getD i 0).testBit j = true); rw [hb]; simp), if_neg ?_]
  · exact hd
  · intro h
    simp only [Bool.and_eq_true, beq_iff_eq] at h
    rcases hc with hc | hc
    · omega
    · rw [hc] at h; simp at h
theorem evR_put {fr : List (Nat × V)} {bad : List Nat} {d : Nat} {v : V} (h : bad.contains d = true) : evR ((d, v) :: fr) bad = evR fr bad := by
  funext x
  cases x with
  | tmp t =>
    simp only [evR]
    by_cases e : d = t
    · subst e; rw [if_pos h, if_pos h]
    · have : (d == t) = false := by simpa using e
      simp [look, this]
  | _ => rfl
theorem evR_putF {sz : Nat} {fr fr' : List (Nat × V)} {bad : List Nat} {dst : Option Nat} {v : V} (hp : putF sz fr dst v = some fr') (h : ∀ d, dst = some d → bad.contains d = true) : evR fr' bad = evR fr bad := by
  unfold putF at hp
  split at hp
  · cases hp; rfl
  · split at hp <;> cases hp
    exact evR_put (h _ rfl)
theorem look_putF {sz : Nat} {fr fr' : List (Nat × V)} {dst : Option Nat} {v : V} (hp : putF sz fr dst v = some fr') : (∀ d, dst = some d → d < sz ∧ look fr' d = some v) ∧ ∀ t, dst ≠ some t → look fr' t = look fr t := by
  unfold putF at hp
  split at hp
  · cases hp; exact ⟨fun d h => by simp at h, fun _ _ => rfl⟩
  · rename_i d
    split at hp <;> cases hp
    rename_i hd
    refine ⟨fun x hx => ?_, fun t ht => ?_⟩
    · cases hx; exact ⟨hd, by simp [look]⟩
    · have : (d == t) = false := by simp; exact fun e => ht (by rw [e])
      simp [look, this]
section
variable {P : Program} {tb : Nat → Option TI} {B : Base} {ops : Array Oper} {bs : List Nat} {sz : Nat} {ro rr : Option Nat} {M0 : Mod} {S : Nat} {lds : List Ld} {als : List Al} {s : St} {listed : Array Bool} {a : Act} {w : World} {M : Mod}
theorem DI.evRel (I : DI tb B ops bs sz ro rr M0 S lds als s listed a w M) {i : Nat} (hi : ∀ j, (bs.getD i 0).testBit j = true → Tin listed j) : ∀ x v, evR s.fr (badOf ops.toList.zipIdx bs i) x = some v → VRel M v (a.eval x) := by
  intro x v hx
  cases x with
  | tmp t =>
    simp only [evR] at hx
    split at hx <;> first | (cases hx; done) | skip
    rename_i hbad
    obtain ⟨y, hy, hv⟩ := I.F t v (fun j o ho hS hT hd => by
      obtain ⟨v', hp⟩ := I.pend j o ho hS hT
      refine hbad (mem_bad ho hd ?_ (.inl hp.1))
      apply Bool.eq_false_iff.2
      intro hb
      exact hT (hi j hb)) hx
    have : a.eval (.tmp t) = y := by simp [Act.eval, hy]
    rw [this]; exact hv
  | const c => exact cval_rel hx
  | global g => simp [evR, evF] at hx
  | func f => simp [evR, evF] at hx; subst hx; simp only [VRel, Act.eval]; exact ⟨#[], #[], rfl, by simp [VRels], by simp [VRels]⟩
theorem wantedR_rel {ev : Operand → Option V} (hev : ∀ x v, ev x = some v → VRel M v (a.eval x)) {o : Oper} {t : Bool} (h : wantedR ops.toList.zipIdx ev o = some t) (hsz : ∀ d v, ev (.tmp d) = some v → d < a.tmps.size) : Region.wanted o (yielded ops a.tmps) = t := by
  unfold wantedR at h
  unfold Region.wanted
  split at h
  · cases h; rename_i hg; simp [hg]
  · rename_i j want hg
    rw [hg]
    split at h <;> first | (cases h; done) | skip
    rename_i p jj hp
    have hp' : ops[j]? = some p := by
      rw [List.getElem?_zipIdx] at hp
      simp only [Array.getElem?_toList, Option.map_eq_some_iff, Prod.mk.injEq] at hp
      obtain ⟨q, h1, h2, _⟩ := hp
      rw [h1, h2]
    split at h <;> first | (cases h; done) | skip
    rename_i d hd
    have hy : ∀ v, ev (.tmp d) = some v → ∃ y, a.tmps[d]? = some y ∧ VRel M v y := fun v hv => by
      have h1 := hev _ _ hv
      have h2 := hsz _ _ hv
      refine ⟨a.tmps[d], by simp [h2], ?_⟩
      have : a.eval (.tmp d) = a.tmps[d] := by simp [Act.eval, h2]
      rw [← this]; exact h1
    split at h <;> first | (cases h; done) | skip
    · rename_i t' hl
      cases h
      obtain ⟨y, hy, hv⟩ := hy _ hl
      simp only [VRel] at hv; subst hv
      simp [yielded, hp', hd, hy]
    · rename_i l hl
      cases h
      obtain ⟨y, hy, hv⟩ := hy _ hl
      simp only [VRel] at hv
      obtain ⟨cs, rfl, _⟩ := hv
      simp [yielded, hp', hd, hy]
end
end Go.Mx

namespace Go.Mx
theorem bit_or {S i j : Nat} : (S ||| 2 ^ i).testBit j = true ↔ S.testBit j = true ∨ i = j := by
  rw [Nat.testBit_or, Bool.or_eq_true, Nat.testBit_two_pow, decide_eq_true_eq]
theorem Tin_set {listed : Array Bool} {i j : Nat} (hi : i < listed.size) : Tin (listed.setIfInBounds i true) j ↔ Tin listed j ∨ i = j := by
  unfold Tin
  by_cases e : i = j
  · subst e; simp [hi]
  · rw [getD_set_ne false e]; simp [e]
theorem put_get {a : Act} {dst : Option Tmp} {y : Value} : (∀ d, dst = some d → d < a.tmps.size → (a.put dst y).tmps[d]? = some y) ∧ ∀ t, dst ≠ some t → (a.put dst y).tmps[t]? = a.tmps[t]? := by
  cases dst with
  | none => exact ⟨fun d h => by simp at h, fun _ _ => rfl⟩
  | some d =>
    refine ⟨fun x hx hlt => ?_, fun t ht => ?_⟩
    · cases hx; simp only [Act.put]; rw [Array.getElem?_setIfInBounds_self_of_lt hlt]
    · have : d ≠ t := fun e => ht (by rw [e])
      simp only [Act.put]; rw [Array.getElem?_setIfInBounds_ne this]
theorem put_size {a : Act} {dst : Option Tmp} {y : Value} : (a.put dst y).tmps.size = a.tmps.size := by cases dst <;> simp [Act.put]
theorem distinct_get {α : Type} (f : α → Option Nat) : ∀ (l : List α), distinctN (l.filterMap f) = true → ∀ (i j : Nat) (x y : α) (d : Nat), l[i]? = some x → l[j]? = some y → f x = some d → f y = some d → i = j
  | [], _, i, _, _, _, _, h, _, _, _ => by simp at h
  | z :: l, hd, i, j, x, y, d, hi, hj, hx, hy => by
    have tail : distinctN (l.filterMap f) = true := by
      simp only [List.filterMap_cons] at hd
      split at hd
      · exact hd
      · simp only [distinctN, Bool.and_eq_true] at hd; exact hd.2
    have head : ∀ k u, l[k]? = some u → f z = some d → f u = some d → False := fun k u hk hz hu => by
      simp only [List.filterMap_cons, hz, distinctN, Bool.and_eq_true, Bool.not_eq_true'] at hd
      have hm : d ∈ l.filterMap f := List.mem_filterMap.2 ⟨u, List.mem_of_getElem? hk, hu⟩
      have := List.contains_iff_mem.2 hm
      rw [hd.1] at this; cases this
    cases i with
    | zero =>
      simp at hi; subst hi
      cases j with
      | zero => rfl
      | succ j => exact (head j y (by simpa using hj) hx hy).elim
    | succ i =>
      cases j with
      | zero => simp at hj; subst hj; exact (head i x (by simpa using hi) hy hx).elim
      | succ j => rw [distinct_get f l tail i j x y d (by simpa using hi) (by simpa using hj) hx hy]
section
variable {P : Program} {tb : Nat → Option TI} {B : Base} {ops : Array Oper} {bs : List Nat} {sz : Nat} {ro rr : Option Nat} {M0 : Mod} {S : Nat} {lds lds' : List Ld} {als als' : List Al} {s : St} {listed : Array Bool} {a : Act} {w : World} {M : Mod}
theorem DI.ahead (I : DI tb B ops bs sz ro rr M0 S lds als s listed a w M) {o : Oper} {i : Nat} (ho : ops[i]? = some o) (hcl : clsA o.op < 3) (hnS : S.testBit i = false) (hb : ∀ j, (bs.getD i 0).testBit j = true → S.testBit j = true)
    (hdist : ∀ (i j : Nat) (oi oj : Oper) (d : Nat), ops[i]? = some oi → ops[j]? = some oj → oi.dst = some d → oj.dst = some d → i = j) {v : V} {fr' : List (Nat × V)} (hput : putF sz s.fr o.dst v = some fr') {h' : Hp} {M' : Mod} (H' : HRel M' B h' w) (hle : M.le M')
    (hl : ∀ x ∈ lds, x ∈ lds') (ha : ∀ x ∈ als, x ∈ als') (hN : ∀ x ∈ als', x.nb < M'.n) (hD : ∀ x ∈ als', ∀ y ∈ als', x.nb = y.nb → x = y)
    (hread : ∀ x ∈ lds, readA tb (evR s.fr x.bad) x.o s.h = some x.v → readA tb (evR s.fr x.bad) x.o h' = some x.v) (hget : ∀ x ∈ als, h'.get x.nb = s.h.get x.nb)
    (hp : Pend tb ops bs sz M0 lds' als' ⟨fr', s.ds, h'⟩ M' o i v) : DI tb B ops bs sz ro rr M0 (S ||| 2 ^ i) lds' als' ⟨fr', s.ds, h'⟩ listed a w M' := by
  have hlt : i < ops.size := (Array.getElem?_eq_some_iff.1 ho).1
  obtain ⟨lp1, lp2⟩ := look_putF hput
  refine ⟨I.le.trans hle, H', I.ro.mono0 hle.toLe0, I.D.mono hle, I.tsz, I.lsz, fun j hj => bit_or.2 (.inl (I.sub j hj)), fun j hj => ?_, fun j k hj hk => ?_, I.tcl, fun t u hf hu => ?_, fun k ok hk hS hT => ?_, hN, hD⟩
  · rcases bit_or.1 hj with h | h
    · exact I.slt j h
    · subst h; exact hlt
  · rcases bit_or.1 hj with h | h
    · exact bit_or.2 (.inl (I.scl j k h hk))
    · subst h; exact bit_or.2 (.inl (hb k hk))
  · have hni : ¬ Tin listed i := fun h => by have := I.sub i h; rw [hnS] at this; cases this
    have hne := hf i o ho (bit_or.2 (.inr rfl)) hni
    rw [lp2 t hne] at hu
    obtain ⟨y, hy, hv⟩ := I.F t u (fun j oj hj hS hT => hf j oj hj (bit_or.2 (.inl hS)) hT) hu
    exact ⟨y, hy, hv.mono hle⟩
  · rcases bit_or.1 hS with h | h
    · obtain ⟨u, q1, q2, q3⟩ := I.pend k ok hk h hT
      have hki : k ≠ i := fun e => by subst e; rw [hnS] at h; cases h
      have hbk : (bs.getD k 0).testBit i = false := Bool.eq_false_iff.2 fun e => by have := I.scl k i h e; rw [hnS] at this; cases this
      have hev : evR fr' (badOf ops.toList.zipIdx bs k) = evR s.fr (badOf ops.toList.zipIdx bs k) := evR_putF hput fun d hd => mem_bad ho hd hbk (.inl hcl)
      refine ⟨u, q1, fun d hd => ⟨(q2 d hd).1, ?_⟩, ?_⟩
      · rw [lp2 d (fun e => hki (hdist k i ok o d hk ho hd e))]; exact (q2 d hd).2
      · simp only [hev]
        rcases q3 with q3 | ⟨q3, q4, q5, q6⟩ | ⟨q3, t, ti, nb, q4, q5, q6, q7, q8, q9, q10, q11⟩ | ⟨q3, t, x1, x2, e, zr, vf, nb, q4, q5, q6, q7, q8, q9, q10, q11⟩
        · exact .inl q3
        · refine .inr (.inl ⟨q3, q4, ?_, fun h1 => hl _ (q6 h1)⟩)
          by_cases h1 : clsA ok.op = 1
          · exact hread _ (q6 h1) q5
          · rw [readA_calm h1 h' s.h]; exact q5
        · refine .inr (.inr (.inl ⟨q3, t, ti, nb, q4, q5, q6, q7, Nat.lt_of_lt_of_le q8 hle.n, fun e => q9 (hle.old nb q8 e), ?_, ha _ q11⟩))
          rw [hget _ q11]; exact q10
        · refine .inr (.inr (.inr ⟨q3, t, x1, x2, e, zr, vf, nb, q4, q5, q6, q7, Nat.lt_of_lt_of_le q8 hle.n, fun e => q9 (hle.old nb q8 e), ?_, ha _ q11⟩))
          rw [hget _ q11]; exact q10
    · subst h
      rw [ho] at hk; cases hk
      exact ⟨v, hp⟩
theorem DI.sync (I : DI tb B ops bs sz ro rr M0 S lds als s listed a w M) {o : Oper} {i : Nat} (ho : ops[i]? = some o) (hnS : S.testBit i = false) (hT : ∀ j, (bs.getD i 0).testBit j = true → Tin listed j)
    (hdist : ∀ (i j : Nat) (oi oj : Oper) (d : Nat), ops[i]? = some oi → ops[j]? = some oj → oi.dst = some d → oj.dst = some d → i = j) {v : V} {y : Value} {fr' : List (Nat × V)} (hput : putF sz s.fr o.dst v = some fr') {h' : Hp} {ds' : List Dfr} {M' : Mod} {w' : World} {a' : Act} (hle : M.le M') (H' : HRel M' B h' w') (D' : DRels M' ds' a'.defers)
    (ha' : a'.tmps = (a.put o.dst y).tmps) (hv : VRel M' v y)
    (hread : ∀ x ∈ lds, (bs.getD i 0).testBit x.i = false → readA tb (evR s.fr x.bad) x.o s.h = some x.v → readA tb (evR s.fr x.bad) x.o h' = some x.v)
    (hget : ∀ x ∈ als, (bs.getD i 0).testBit x.i = false → s.h.get x.nb = some (.blk (2 * x.t) x.zero true) → h'.get x.nb = some (.blk (2 * x.t) x.zero true)) :
    DI tb B ops bs sz ro rr M0 (S ||| 2 ^ i) lds als ⟨fr', ds', h'⟩ (listed.setIfInBounds i true) a' w' M' := by
  have hlt : i < ops.size := (Array.getElem?_eq_some_iff.1 ho).1
  have hlt' : i < listed.size := by rw [I.lsz]; exact hlt
  obtain ⟨lp1, lp2⟩ := look_putF hput
  obtain ⟨pg1, pg2⟩ := put_get (a := a) (dst := o.dst) (y := y)
  refine ⟨I.le.trans hle, H', I.ro.mono0 hle.toLe0, D', by rw [ha', put_size]; exact I.tsz, by simpa using I.lsz, fun j hj => ?_, fun j hj => ?_, fun j k hj hk => ?_, fun j k hj hk => ?_, fun t u hf hu => ?_, fun k ok hk hS hTk => ?_, fun x hx => Nat.lt_of_lt_of_le (I.alsN x hx) hle.n, I.alsD⟩
  · rcases (Tin_set hlt').1 hj with h | h
    · exact bit_or.2 (.inl (I.sub j h))
    · exact bit_or.2 (.inr h)
  · rcases bit_or.1 hj with h | h
    · exact I.slt j h
    · subst h; exact hlt
  · rcases bit_or.1 hj with h | h
    · exact bit_or.2 (.inl (I.scl j k h hk))
    · subst h; exact bit_or.2 (.inl (I.sub k (hT k hk)))
  · rcases (Tin_set hlt').1 hj with h | h
    · exact (Tin_set hlt').2 (.inl (I.tcl j k h hk))
    · subst h; exact (Tin_set hlt').2 (.inl (hT k hk))
  · rw [ha']
    by_cases hd : o.dst = some t
    · have h1 := lp1 t hd
      rw [h1.2] at hu; cases hu
      exact ⟨y, pg1 t hd (by rw [I.tsz]; exact h1.1), hv⟩
    · rw [lp2 t hd] at hu
      obtain ⟨z, hz, hzv⟩ := I.F t u (fun j oj hj hS hTj => hf j oj hj (bit_or.2 (.inl hS)) (fun h => by
        rcases (Tin_set hlt').1 h with h | h
        · exact hTj h
        · subst h; rw [hnS] at hS; cases hS)) hu
      exact ⟨z, by rw [pg2 t hd]; exact hz, hzv.mono hle⟩
  · have hTk' : ¬ Tin listed k := fun h => hTk ((Tin_set hlt').2 (.inl h))
    rcases bit_or.1 hS with h | h
    · obtain ⟨u, q1, q2, q3⟩ := I.pend k ok hk h hTk'
      have hki : k ≠ i := fun e => by subst e; rw [hnS] at h; cases h
      have hbk : (bs.getD k 0).testBit i = false := Bool.eq_false_iff.2 fun e => by have := I.scl k i h e; rw [hnS] at this; cases this
      have hik : (bs.getD i 0).testBit k = false := Bool.eq_false_iff.2 fun e => hTk' (hT k e)
      have hev : evR fr' (badOf ops.toList.zipIdx bs k) = evR s.fr (badOf ops.toList.zipIdx bs k) := evR_putF hput fun d hd => mem_bad ho hd hbk (.inr hik)
      refine ⟨u, q1, fun d hd => ⟨(q2 d hd).1, ?_⟩, ?_⟩
      · rw [lp2 d (fun e => hki (hdist k i ok o d hk ho hd e))]; exact (q2 d hd).2
      · simp only [hev]
        rcases q3 with q3 | ⟨q3, q4, q5, q6⟩ | ⟨q3, t, ti, nb, q4, q5, q6, q7, q8, q9, q10, q11⟩ | ⟨q3, t, x1, x2, e, zr, vf, nb, q4, q5, q6, q7, q8, q9, q10, q11⟩
        · exact .inl q3
        · refine .inr (.inl ⟨q3, q4, ?_, q6⟩)
          by_cases h1 : clsA ok.op = 1
          · exact hread _ (q6 h1) hik q5
          · rw [readA_calm h1 h' s.h]; exact q5
        · exact .inr (.inr (.inl ⟨q3, t, ti, nb, q4, q5, q6, q7, Nat.lt_of_lt_of_le q8 hle.n, fun e => q9 (hle.old nb q8 e), hget _ q11 hik q10, q11⟩))
        · exact .inr (.inr (.inr ⟨q3, t, x1, x2, e, zr, vf, nb, q4, q5, q6, q7, Nat.lt_of_lt_of_le q8 hle.n, fun e => q9 (hle.old nb q8 e), hget _ q11 hik q10, q11⟩))
    · subst h
      exact (hTk ((Tin_set hlt').2 (.inr rfl))).elim
theorem DI.late (I : DI tb B ops bs sz ro rr M0 S lds als s listed a w M) {o : Oper} {i : Nat} (ho : ops[i]? = some o) (hS : S.testBit i = true) (hT : ∀ j, (bs.getD i 0).testBit j = true → Tin listed j) {v : V} (hv : ∀ d, o.dst = some d → d < sz ∧ look s.fr d = some v)
    {y : Value} {M' : Mod} {w' : World} (hle : M.le0 M') (hn : M'.n = M.n) (h0 : M0.le M') (H' : HRel M' B s.h w') (hvy : VRel M' v y) (hok : ∀ x ∈ als, x.i ≠ i → ¬ M.ok x.nb → ¬ M'.ok x.nb) :
    DI tb B ops bs sz ro rr M0 S lds als s (listed.setIfInBounds i true) (a.put o.dst y) w' M' := by
  have hlt : i < ops.size := (Array.getElem?_eq_some_iff.1 ho).1
  have hlt' : i < listed.size := by rw [I.lsz]; exact hlt
  obtain ⟨pg1, pg2⟩ := put_get (a := a) (dst := o.dst) (y := y)
  refine ⟨h0, H', I.ro.mono0 hle, by rw [Act.put_defers']; exact I.D.mono0 hle, by rw [put_size]; exact I.tsz, by simpa using I.lsz, fun j hj => ?_, I.slt, I.scl, fun j k hj hk => ?_, fun t u hf hu => ?_, fun k ok hk hS' hTk => ?_, fun x hx => by rw [hn]; exact I.alsN x hx, I.alsD⟩
  · rcases (Tin_set hlt').1 hj with h | h
    · exact I.sub j h
    · subst h; exact hS
  · rcases (Tin_set hlt').1 hj with h | h
    · exact (Tin_set hlt').2 (.inl (I.tcl j k h hk))
    · subst h; exact (Tin_set hlt').2 (.inl (hT k hk))
  · by_cases hd : o.dst = some t
    · have h1 := hv t hd
      rw [h1.2] at hu; cases hu
      exact ⟨y, pg1 t hd (by rw [I.tsz]; exact h1.1), hvy⟩
    · obtain ⟨z, hz, hzv⟩ := I.F t u (fun j oj hj hSj hTj => by
        by_cases e : i = j
        · subst e; rw [ho] at hj; cases hj; exact hd
        · exact hf j oj hj hSj (fun h => by
            rcases (Tin_set hlt').1 h with h | h
            · exact hTj h
            · exact e h)) hu
      exact ⟨z, by rw [pg2 t hd]; exact hz, hzv.mono0 hle⟩
  · have hTk' : ¬ Tin listed k := fun h => hTk ((Tin_set hlt').2 (.inl h))
    have hki : k ≠ i := fun e => hTk ((Tin_set hlt').2 (.inr e.symm))
    obtain ⟨u, q1, q2, q3⟩ := I.pend k ok hk hS' hTk'
    refine ⟨u, q1, q2, ?_⟩
    rcases q3 with q3 | q3 | ⟨q3, t, ti, nb, q4, q5, q6, q7, q8, q9, q10, q11⟩ | ⟨q3, t, x1, x2, e, zr, vf, nb, q4, q5, q6, q7, q8, q9, q10, q11⟩
    · exact .inl q3
    · exact .inr (.inl q3)
    · exact .inr (.inr (.inl ⟨q3, t, ti, nb, q4, q5, q6, q7, by rw [hn]; exact q8, hok _ q11 hki q9, q10, q11⟩))
    · exact .inr (.inr (.inr ⟨q3, t, x1, x2, e, zr, vf, nb, q4, q5, q6, q7, by rw [hn]; exact q8, hok _ q11 hki q9, q10, q11⟩))
end
end Go.Mx

namespace Go.Mx
theorem cnt_set : ∀ (l : List Bool) (i : Nat), l[i]? = some false → (l.set i true).countP (fun b => !b) + 1 = l.countP (fun b => !b)
  | [], i, h => by simp at h
  | b :: l, 0, h => by simp at h; subst h; simp
  | b :: l, i + 1, h => by
    have := cnt_set l i (by simpa using h)
    simp only [List.set_cons_succ, List.countP_cons]
    omega
def cntB (listed : Array Bool) : Nat := listed.toList.countP fun b => !b
theorem cntB_set {listed : Array Bool} {i : Nat} (h : listed.getD i true = false) : cntB (listed.setIfInBounds i true) + 1 = cntB listed := by
  unfold cntB
  rw [Array.toList_setIfInBounds]
  refine cnt_set _ _ ?_
  have hlt : i < listed.size := by
    rcases Nat.lt_or_ge i listed.size with h' | h'
    · exact h'
    · simp [Array.getElem?_eq_none h'] at h
  simp [hlt] at h ⊢
  exact h
theorem cntB_zero {listed : Array Bool} (h : cntB listed = 0) (i : Nat) : listed.getD i true = true := by
  unfold cntB at h
  rw [List.countP_eq_zero] at h
  by_cases hlt : i < listed.size
  · have := h listed[i] (by simp)
    simp [hlt]; simpa using this
  · simp [Array.getElem?_eq_none (Nat.le_of_not_lt hlt)]
theorem look_filter {α : Type} (p : Nat → Bool) : ∀ (l : List (Nat × α)) (t : Nat) (v : α), look (l.filter fun q => p q.1) t = some v → look l t = some v ∧ p t = true
  | [], t, v, h => by simp [look] at h
  | (k, u) :: l, t, v, h => by
    simp only [List.filter_cons] at h
    by_cases e : k = t
    · subst e
      split at h
      · rename_i hp
        simp only [look, beq_self_eq_true, if_true] at h ⊢
        exact ⟨h, hp⟩
      · rename_i hp
        exact absurd (look_filter p l k v h).2 hp
    · have hk : (k == t) = false := by simpa using e
      split at h
      · simp only [look, hk, Bool.false_eq_true, if_false] at h ⊢
        exact look_filter p l t v h
      · simp only [look, hk, Bool.false_eq_true, if_false]
        exact look_filter p l t v h
theorem readyA_spec {bs : List Nat} {S i : Nat} : readyA bs S i = true ↔ S.testBit i = false ∧ ∀ j, (bs.getD i 0).testBit j = true → S.testBit j = true := by
  unfold readyA
  rw [Bool.and_eq_true, Bool.not_eq_true', beq_iff_eq]
  refine and_congr_right fun _ => ⟨fun h j hj => ?_, fun h => ?_⟩
  · have : ((bs.getD i 0) &&& S).testBit j = true := by rw [h]; exact hj
    rw [Nat.testBit_and, Bool.and_eq_true] at this
    exact this.2
  · apply Nat.eq_of_testBit_eq
    intro j
    rw [Nat.testBit_and]
    cases hj : (bs.getD i 0).testBit j with
    | false => rfl
    | true => rw [h j hj]; rfl
section
variable {P : Program} {tb : Nat → Option TI} {B : Base} {ops : Array Oper} {bs : List Nat} {sz : Nat} {ro rr : Option Nat} {M0 : Mod} {S : Nat} {lds : List Ld} {als : List Al} {s : St} {listed : Array Bool} {a : Act} {w : World} {M : Mod}
theorem DI.evSz (I : DI tb B ops bs sz ro rr M0 S lds als s listed a w M) {i : Nat} (hi : ∀ j, (bs.getD i 0).testBit j = true → Tin listed j) : ∀ d v, evR s.fr (badOf ops.toList.zipIdx bs i) (.tmp d) = some v → d < a.tmps.size := by
  intro t v hx
  simp only [evR] at hx
  split at hx <;> first | (cases hx; done) | skip
  rename_i hbad
  obtain ⟨y, hy, hv⟩ := I.F t v (fun j o ho hS hT hd => by
    obtain ⟨v', hp⟩ := I.pend j o ho hS hT
    refine hbad (mem_bad ho hd ?_ (.inl hp.1))
    apply Bool.eq_false_iff.2
    intro hb
    exact hT (hi j hb)) hx
  exact (Array.getElem?_eq_some_iff.1 hy).1
theorem DI.readyT (I : DI tb B ops (befs [] ops.toList) sz ro rr M0 S lds als s listed a w M) {i : Nat} (hr : i ∈ Region.ready .any ops listed) : ∃ o, ops[i]? = some o ∧ listed.getD i true = false ∧ ¬ Tin listed i ∧ ∀ j, ((befs [] ops.toList).getD i 0).testBit j = true → Tin listed j := by
  obtain ⟨h0, o, ho, hall⟩ := mem_ready.1 hr
  refine ⟨o, ho, h0, fun h => ?_, fun j hj => ?_⟩
  · unfold Tin at h
    by_cases hlt : i < listed.size
    · simp [hlt] at h h0; rw [h0] at h; cases h
    · simp [Array.getElem?_eq_none (Nat.le_of_not_lt hlt)] at h
  · obtain ⟨e, he, hb, h⟩ := befs_edge (os := ops.toList) (by simpa using ho) hj
    have h1 : Tin listed e.on := hall e he hb
    rcases h with h | h
    · rw [← h]; exact h1
    · exact I.tcl _ _ h1 h
theorem run_newS (hT : TbOk P tb) {ev : Operand → Option V} (hev : ∀ x v, ev x = some v → VRel M v (a.eval x)) {t e : Nat} {x y : Operand} {zero : List V} {vf : Nat → V} (hn : newS tb ev t x y = some (e, zero, vf)) (w : World) :
    ∃ (cs : Array Value) (z : Value), (Instr.makeSlice t (a.eval x) (a.eval y)).run P w = .ok z (w.alloc (.cells cs e)) ∧ VRels M zero cs.toList ∧ ∀ (M1 : Mod) (nb : Nat), VRel (M1.bind nb w.heap.size zero.length cs.size) (vf nb) z := by
  unfold newS at hn
  split at hn <;> first | (cases hn; done) | skip
  rename_i ti n c ht hx hy
  have us := (hT.is ht).runUnd w
  split at hn <;> first | (cases hn; done) | skip
  rename_i e' hd
  rw [hd] at us
  split at hn <;> first | (cases hn; done) | skip
  rename_i te he
  split at hn <;> first | (cases hn; done) | skip
  rename_i hc
  cases hn
  have hX := hev _ _ hx
  have hY := hev _ _ hy
  simp only [VRel] at hX hY
  rw [hX, hY]
  obtain ⟨Z, hz, hzv⟩ := (hT.is he).zero
  have hZ := (hzv M).cells
  have hZl : Z.cells.size = te.size := by have := hZ.length; simp at this; rw [← this]; exact hc.2.2.2.2
  have hrep := rel_rep (M := M) hZ c.toNat
  rw [hZl] at hrep
  obtain ⟨i, z0, ri, hi1, hi2, _⟩ := (hT.is he).runInfo
  have hlen : (rep c.toNat te.zero).length = c.toNat * te.size := by rw [rep_length, hc.2.2.2.2]
  refine ⟨_, .slice (some ⟨w.heap.size, 0, none⟩) n.toNat c.toNat, ?_, hrep, fun M1 nb => ?_⟩
  · have w1 := wrap_i64 hc.1 (by omega)
    have w2 := wrap_i64 (n := c) (by omega) hc.2.2.1
    have k1 : ¬ (c < 0) := by omega
    have k2 : ¬ ((te.bytes : Int) * c > 2 ^ 48) := by have := hc.2.2.2.1; omega
    have k3 : ¬ (n < 0) := by omega
    have k4 : ¬ (n > c) := by omega
    simp only [Instr.makeSlice, Sem.run_bind, us, Result.andThen_ok, asInt, asIntOf, Sem.run_pure, ri, hi2, w1, w2, k1, k2, k3, k4, decide_false, Bool.or_false, Bool.false_eq_true, if_false, run_askRoom, (hT.is he).size w]
    have e0 : ∀ f : Nat → Value, Array.map f (Array.range 0) = #[] := fun f => by simp
    by_cases h0 : c.toNat * te.size = 0
    · simp only [h0, if_true, e0]
      simp [newRow]
    · simp only [h0, if_false, Sem.run_bind, hz, Result.andThen_ok, Sem.run_pure, hZl]
      simp [newRow]
  · exact M1.bind_sl nb w.heap.size _ _ n.toNat c.toNat te.size (by omega) (by omega) (by simp; omega)
theorem DI.pendStep (hT : TbOk P tb) (I : DI tb B ops bs sz ro rr M0 S lds als s listed a w M) {o : Oper} {i n : Nat} (ho : ops[i]? = some o) (hS : S.testBit i = true) (hnT : ¬ Tin listed i) (hb : ∀ j, (bs.getD i 0).testBit j = true → Tin listed j)
    {K : Act → World → Prop} {Q : Exit → Act → World → Prop} (hK : ∀ a' w' M', DI tb B ops bs sz ro rr M0 S lds als s (listed.setIfInBounds i true) a' w' M' → K a' w') : wpOpIn (Fw rr) n P ops Q i K a w := by
  obtain ⟨v, q1, q2, q3⟩ := I.pend i o ho hS hnT
  have hev := I.evRel hb
  have hsz := I.evSz hb
  have hnd : ∀ c, o.op ≠ .defer c := fun c e => by rw [e] at q1; simp [clsA] at q1
  simp only [wpOpIn, ho]
  rcases q3 with ⟨q3, rfl⟩ | ⟨q3, q4, q5, q6⟩ | ⟨q3, t, ti, nb, q4, q5, rfl, q7, q8, q9, q10, q11⟩ | ⟨q3, t, x1, x2, e, zr, vf, nb, q4, q5, rfl, q7, q8, q9, q10, q11⟩
  · rw [wantedR_rel hev q3 hsz]
    simp only [Bool.false_eq_true, if_false]
    exact ⟨fun f _ => Fw_fn rr f, hK _ _ _ (I.late ho hS hb q2 (Mod.le0.refl M) rfl I.le I.H (undef_rel M) fun _ _ _ h => h)⟩
  · rw [wantedR_rel hev q3 hsz]
    simp only [if_true]
    refine ⟨fun f _ => Fw_fn rr f, ?_⟩
    obtain ⟨z, hz, hv⟩ := run_readA hT I.H hev q5
    rw [Oper.semAt_eq _ _ _ hnd, hz]
    exact hK _ _ _ (I.late ho hS hb q2 (Mod.le0.refl M) rfl I.le I.H hv fun _ _ _ h => h)
  · rw [wantedR_rel hev q3 hsz]
    simp only [if_true]
    refine ⟨fun f _ => Fw_fn rr f, ?_⟩
    obtain ⟨z, hz, hzv⟩ := (hT.is q5).zero
    have hrun : (execOp a.eval o).run P w = .ok (.value (.pointer (some ⟨w.heap.size, 0, none⟩))) (w.alloc (.cells z.cells t)) := by
      unfold execOp; rw [q4]
      simp [Instr.alloc, hz, newVar, newRow]
    rw [Oper.semAt_eq _ _ _ hnd, hrun]
    have hle := Mod.le0_bind q9 w.heap.size ti.zero.length z.cells.size
    have H' := I.H.bind q9 q10 (hzv M).cells
    refine hK _ _ _ (I.late ho hS hb q2 hle rfl ⟨I.le.toLe0.trans hle, I.le.n, fun b hb hk => ?_⟩ H' (by simp [VRel, Mod.bind]) fun x hx hne h hk => ?_)
    · rcases hk with hk | hk
      · omega
      · exact I.le.old b hb hk
    · rcases hk with hk | hk
      · have := I.alsD x hx _ q11 hk
        exact hne (by rw [this])
      · exact h hk
  · rw [wantedR_rel hev q3 hsz]
    simp only [if_true]
    refine ⟨fun f _ => Fw_fn rr f, ?_⟩
    obtain ⟨cs, z, hrun, hcs, hv⟩ := run_newS hT hev q5 w
    have hrun' : (execOp a.eval o).run P w = .ok (.value z) (w.alloc (.cells cs e)) := by
      unfold execOp; rw [q4]
      simp [hrun]
    rw [Oper.semAt_eq _ _ _ hnd, hrun']
    have hle := Mod.le0_bind q9 w.heap.size zr.length cs.size
    have H' := I.H.bind q9 q10 hcs
    refine hK _ _ _ (I.late ho hS hb q2 hle rfl ⟨I.le.toLe0.trans hle, I.le.n, fun b hb hk => ?_⟩ H' (hv M nb) fun x hx hne h hk => ?_)
    · rcases hk with hk | hk
      · omega
      · exact I.le.old b hb hk
    · rcases hk with hk | hk
      · have := I.alsD x hx _ q11 hk
        exact hne (by rw [this])
      · exact h hk
end
end Go.Mx

namespace Go.Mx
theorem ldsOk_spec {tb : Nat → Option TI} {fr : List (Nat × V)} {h : Hp} {b : Nat} {lds : List Ld} (hk : ldsOk tb fr h b lds = true) : ∀ x ∈ lds, b.testBit x.i = false → readA tb (evR fr x.bad) x.o h = some x.v := by
  intro x hx hb
  simp only [ldsOk, List.all_eq_true] at hk
  have := hk x hx
  rw [hb, Bool.false_or] at this
  split at this
  · rename_i v hv
    rw [hv, veq_of this]
  · cases this
theorem alsOk_spec {h : Hp} {b : Nat} {als : List Al} (hk : alsOk h b als = true) : ∀ x ∈ als, b.testBit x.i = false → h.get x.nb = some (.blk (2 * x.t) x.zero true) := by
  intro x hx hb
  simp only [alsOk, List.all_eq_true] at hk
  have := hk x hx
  rw [hb, Bool.false_or] at this
  split at this
  · rename_i t cells hv
    simp only [Bool.and_eq_true, beq_iff_eq] at this
    rw [hv, this.1, veqs_of this.2]
  · cases this
section
variable {P : Program} {tb : Nat → Option TI} {B : Base} {call : Caller} {ops : Array Oper} {sz : Nat} {ro rr : Option Nat} {M0 : Mod} {Q : Exit → Act → World → Prop} {n : Nat}
theorem DI.frel {bs : List Nat} {S : Nat} {lds : List Ld} {als : List Al} {s : St} {listed : Array Bool} {a : Act} {w : World} {M : Mod} (I : DI tb B ops bs sz ro rr M0 S lds als s listed a w M) (h : ∀ i, i < ops.size → Tin listed i) : FRel M sz s.fr a.tmps :=
  ⟨I.tsz, fun t v hl => I.F t v (fun j o ho hS hT => absurd (h j (I.slt j hS)) hT) hl⟩
theorem finish (hT : TbOk P tb) (hd : downOk ops.toList.zipIdx = true) {S : Nat} {lds : List Ld} {als : List Al} {s : St} (hfull : ∀ i, i < ops.size → S.testBit i = true) (hQ : ∀ e a w, Post B M0 sz (.normal, s) e a w → Q e a w) :
    ∀ (rf : Nat) (listed : Array Bool) (a : Act) (w : World) (M : Mod), DI tb B ops (befs [] ops.toList) sz ro rr M0 S lds als s listed a w M → cntB listed ≤ rf → wpAnyIn (Fw rr) n P .any ops Q rf listed a w := by
  have fin : ∀ (listed : Array Bool) (a : Act) (w : World) (M : Mod), DI tb B ops (befs [] ops.toList) sz ro rr M0 S lds als s listed a w M → Region.ready .any ops listed = [] → Q .normal a w := fun listed a w M I hr =>
    hQ _ _ _ ⟨M, I.le, I.H, I.frel (all_of_ready hd hr I.lsz), I.D, rfl⟩
  intro rf
  induction rf with
  | zero =>
    intro listed a w M I hc
    have hr : Region.ready .any ops listed = [] := by
      apply List.eq_nil_iff_forall_not_mem.2
      intro j hj
      obtain ⟨h0, _⟩ := mem_ready.1 hj
      have := cntB_zero (Nat.le_zero.1 hc) j
      rw [h0] at this; cases this
    exact ⟨hr, fin _ _ _ _ I hr⟩
  | succ rf ih =>
    intro listed a w M I hc
    refine ⟨fin _ _ _ _ I, fun j hj => ?_⟩
    obtain ⟨o, ho, h0, hnT, hb⟩ := I.readyT hj
    refine I.pendStep hT ho (hfull j (Array.getElem?_eq_some_iff.1 ho).1) hnT hb fun a' w' M' I' => ih _ _ _ _ I' ?_
    have := cntB_set h0
    omega
set_option maxHeartbeats 1000000 in
theorem drawGo_sound (hT : TbOk P tb) (hC : CallOk P B call) (hd : downOk ops.toList.zipIdx = true) {dsts : List Nat} (hds : ∀ (j : Nat) (o : Oper) (d : Nat), ops[j]? = some o → o.dst = some d → dsts.contains d = true)
    (hdist : ∀ (i j : Nat) (oi oj : Oper) (d : Nat), ops[i]? = some oi → ops[j]? = some oj → oi.dst = some d → oj.dst = some d → i = j) :
    ∀ (fuel S : Nat) (lds : List Ld) (als : List Al) (s : St) (r : Ex × St), drawGo tb call ro sz ops.toList.zipIdx (befs [] ops.toList) dsts fuel S lds als s = some r → (∀ e a w, Post B M0 sz r e a w → Q e a w) →
    ∀ (rf : Nat) (listed : Array Bool) (a : Act) (w : World) (M : Mod), DI tb B ops (befs [] ops.toList) sz ro rr M0 S lds als s listed a w M → cntB listed ≤ rf → wpAnyIn (Fw rr) n P .any ops Q rf listed a w := by
  intro fuel
  induction fuel with
  | zero => intro S lds als s r h; simp [drawGo] at h
  | succ fuel ih =>
    intro S lds als s r h hQ rf listed a w M I hc
    simp only [drawGo] at h
    split at h
    ·
      rename_i o i hfind
      have hmem := List.mem_of_find?_eq_some hfind
      have hcond := List.find?_some hfind
      simp only [Bool.and_eq_true, decide_eq_true_eq] at hcond
      have ho : ops[i]? = some o := by rw [List.mk_mem_zipIdx_iff_getElem?] at hmem; simpa using hmem
      obtain ⟨hnS, hb⟩ := readyA_spec.1 hcond.2
      split at h <;> first | (cases h; done) | skip
      · rename_i hw
        split at h <;> first | (cases h; done) | skip
        rename_i fr hfr
        refine ih _ _ _ _ _ h hQ _ _ _ _ _ (I.ahead ho hcond.1 hnS hb hdist hfr I.H (Mod.le.refl M) (fun _ hx => hx) (fun _ hx => hx) I.alsN I.alsD (fun _ _ hx => hx) (fun _ _ => rfl) ⟨hcond.1, (look_putF hfr).1, .inl ⟨?_, rfl⟩⟩) hc
        rw [evR_putF hfr fun d hd => mem_bad ho hd (by
          apply Bool.eq_false_iff.2
          intro e
          have := hb i e
          rw [hnS] at this; cases this) (.inl hcond.1)]
        exact hw
      · rename_i hw
        have hself : ((befs [] ops.toList).getD i 0).testBit i = false := by
          apply Bool.eq_false_iff.2
          intro e
          have := hb i e
          rw [hnS] at this; cases this
        split at h
        · rename_i t hop
          split at h <;> first | (cases h; done) | skip
          rename_i ti fr ht hfr
          split at h <;> first | (cases h; done) | skip
          rename_i hld
          have hev := evR_putF (bad := badOf ops.toList.zipIdx (befs [] ops.toList) i) hfr fun d hd => mem_bad ho hd hself (.inl hcond.1)
          have hne : ∀ x ∈ als, x.nb ≠ s.h.n := fun x hx => by have := I.alsN x hx; have := I.H.n; omega
          refine ih _ _ _ _ _ h hQ _ _ _ _ _ (I.ahead ho hcond.1 hnS hb hdist hfr (I.H.reserve _) (Mod.le_reserve M) (fun _ hx => hx) (fun _ hx => List.mem_cons_of_mem _ hx) ?_ ?_ (fun x hx _ => ldsOk_spec hld x hx (by simp)) (fun x hx => Hp.get_push_ne _ _ (hne x hx)) ⟨hcond.1, (look_putF hfr).1, .inr (.inr (.inl ⟨?_, t, ti, s.h.n, hop, ht, rfl, ?_, ?_, ?_, by simp, by simp⟩))⟩) hc
          · intro x hx
            rcases List.mem_cons.1 hx with rfl | hx
            · simp [Mod.reserve, I.H.n]
            · have := I.alsN x hx; simp [Mod.reserve]; omega
          · intro x hx y hy e
            rcases List.mem_cons.1 hx with rfl | hx <;> rcases List.mem_cons.1 hy with rfl | hy
            · rfl
            · exact absurd e.symm (hne y hy)
            · exact absurd e (hne x hx)
            · exact I.alsD x hx y hy e
          · rw [hev]; exact hw
          · have := I.le.n; have := I.H.n; omega
          · simp [Mod.reserve, I.H.n]
          · intro hk
            have := I.H.okn _ hk
            omega
        · rename_i t x1 x2 hop
          split at h <;> first | (cases h; done) | skip
          rename_i e zr vf hns
          split at h <;> first | (cases h; done) | skip
          rename_i fr hfr
          split at h <;> first | (cases h; done) | skip
          rename_i hld
          have hev := evR_putF (bad := badOf ops.toList.zipIdx (befs [] ops.toList) i) hfr fun d hd => mem_bad ho hd hself (.inl hcond.1)
          have hne : ∀ x ∈ als, x.nb ≠ s.h.n := fun x hx => by have := I.alsN x hx; have := I.H.n; omega
          refine ih _ _ _ _ _ h hQ _ _ _ _ _ (I.ahead ho hcond.1 hnS hb hdist hfr (I.H.reserve _) (Mod.le_reserve M) (fun _ hx => hx) (fun _ hx => List.mem_cons_of_mem _ hx) ?_ ?_ (fun x hx _ => ldsOk_spec hld x hx (by simp)) (fun x hx => Hp.get_push_ne _ _ (hne x hx)) ⟨hcond.1, (look_putF hfr).1, .inr (.inr (.inr ⟨?_, t, x1, x2, e, zr, vf, s.h.n, hop, ?_, rfl, ?_, ?_, ?_, by simp, by simp⟩))⟩) hc
          · intro x hx
            rcases List.mem_cons.1 hx with rfl | hx
            · simp [Mod.reserve, I.H.n]
            · have := I.alsN x hx; simp [Mod.reserve]; omega
          · intro x hx y hy e
            rcases List.mem_cons.1 hx with rfl | hx <;> rcases List.mem_cons.1 hy with rfl | hy
            · rfl
            · exact absurd e.symm (hne y hy)
            · exact absurd e (hne x hx)
            · exact I.alsD x hx y hy e
          · rw [hev]; exact hw
          · rw [hev]; exact hns
          · have := I.le.n; have := I.H.n; omega
          · simp [Mod.reserve, I.H.n]
          · intro hk
            have := I.H.okn _ hk
            omega
        · rename_i hnal hnal2
          split at h <;> first | (cases h; done) | skip
          rename_i v hrd
          split at h <;> first | (cases h; done) | skip
          rename_i fr hfr
          have hev := evR_putF (bad := badOf ops.toList.zipIdx (befs [] ops.toList) i) hfr fun d hd => mem_bad ho hd hself (.inl hcond.1)
          refine ih _ _ _ _ _ h hQ _ _ _ _ _ (I.ahead ho hcond.1 hnS hb hdist hfr I.H (Mod.le.refl M) (fun x hx => ?_) (fun _ hx => hx) I.alsN I.alsD (fun _ _ hx => hx) (fun _ _ => rfl) ⟨hcond.1, (look_putF hfr).1, .inr (.inl ⟨?_, ?_, ?_, fun h1 => ?_⟩)⟩) hc
          · split
            · exact List.mem_cons_of_mem _ hx
            · exact hx
          · rw [hev]; exact hw
          · intro e2
            cases hop : o.op <;> rw [hop] at e2 <;> first | exact hnal _ hop | exact hnal2 _ _ _ hop | (simp [clsA] at e2) | skip
            all_goals (rename_i c; rcases c with ⟨cl, _, _⟩; rcases cl with _ | _ | b <;> first | (cases e2; done) | (cases b <;> cases e2))
          · rw [hev]; exact hrd
          · rw [if_pos h1]; exact List.mem_cons_self
    · rename_i hnone
      split at h
      ·
        rename_i hflt
        split at h <;> first | (cases h; done) | skip
        rename_i hS
        cases h
        have hS' : S = 2 ^ ops.size - 1 := by simpa using hS
        refine finish hT hd (fun i hi => ?_) hQ rf listed a w M I hc
        rw [hS', Nat.testBit_two_pow_sub_one]
        simpa using hi
      ·
        rename_i o i hflt
        have hmem : (o, i) ∈ ops.toList.zipIdx.filter (fun p => readyA (befs [] ops.toList) S p.2) := by rw [hflt]; simp
        rw [List.mem_filter] at hmem
        obtain ⟨hmem, hready⟩ := hmem
        have ho : ops[i]? = some o := by rw [List.mk_mem_zipIdx_iff_getElem?] at hmem; simpa using hmem
        obtain ⟨hnS, hb⟩ := readyA_spec.1 hready
        have hlt : i < ops.size := (Array.getElem?_eq_some_iff.1 ho).1
        have hno : Tin listed i → False := fun ht => by have := I.sub i ht; rw [hnS] at this; cases this
        clear hnone
        induction rf generalizing listed a w M with
        | zero =>
          have h1 := cntB_zero (Nat.le_zero.1 hc) i
          refine (hno ?_).elim
          have hlt' : i < listed.size := by rw [I.lsz]; exact hlt
          unfold Tin
          simp [hlt'] at h1 ⊢
          exact h1
        | succ rf ihr =>
          refine ⟨fun hr => (hno (all_of_ready hd hr I.lsz i hlt)).elim, fun j hj => ?_⟩
          obtain ⟨oj, hoj, h0, hnT, hbj⟩ := I.readyT hj
          have hcn := cntB_set h0
          by_cases hSj : S.testBit j = true
          · exact I.pendStep hT hoj hSj hnT hbj fun a' w' M' I' => ihr _ _ _ _ I' (by omega) fun ht => by have := I'.sub i ht; rw [hnS] at this; cases this
          · have hmj : (oj, j) ∈ ops.toList.zipIdx.filter (fun p => readyA (befs [] ops.toList) S p.2) := by
              rw [List.mem_filter]
              exact ⟨by rw [List.mk_mem_zipIdx_iff_getElem?]; simpa using hoj, readyA_spec.2 ⟨Bool.eq_false_iff.2 hSj, fun k hk => I.sub k (hbj k hk)⟩⟩
            rw [hflt] at hmj
            simp only [List.mem_singleton, Prod.mk.injEq] at hmj
            obtain ⟨rfl, rfl⟩ := hmj
            have hev := I.evRel hbj
            have hsz := I.evSz hbj
            simp only [wpOpIn, ho]
            split at h <;> first | (cases h; done) | skip
            · rename_i hw
              split at h <;> first | (cases h; done) | skip
              rename_i fr hfr
              rw [wantedR_rel hev hw hsz]
              simp only [Bool.false_eq_true, if_false]
              exact ⟨fun f _ => Fw_fn rr f, ih _ _ _ _ _ h hQ _ _ _ _ _ (I.sync ho hnS hbj hdist hfr (Mod.le.refl M) I.H (by rw [Act.put_defers']; exact I.D) rfl (undef_rel M) (fun _ _ _ hx => hx) (fun _ _ _ hx => hx)) (by omega)⟩
            · rename_i hw
              rw [wantedR_rel hev hw hsz]
              simp only [if_true]
              split at h <;> first | (cases h; done) | skip
              · rename_i v h' hst
                cases h
                refine stepOp_sound hT hC hst I.H I.ro hev ?_
                intro M' w' y hle H' hv
                refine hQ _ _ _ ⟨M', I.le.trans hle, H', ⟨I.tsz, fun t u hu => ?_⟩, I.D.mono hle, y, rfl, hv⟩
                obtain ⟨hu1, hu2⟩ := look_filter (fun k => !dsts.contains k) _ _ _ hu
                obtain ⟨y2, hy2, hv2⟩ := I.F t u (fun k ok hk _ _ hdk => by
                  rw [hds k ok t hk hdk] at hu2; cases hu2) hu1
                exact ⟨y2, hy2, hv2.mono hle⟩
              · rename_i d h' hst
                split at h <;> first | (cases h; done) | skip
                rename_i fr hfr
                split at h <;> first | (cases h; done) | skip
                rename_i hchk
                rw [Bool.and_eq_true] at hchk
                refine stepOp_sound hT hC hst I.H I.ro hev ?_
                intro M' w' d' hle H' hv
                exact ih _ _ _ _ _ h hQ _ _ _ _ _ (I.sync (a' := { a with defers := d' :: a.defers }.put oj.dst undef) ho hnS hbj hdist hfr hle H' (by rw [Act.put_defers']; exact ⟨hv, I.D.mono hle⟩) (by cases oj.dst <;> rfl) (undef_rel M') (fun x hx hb _ => ldsOk_spec hchk.1 x hx hb) (fun x hx hb _ => alsOk_spec hchk.2 x hx hb)) (by omega)
              · rename_i v h' hst
                split at h <;> first | (cases h; done) | skip
                rename_i fr hfr
                split at h <;> first | (cases h; done) | skip
                rename_i hchk
                rw [Bool.and_eq_true] at hchk
                refine stepOp_sound hT hC hst I.H I.ro hev ?_
                intro M' w' z hle H' hv
                exact ih _ _ _ _ _ h hQ _ _ _ _ _ (I.sync ho hnS hbj hdist hfr hle H' (by rw [Act.put_defers']; exact I.D.mono hle) rfl hv (fun x hx hb _ => ldsOk_spec hchk.1 x hx hb) (fun x hx hb _ => alsOk_spec hchk.2 x hx hb)) (by omega)
      · cases h
theorem drawA_sound (hm : P.follows .mixedOrders = true) (hT : TbOk P tb) (hC : CallOk P B call) {id : Nat} {s : St} {r : Ex × St} (hr : drawA tb call ro sz ops s = some r) {M : Mod} {a : Act} {w : World} (H : HRel M B s.h w) (hro : RoOk M ro rr) (hF : FRel M sz s.fr a.tmps) (hD : DRels M s.ds a.defers) :
    (Code.region id ops true).wpIn (Fw rr) n P (Post B M sz r) a w := by
  unfold drawA at hr
  dsimp only at hr
  split at hr <;> first | (cases hr; done) | skip
  rename_i hchk
  rw [Bool.and_eq_true] at hchk
  have hfm : ∀ (l : List Oper) (k : Nat), (l.zipIdx k).filterMap (fun p => p.1.dst) = l.filterMap Oper.dst := by
    intro l
    induction l with
    | nil => intro k; rfl
    | cons o l ih => intro k; simp only [List.zipIdx_cons, List.filterMap_cons, ih]
  refine wpIn_region_any hm ?_
  refine drawGo_sound hT hC hchk.2 (fun j o d ho hd => ?_) (fun i j oi oj d hi hj hdi hdj => ?_) _ _ _ _ _ _ hr (fun _ _ _ h => h) ops.size _ a _ M ?_ ?_
  · rw [List.contains_iff_mem, hfm]
    exact List.mem_filterMap.2 ⟨o, List.mem_of_getElem? (by rw [Array.getElem?_toList]; exact ho), hd⟩
  · have h1 := hchk.1
    rw [hfm] at h1
    exact distinct_get Oper.dst _ h1 i j oi oj d (by rw [Array.getElem?_toList]; exact hi) (by rw [Array.getElem?_toList]; exact hj) hdi hdj
  · refine ⟨Mod.le.refl M, H.drawn _, hro, hD, hF.1, by simp, fun i hi => ?_, fun i hi => by simp at hi, fun i j hi => by simp at hi, fun i j hi => ?_, fun t v _ hl => hF.2 t v hl, fun i o _ hi => by simp at hi, fun x hx => by simp at hx, fun x hx => by simp at hx⟩
    · unfold Tin at hi
      by_cases hlt : i < ops.size <;> simp [hlt] at hi
    · unfold Tin at hi
      by_cases hlt : i < ops.size <;> simp [hlt] at hi
  · unfold cntB
    have := List.countP_le_length (p := fun b => !b) (l := (Array.replicate ops.size false).toList)
    simpa using this
end
end Go.Mx
