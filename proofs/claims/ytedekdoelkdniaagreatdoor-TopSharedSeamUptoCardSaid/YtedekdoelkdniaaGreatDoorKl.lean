/- A verified executor: templates, loops, calls; hints out of numbers. -/
import Derived.Test.YtedekdoelkdniaaGreatDoorKk
set_option linter.all false
namespace Go.Mx.Az
structure Sb (n0 : Nat) (l : List Bd) (e' e2 : Env) : Prop where
  one : e'.i 0 = 1
  old : Agr n0 e' e2
  new : ∀ (k : Nat) bd, l[k]? = some bd → e2.i (n0 + k) = bd.i.den e'.i ∧ e2.b (n0 + k) = e'.b bd.b ∧ e2.o (n0 + k) = e'.o bd.b ∧ e2.c (n0 + k) = e'.c bd.c ∧ e2.v (n0 + k) = e'.v bd.v ∧ e2.s (n0 + k) = e'.s bd.s
def sbP (n0 : Nat) (l : List Bd) : Poly → Option Poly
  | [] => some []
  | (v, c) :: r => match sbP n0 l r with
    | none => none
    | some p => bif Nat.blt v n0 then some (ins v c p) else match l[v - n0]? with
      | some bd => some (addP (smul c bd.i) p)
      | none => none
theorem Sb.at {n0 : Nat} {l : List Bd} {e' e2 : Env} (H : Sb n0 l e' e2) {v : Nat} (hv : Nat.blt v n0 = false) {bd : Bd} (h : l[v - n0]? = some bd) : e2.i v = bd.i.den e'.i ∧ e2.b v = e'.b bd.b ∧ e2.o v = e'.o bd.b ∧ e2.c v = e'.c bd.c ∧ e2.v v = e'.v bd.v ∧ e2.s v = e'.s bd.s := by
  have h1 : ¬ v < n0 := fun h => by rw [show Nat.blt v n0 = true from Nat.ble_eq_true_of_le h] at hv; cases hv
  have := H.new (v - n0) bd h
  have e1 : n0 + (v - n0) = v := by omega
  rw [e1] at this; exact this
theorem sbP_ok {n0 : Nat} {l : List Bd} {e' e2 : Env} (H : Sb n0 l e' e2) : ∀ {p q : Poly}, sbP n0 l p = some q → q.den e'.i = p.den e2.i
  | [], q, h => by simp [sbP] at h; subst h; rfl
  | (v, c) :: r, q, h => by
    unfold sbP at h
    split at h <;> first | (cases h; done) | skip
    rename_i p hp
    have ih := sbP_ok H hp
    cases hv : Nat.blt v n0 <;> rw [hv] at h <;> simp only [cond_true, cond_false] at h
    · split at h <;> first | (cases h; done) | skip
      rename_i bd hbd
      cases h
      rw [den_add, den_smul, ih]
      simp only [Poly.den]; rw [(H.at hv hbd).1]
    · cases h
      rw [den_ins, ih]; simp only [Poly.den]; rw [H.old.i v (Nat.le_of_ble_eq_true hv)]
def sbB (n0 : Nat) (l : List Bd) (b : Nat) : Option Nat := bif Nat.blt b n0 then some b else (l[b - n0]?).map (·.b)
theorem sbB_ok {n0 : Nat} {l : List Bd} {e' e2 : Env} (H : Sb n0 l e' e2) {b b' : Nat} (h : sbB n0 l b = some b') : e2.b b = e'.b b' ∧ e2.o b = e'.o b' := by
  unfold sbB at h
  cases hv : Nat.blt b n0 <;> rw [hv] at h <;> simp only [cond_true, cond_false] at h
  · obtain ⟨bd, h1, rfl⟩ := Option.map_eq_some_iff.1 h
    exact ⟨(H.at hv h1).2.1, (H.at hv h1).2.2.1⟩
  · cases h; exact ⟨H.old.b b (Nat.le_of_ble_eq_true hv), H.old.o b (Nat.le_of_ble_eq_true hv)⟩
def sbC (n0 : Nat) (l : List Bd) (b : Nat) : Option Nat := bif Nat.blt b n0 then some b else (l[b - n0]?).map (·.c)
theorem sbC_ok {n0 : Nat} {l : List Bd} {e' e2 : Env} (H : Sb n0 l e' e2) {b b' : Nat} (h : sbC n0 l b = some b') : e2.c b = e'.c b' := by
  unfold sbC at h
  cases hv : Nat.blt b n0 <;> rw [hv] at h <;> simp only [cond_true, cond_false] at h
  · obtain ⟨bd, h1, rfl⟩ := Option.map_eq_some_iff.1 h
    exact (H.at hv h1).2.2.2.1
  · cases h; exact H.old.c b (Nat.le_of_ble_eq_true hv)
def sbV (n0 : Nat) (l : List Bd) (b : Nat) : Option Nat := bif Nat.blt b n0 then some b else (l[b - n0]?).map (·.v)
theorem sbV_ok {n0 : Nat} {l : List Bd} {e' e2 : Env} (H : Sb n0 l e' e2) {b b' : Nat} (h : sbV n0 l b = some b') : e2.v b = e'.v b' := by
  unfold sbV at h
  cases hv : Nat.blt b n0 <;> rw [hv] at h <;> simp only [cond_true, cond_false] at h
  · obtain ⟨bd, h1, rfl⟩ := Option.map_eq_some_iff.1 h
    exact (H.at hv h1).2.2.2.2.1
  · cases h; exact H.old.v b (Nat.le_of_ble_eq_true hv)
def sbI (n0 : Nat) (l : List Bd) (c : Nat) : Option Poly := bif Nat.blt c n0 then some (varP c) else (l[c - n0]?).map (·.i)
theorem sbI_ok {n0 : Nat} {l : List Bd} {e' e2 : Env} (H : Sb n0 l e' e2) {c : Nat} {p : Poly} (h : sbI n0 l c = some p) : e2.i c = p.den e'.i := by
  unfold sbI at h
  cases hv : Nat.blt c n0 <;> rw [hv] at h <;> simp only [cond_true, cond_false] at h
  · obtain ⟨bd, h1, rfl⟩ := Option.map_eq_some_iff.1 h
    exact (H.at hv h1).1
  · cases h; rw [den_var]; exact H.old.i c (Nat.le_of_ble_eq_true hv)
def sbS (n0 : Nat) (l : List Bd) (b m : Nat) : Bool := bif Nat.blt b n0 then Nat.beq b m else (match l[b - n0]? with
  | some bd => Nat.beq bd.s m && beqP bd.i (varP m)
  | none => false)
theorem sbS_ok {n0 : Nat} {l : List Bd} {e' e2 : Env} (H : Sb n0 l e' e2) {b m : Nat} (h : sbS n0 l b m = true) : e2.s b = e'.s m ∧ e2.i b = e'.i m := by
  unfold sbS at h
  cases hv : Nat.blt b n0 <;> rw [hv] at h <;> simp only [cond_true, cond_false] at h
  · split at h <;> first | (cases h; done) | skip
    rename_i bd hbd
    simp only [Bool.and_eq_true] at h
    obtain ⟨a1, _, _, _, _, a6⟩ := H.at hv hbd
    rw [nb h.1] at a6
    rw [beqP_eq h.2, den_var] at a1
    exact ⟨a6, a1⟩
  · rw [← nb h]; exact ⟨H.old.s b (Nat.le_of_ble_eq_true hv), H.old.i b (Nat.le_of_ble_eq_true hv)⟩
def eqO (a : Option Nat) (b : Nat) : Bool := match a with | some x => Nat.beq x b | none => false
theorem eqO_eq {a : Option Nat} {b : Nat} (h : eqO a b = true) : a = some b := by
  unfold eqO at h; split at h
  · rw [nb h]
  · cases h
def eqPo (a : Option Poly) (b : Poly) : Bool := match a with | some x => beqP x b | none => false
theorem eqPo_eq {a : Option Poly} {b : Poly} (h : eqPo a b = true) : a = some b := by
  unfold eqPo at h; split at h
  · rw [beqP_eq h]
  · cases h
def mtC (n0 : Nat) (l : List Bd) : Cnd → Cnd → Bool
  | .lit a, .lit b => a == b
  | .ge p, .ge q => eqPo (sbP n0 l p) q
  | .eqz p, .eqz q => eqPo (sbP n0 l p) q
  | .nez p, .nez q => eqPo (sbP n0 l p) q
  | .ge p, .lit b => (match sbP n0 l p with
    | some q => (match asC q with
      | some c => isNn c == b
      | none => false)
    | none => false)
  | _, _ => false
theorem mtC_ok {n0 : Nat} {l : List Bd} {e' e2 : Env} (H : Sb n0 l e' e2) {c d : Cnd} (h : mtC n0 l c d = true) : c.den e2.i = d.den e'.i := by
  unfold mtC at h
  split at h <;> first | (cases h; done) | skip
  · simp at h; rw [h]; rfl
  · simp only [Cnd.den, ← sbP_ok H (eqPo_eq h)]
  · simp only [Cnd.den, ← sbP_ok H (eqPo_eq h)]
  · simp only [Cnd.den, ← sbP_ok H (eqPo_eq h)]
  · split at h <;> first | (cases h; done) | skip
    rename_i q hq
    split at h <;> first | (cases h; done) | skip
    rename_i c hc
    simp only [beq_iff_eq] at h
    simp only [Cnd.den, ← sbP_ok H hq, ← h, isNn_iff, asC_den H.one hc]
mutual
def mt (n0 : Nat) (l : List Bd) : AV → AV → Bool
  | .b c, .b d => mtC n0 l c d
  | .i k p, .i k' q => decide (k = k') && eqPo (sbP n0 l p) q
  | .k v, .k w => vbeq v w
  | .x n, .x m => eqO (sbV n0 l n) m
  | .s n, .s m => sbS n0 l n m
  | .p b q, .p b' q' => eqO (sbB n0 l b) b' && eqPo (sbP n0 l q) q'
  | .sl c b o n k z, .sl c' b' o' n' k' z' => eqPo (sbI n0 l c) (varP c') && eqO (sbB n0 l b) b' && eqPo (sbP n0 l o) o' && eqPo (sbP n0 l n) n' && eqO (sbC n0 l k) k' && Nat.beq z z'
  | .sl c _ _ _ _ _, .k v => vbeq v .nils && eqPo (sbI n0 l c) []
  | .es b n, .es b' n' => eqO (sbB n0 l b) b' && eqO (sbV n0 l n) n'
  | .f g a c, .f g' a' c' => decide (g = g') && mts n0 l a a' && mts n0 l c c'
  | .agg x, .agg y => mts n0 l x y
  | .tup x, .tup y => mts n0 l x y
  | .ifc t a, .ifc t' a' => Nat.beq t t' && mt n0 l a a'
  | _, _ => false
def mts (n0 : Nat) (l : List Bd) : List AV → List AV → Bool
  | [], [] => true
  | a :: r, b :: s => mt n0 l a b && mts n0 l r s
  | _, _ => false
end
mutual
theorem mt_ok {n0 : Nat} {l : List Bd} {e' e2 : Env} (H : Sb n0 l e' e2) : ∀ {a b : AV}, mt n0 l a b = true → a.den e2 = b.den e' := by
  intro a b h
  cases a <;> cases b <;> simp only [mt, Bool.and_eq_true, decide_eq_true_eq, Bool.false_eq_true] at h <;> simp only [AV.den]
  · rw [mtC_ok H h]
  · rw [h.1, sbP_ok H (eqPo_eq h.2)]
  · exact veq_of h
  · exact sbV_ok H (eqO_eq h)
  · obtain ⟨h1, h2⟩ := sbS_ok H h; rw [h1, h2]
  · obtain ⟨h1, h2⟩ := sbB_ok H (eqO_eq h.1); rw [h1, h2, sbP_ok H (eqPo_eq h.2)]
  · have h1 := sbI_ok H (eqPo_eq h.2)
    rw [if_pos (by rw [h1]; rfl), veq_of h.1]
  · obtain ⟨⟨⟨⟨⟨g1, g2⟩, g3⟩, g4⟩, g5⟩, g6⟩ := h
    have h1 := sbI_ok H (eqPo_eq g1)
    rw [den_var] at h1
    obtain ⟨h2, h3⟩ := sbB_ok H (eqO_eq g2)
    rw [h1, h2, h3, sbP_ok H (eqPo_eq g3), sbP_ok H (eqPo_eq g4), sbC_ok H (eqO_eq g5), nb g6]
  · obtain ⟨h1, h2⟩ := sbB_ok H (eqO_eq h.1); rw [h1, sbV_ok H (eqO_eq h.2)]
  · rw [h.1.1, mts_ok H h.1.2, mts_ok H h.2]
  · rw [mts_ok H h]
  · rw [mts_ok H h]
  · rw [nb h.1, mt_ok H h.2]
theorem mts_ok {n0 : Nat} {l : List Bd} {e' e2 : Env} (H : Sb n0 l e' e2) : ∀ {a b : List AV}, mts n0 l a b = true → AVs.den e2 a = AVs.den e' b
  | [], [], _ => rfl
  | a :: r, b :: s, h => by
    simp only [mts, Bool.and_eq_true] at h
    simp only [AVs.den, mt_ok H h.1, mts_ok H h.2]
  | [], _ :: _, h => by simp [mts] at h
  | _ :: _, [], h => by simp [mts] at h
end
def mtFr (n0 : Nat) (l : List Bd) (fr : List (Nat × AV)) : List (Nat × AV) → Bool
  | [] => true
  | (t, a) :: r => (match look fr t with
    | some b => mt n0 l a b
    | none => false) && mtFr n0 l fr r
theorem mtFr_ok {n0 : Nat} {l : List Bd} {e' e2 : Env} (H : Sb n0 l e' e2) {fr : List (Nat × AV)} {sfr : List (Nat × V)} (F : FrOk fr sfr e') : ∀ {fr1 : List (Nat × AV)}, mtFr n0 l fr fr1 = true → FrOk fr1 sfr e2
  | [], _, t, a, h => by simp [look] at h
  | (k, x) :: r, h, t, a, hl => by
    simp only [mtFr, Bool.and_eq_true] at h
    simp only [look] at hl
    split at hl
    · rename_i e
      have : k = t := by simpa using e
      subst this; cases hl
      have h1 := h.1
      split at h1 <;> first | (cases h1; done) | skip
      rename_i b hb
      rw [F _ _ hb, mt_ok H h1]
    · exact mtFr_ok H F h.2 t a hl
def ksOk (n0 : Nat) (l : List Bd) : List (Nat × Poly) → List (Nat × Poly) → Bool
  | [], _ => true
  | (k, p) :: r, ks' => (match sbC n0 l k, sbP n0 l p with
    | some k, some q => hasK k q ks'
    | _, _ => false) && ksOk n0 l r ks'
theorem ksOk_ok {n0 : Nat} {l : List Bd} {e' e2 : Env} (H : Sb n0 l e' e2) {ks' : List (Nat × Poly)} {M : Nat} (h' : ∀ p ∈ ks', (p.2.den e'.i).toNat + (e'.c p.1).getD 0 ≤ M) : ∀ {ks : List (Nat × Poly)}, ksOk n0 l ks ks' = true → ∀ p ∈ ks, (p.2.den e2.i).toNat + (e2.c p.1).getD 0 ≤ M
  | [], _, p, hp => by simp at hp
  | (k, q) :: r, h, p, hp => by
    simp only [ksOk, Bool.and_eq_true] at h
    rcases List.mem_cons.1 hp with rfl | hp
    · have h1 := h.1
      split at h1 <;> first | (cases h1; done) | skip
      rename_i k' q' hk hq
      have := h' _ (hasK_in h1)
      simp only at this ⊢
      rw [← sbP_ok H hq, sbC_ok H hk]; exact this
    · exact ksOk_ok H h' h.2 p hp
def mtF (n0 : Nat) (l : List Bd) : List (Nat × AV) → List (Nat × AV) → Bool
  | [], [] => true
  | (t, a) :: r, (u, b) :: s => Nat.beq t u && mt n0 l a b && mtF n0 l r s
  | _, _ => false
theorem mtF_ok {n0 : Nat} {l : List Bd} {e' e2 : Env} (H : Sb n0 l e' e2) : ∀ {f g : List (Nat × AV)}, mtF n0 l f g = true → ∀ t a, look f t = some a → ∃ b, look g t = some b ∧ a.den e2 = b.den e'
  | [], [], _, t, a, ha => by simp [look] at ha
  | (u, x) :: r, (v, y) :: s, h, t, a, ha => by
    simp only [mtF, Bool.and_eq_true] at h
    have huv := nb h.1.1
    subst huv
    simp only [look] at ha ⊢
    split at ha
    · rename_i hc; cases ha
      exact ⟨y, by rw [if_pos hc], mt_ok H h.1.2⟩
    · rename_i hc
      obtain ⟨b, h1, h2⟩ := mtF_ok H h.2 t a ha
      exact ⟨b, by rw [if_neg hc]; exact h1, h2⟩
  | [], _ :: _, h, _, _, _ => by simp [mtF] at h
  | _ :: _, [], h, _, _, _ => by simp [mtF] at h
def mtH (n0 : Nat) (l : List Bd) (H' : List (Nat × HB)) (x : Nat × HB) : Option (Option Nat) :=
  match x.2 with
  | .exact false ty cells => (match sbB n0 l x.1 with
    | some b' => (match look H' b' with
      | some (.exact false ty' cells') => bif Nat.beq ty ty' && mts n0 l cells cells' then some (some b') else none
      | _ => none)
    | none => none)
  | .row c e el m ks => bif eqPo (sbI n0 l c) [] then some none else (match sbB n0 l x.1 with
    | some b' => (match look H' b' with
      | some (.row c' e1 el' m' ks') => bif (Nat.beq c' 0 || eqPo (sbI n0 l c) (varP c')) && Nat.beq e e1 && inRLs n0 el && ALs.beq el el' && eqPo (sbP n0 l m) m' && ksOk n0 l ks ks' then some (some b') else none
      | _ => none)
    | none => none)
  | .typ c r el m => (match sbB n0 l x.1 with
    | some b' => (match look H' b' with
      | some (.typ c' r' el' m') => bif (Nat.beq c' 0 || eqPo (sbI n0 l c) (varP c')) && Nat.beq r r' && inRLs n0 el && ALs.beq el el' && eqPo (sbP n0 l m) m' then some none else none
      | _ => none)
    | none => none)
  | .df => (match sbB n0 l x.1 with
    | some b' => (match look H' b' with
      | some .df => some (some b')
      | _ => none)
    | none => none)
  | .lp st pd sz fr f p => bif Nat.blt x.1 n0 then (match look H' x.1 with
      | some (.lp st' pd' sz' fr' f' p') => bif Nat.beq st st' && Nat.beq pd pd' && Nat.beq sz sz' && Nat.beq f f' && decide (p = p') && mtF n0 l fr fr' then some (some x.1) else none
      | _ => none) else none
  | _ => none
def mtHs (n0 : Nat) (l : List Bd) (H' : List (Nat × HB)) : List (Nat × HB) → List Nat → Bool
  | [], _ => true
  | x :: r, bs => match mtH n0 l H' x with
    | some none => mtHs n0 l H' r bs
    | some (some b) => !bs.any (Nat.beq b) && mtHs n0 l H' r (b :: bs)
    | none => false
theorem mtH_ok {h0 : H0} {A' : AS} {h : Hp} {n0 : Nat} {l : List Bd} {e' e2 : Env} (S : SatH h0 A' h e') (H : Sb n0 l e' e2) (hG : e2.G = e'.G) {x : Nat × HB} {o : Option Nat} (hx : mtH n0 l A'.H x = some o) :
    HbOk h0 h e2 x.1 x.2 ∧ (excl e2 x.2 → ∃ b', o = some b' ∧ e2.b x.1 = e'.b b' ∧ ∃ k', look A'.H b' = some k' ∧ excl e' k') := by
  obtain ⟨β, k⟩ := x
  have cond : ∀ {c c' : Nat}, (Nat.beq c' 0 || eqPo (sbI n0 l c) (varP c')) = true → e2.i c ≠ 0 → e'.i c' ≠ 0 := fun {c c'} hc h2 => by
    simp only [Bool.or_eq_true] at hc
    rcases hc with hc | hc
    · rw [nb hc, H.one]; omega
    · have := sbI_ok H (eqPo_eq hc)
      rw [den_var] at this; rw [← this]; exact h2
  unfold mtH at hx
  simp only at hx
  cases k with
  | exact ro ty cells =>
    cases ro with
    | true => simp only [] at hx; cases hx
    | false =>
      simp only [] at hx
      split at hx <;> first | (cases hx; done) | skip
      rename_i b' hb
      split at hx <;> first | (cases hx; done) | skip
      rename_i ty' cells' hlk
      cases hc : (Nat.beq ty ty' && mts n0 l cells cells') <;> rw [hc] at hx <;> simp only [cond_true, cond_false] at hx
      · cases hx
      cases hx
      simp only [Bool.and_eq_true] at hc
      have ht := nb hc.1; subst ht
      obtain ⟨b1, b2⟩ := sbB_ok H hb
      obtain ⟨p1, p2, rw', p3, p4, p5⟩ := S.ent _ (look_in hlk)
      simp only at p1 p2 p3
      refine ⟨⟨by rw [b2]; exact p1, by simp only; rw [b1]; exact p2, rw', by simp only; rw [b1, p3, mts_ok H hc.2], (fun h => by cases h), fun _ => ?_⟩, fun _ => ⟨b', rfl, b1, _, hlk, rfl⟩⟩
      have := p5 rfl
      simp only at this ⊢
      rw [hG, b1]; exact this
  | row c e el m ks =>
    simp only [] at hx
    cases hv : eqPo (sbI n0 l c) [] <;> rw [hv] at hx <;> simp only [cond_true, cond_false] at hx
    · split at hx <;> first | (cases hx; done) | skip
      rename_i b' hb
      split at hx <;> first | (cases hx; done) | skip
      rename_i c' e1 el' m' ks' hlk
      cases hc : ((Nat.beq c' 0 || eqPo (sbI n0 l c) (varP c')) && Nat.beq e e1 && inRLs n0 el && ALs.beq el el' && eqPo (sbP n0 l m) m' && ksOk n0 l ks ks') <;> rw [hc] at hx <;> simp only [cond_true, cond_false] at hx
      · cases hx
      cases hx
      simp only [Bool.and_eq_true] at hc
      obtain ⟨⟨⟨⟨⟨g1, g2⟩, g3⟩, g4⟩, g5⟩, g6⟩ := hc
      have g2 := nb g2; subst g2
      have g4 := ALs.beq_eq g4; subst g4
      obtain ⟨b1, b2⟩ := sbB_ok H hb
      refine ⟨fun h2 => ?_, fun h2 => ⟨b', rfl, b1, _, hlk, cond g1 h2⟩⟩
      obtain ⟨p1, p2, p3, p4, p5, p6, ty, cs, p7, p8, p9, p10⟩ := S.ent _ (look_in hlk) (cond g1 h2)
      simp only at p1 p2 p3 p4 p6 p8 p10
      have hm := sbP_ok H (eqPo_eq g5)
      simp only
      rw [b1, b2, ← hm, hG]
      refine ⟨p1, p2, p3, p4, p5, ksOk_ok H p6 g6, ty, cs, p7, p8, p9, fun i j l' v hi hj hv => ?_⟩
      have := p10 i j l' v hi hj hv
      have hel := inRLs_agr H.old g3
      have hl : l'.den e2.i = l'.den e'.i := by
        rw [ALs.den_eq, ALs.den_eq] at hel
        have h6 := congrArg (fun x => x[j]?) hel
        simp only [List.getElem?_map, hj, Option.map_some, Option.some.injEq] at h6
        exact h6
      rw [hl]; exact this
    · cases hx
      have h1 := sbI_ok H (eqPo_eq hv)
      exact ⟨fun hc => absurd h1 hc, fun hc => absurd h1 hc⟩
  | typ c r el m =>
    simp only [] at hx
    split at hx <;> first | (cases hx; done) | skip
    rename_i b' hb
    split at hx <;> first | (cases hx; done) | skip
    rename_i c' r' el' m' hlk
    cases hc : ((Nat.beq c' 0 || eqPo (sbI n0 l c) (varP c')) && Nat.beq r r' && inRLs n0 el && ALs.beq el el' && eqPo (sbP n0 l m) m') <;> rw [hc] at hx <;> simp only [cond_true, cond_false] at hx
    · cases hx
    cases hx
    simp only [Bool.and_eq_true] at hc
    obtain ⟨⟨⟨⟨g1, g2⟩, g3⟩, g4⟩, g5⟩ := hc
    have g2 := nb g2; subst g2
    have g4 := ALs.beq_eq g4; subst g4
    obtain ⟨b1, b2⟩ := sbB_ok H hb
    refine ⟨fun h2 => ?_, fun h => h.elim⟩
    obtain ⟨p1, t, p2, p3, p4, p5⟩ := S.ent _ (look_in hlk) (cond g1 h2)
    simp only at p1 p2 p4 p5
    have hm := sbP_ok H (eqPo_eq g5)
    rw [← hm]
    refine ⟨p1, t, by rw [hG]; simp only; rw [b1]; exact p2, p3, by simp only; rw [b2]; exact p4, fun i j l' hi hj => ?_⟩
    have := p5 i j l' hi hj
    have hel := inRLs_agr H.old g3
    have hl : l'.den e2.i = l'.den e'.i := by
      rw [ALs.den_eq, ALs.den_eq] at hel
      have h6 := congrArg (fun x => x[j]?) hel
      simp only [List.getElem?_map, hj, Option.map_some, Option.some.injEq] at h6
      exact h6
    simp only; rw [b2, hl]; exact this
  | df =>
    simp only [] at hx
    split at hx <;> first | (cases hx; done) | skip
    rename_i b' hb
    split at hx <;> first | (cases hx; done) | skip
    rename_i hlk
    cases hx
    obtain ⟨b1, b2⟩ := sbB_ok H hb
    obtain ⟨p1, p2, p3, p4⟩ := S.ent _ (look_in hlk)
    simp only at p1 p2 p3 p4
    exact ⟨⟨by simp only; rw [b1]; exact p1, by simp only; rw [b1]; exact p2, by simp only; rw [hG, b1]; exact p3, by simp only; rw [b1]; exact p4⟩, fun _ => ⟨b', rfl, b1, _, hlk, trivial⟩⟩
  | lp st pd sz fr f p =>
    simp only [] at hx
    cases hβ : Nat.blt β n0 <;> rw [hβ] at hx <;> simp only [cond_true, cond_false] at hx
    · cases hx
    split at hx <;> first | (cases hx; done) | skip
    rename_i st' pd' sz' fr' f' p' hlk
    cases hc : (Nat.beq st st' && Nat.beq pd pd' && Nat.beq sz sz' && Nat.beq f f' && decide (p = p') && mtF n0 l fr fr') <;> rw [hc] at hx <;> simp only [cond_true, cond_false] at hx
    · cases hx
    cases hx
    simp only [Bool.and_eq_true, decide_eq_true_eq] at hc
    obtain ⟨⟨⟨⟨⟨g1, g2⟩, g3⟩, g4⟩, g5⟩, g6⟩ := hc
    have g1 := nb g1; have g2 := nb g2; have g3 := nb g3; have g4 := nb g4
    subst g1; subst g2; subst g3; subst g4; subst g5
    have hlt : β < n0 := Nat.le_of_ble_eq_true hβ
    have b1 : e2.b β = e'.b β := H.old.b β hlt
    have v1 : e2.v β = e'.v β := H.old.v β hlt
    obtain ⟨p1, p2, p3, p4, op, ps, as, c, D, frc, p5, p6, p7⟩ := S.ent _ (look_in hlk)
    simp only at p1 p2 p3 p4 p6
    refine ⟨⟨by simp only; rw [b1]; exact p1, by simp only; rw [b1]; exact p2, by simp only; rw [hG, b1]; exact p3, by simp only; rw [v1, b1]; exact p4, op, ps, as, c, D, frc, p5, by simp only; rw [b1]; exact p6, fun t a ha => ?_⟩, fun _ => ⟨β, rfl, b1, _, hlk, trivial⟩⟩
    obtain ⟨b, h1, h2⟩ := mtF_ok H g6 t a ha
    rw [h2]; exact p7 t b h1
end Go.Mx.Az

namespace Go.Mx.Az
def keepH : List (Nat × HB) → List (Nat × HB)
  | [] => []
  | (b, .exact true ty cs) :: r => (b, .exact true ty cs) :: keepH r
  | (b, .typ c g el m) :: r => (b, .typ c g el m) :: keepH r
  | _ :: r => keepH r
theorem keepH_mem : ∀ {l : List (Nat × HB)} {x : Nat × HB}, x ∈ keepH l → x ∈ l ∧ ((∃ ty cs, x.2 = .exact true ty cs) ∨ ∃ c g el m, x.2 = .typ c g el m)
  | [], x, h => by simp [keepH] at h
  | (b, .exact true ty cs) :: r, x, h => by
    rcases List.mem_cons.1 h with rfl | h
    · exact ⟨by simp, .inl ⟨ty, cs, rfl⟩⟩
    · exact ⟨List.mem_cons_of_mem _ (keepH_mem h).1, (keepH_mem h).2⟩
  | (b, .exact false ty cs) :: r, x, h => ⟨List.mem_cons_of_mem _ (keepH_mem (l := r) h).1, (keepH_mem (l := r) h).2⟩
  | (b, .typ c g el m) :: r, x, h => by
    rcases List.mem_cons.1 h with rfl | h
    · exact ⟨by simp, .inr ⟨c, g, el, m, rfl⟩⟩
    · exact ⟨List.mem_cons_of_mem _ (keepH_mem h).1, (keepH_mem h).2⟩
  | (b, .row c e el m ks) :: r, x, h => ⟨List.mem_cons_of_mem _ (keepH_mem (l := r) h).1, (keepH_mem (l := r) h).2⟩
  | (b, .df) :: r, x, h => ⟨List.mem_cons_of_mem _ (keepH_mem (l := r) h).1, (keepH_mem (l := r) h).2⟩
  | (b, .lp _ _ _ _ _ _) :: r, x, h => ⟨List.mem_cons_of_mem _ (keepH_mem (l := r) h).1, (keepH_mem (l := r) h).2⟩
def tmA (A : AS) (t : Tm) : AS := { n := t.n, F := t.F ++ A.F, T := t.T ++ A.T, fr := t.fr, H := t.H ++ keepH A.H, M := t.M ++ A.M, Q := t.Q ++ A.Q }
def prodsOk (n0 : Nat) (l : List Bd) (T' : Prods) : Prods → Bool
  | [] => true
  | (x, y, z) :: r => (match sbI n0 l x, sbI n0 l y, sbI n0 l z with
    | some px, some py, some pz => eqPo (mulP T' px py) pz
    | _, _, _ => false) && prodsOk n0 l T' r
theorem prodsOk_ok {n0 : Nat} {l : List Bd} {e' e2 : Env} (H : Sb n0 l e' e2) {T' : Prods} (hT : PrOk T' e'.i) : ∀ {T : Prods}, prodsOk n0 l T' T = true → PrOk T e2.i
  | [], _, t, ht => by simp at ht
  | (x, y, z) :: r, h, t, ht => by
    simp only [prodsOk, Bool.and_eq_true] at h
    rcases List.mem_cons.1 ht with rfl | ht
    · have h1 := h.1
      split at h1 <;> first | (cases h1; done) | skip
      rename_i px py pz hx hy hz
      have := den_mul H.one hT (eqPo_eq h1)
      simp only
      rw [sbI_ok H hx, sbI_ok H hy, sbI_ok H hz, this]
    · exact prodsOk_ok H hT h.2 t ht
def sbPs (n0 : Nat) (l : List Bd) : List Poly → Option (List Poly)
  | [] => some []
  | p :: r => match sbP n0 l p, sbPs n0 l r with
    | some q, some s => some (q :: s)
    | _, _ => none
theorem sbPs_ok {n0 : Nat} {l : List Bd} {e' e2 : Env} (H : Sb n0 l e' e2) : ∀ {F F' : List Poly}, sbPs n0 l F = some F' → (∀ p ∈ F', 0 ≤ p.den e'.i) → FOk F e2.i
  | [], F', h, _, p, hp => by simp at hp
  | q :: r, F', h, hF, p, hp => by
    simp only [sbPs] at h
    split at h <;> first | (cases h; done) | skip
    rename_i q' s hq hs
    cases h
    rcases List.mem_cons.1 hp with rfl | hp
    · rw [← sbP_ok H hq]; exact hF q' (by simp)
    · exact sbPs_ok H hs (fun p hp => hF p (by simp [hp])) p hp
def qHoldK (C : Cfg) (A : AS) (q : QF) (hs : HS) : Option HS :=
  match C.qm A q hs with
  | none => none
  | some (0, hs) => C.pv A (subP q.a q.c) hs
  | some (k + 1, hs) => match A.Q[k / 2]? with
    | none => (match memo1 q.b (addC (smul (q.z : Int) (addC q.c (-1))) q.j) A.M with
      | some (.i _ p) => pvs C A [subP (addC q.a 1) q.c, subP p q.lo, subP q.hi p] hs
      | _ => none)
    | some q0 => bif Nat.beq q0.b q.b && Nat.beq q0.z q.z && Nat.beq q0.j q.j then
        (match pvs C A [subP q.a q0.a, subP q0.lo q.lo, subP q.hi q0.hi] hs with
         | none => none
         | some hs => bif Nat.beq (k % 2) 0 then C.pv A (subP q0.c q.c) hs
           else match memo1 q.b (addC (smul (q.z : Int) (addC q.c (-1))) q.j) A.M with
             | some (.i _ p) => pvs C A [subP (addC q0.c 1) q.c, subP p q.lo, subP q.hi p] hs
             | _ => none) else none
theorem qHoldK_ok {C : Cfg} (hC : CfgOk C) {h0 : H0} {A : AS} {q : QF} {hs hs' : HS} (hk : qHoldK C A q hs = some hs') {h : Hp} {e : Env} (S : SatH h0 A h e) : QOk h0 e q := by
  unfold qHoldK at hk
  split at hk
  · cases hk
  · rename_i hs1 _
    have := hC.pv hk S
    rw [den_sub] at this
    intro i h1 h2; omega
  · rename_i k hs1 _
    split at hk
    · split at hk <;> first | (cases hk; done) | skip
      rename_i kk p hmem
      have f4 := pvs_ok hC hk S (subP (addC q.a 1) q.c) (by simp)
      have f5 := pvs_ok hC hk S (subP p q.lo) (by simp)
      have f6 := pvs_ok hC hk S (subP q.hi p) (by simp)
      rw [den_sub, den_addC S.one] at f4
      rw [den_sub] at f5 f6
      intro i h3 h4
      have hi : i = q.c.den e.i - 1 := by omega
      obtain ⟨g1, ty, cs, rw', g2, g3⟩ := S.mem _ (memo1_in hmem)
      simp only at g1 g2 g3
      refine ⟨g1, ty, cs, rw', kk, p.den e.i, g2, ?_, by omega, by omega⟩
      rw [den_addC S.one, den_smul, den_addC S.one] at g3
      rw [← g3.trans (by simp [AV.den] : some ((AV.i kk p).den e) = some (.i kk (p.den e.i)))]
      congr 2
      rw [hi, Int.mul_comm]; rfl
    · rename_i q0 hq0
      cases hb : (Nat.beq q0.b q.b && Nat.beq q0.z q.z && Nat.beq q0.j q.j) <;> rw [hb] at hk <;> simp only [cond_true, cond_false] at hk
      · cases hk
      simp only [Bool.and_eq_true] at hb
      obtain ⟨⟨b1, b2⟩, b3⟩ := hb
      have b1 := nb b1; have b2 := nb b2; have b3 := nb b3
      split at hk <;> first | (cases hk; done) | skip
      rename_i hs2 h2
      have Q0 := S.qf q0 (List.mem_of_getElem? hq0)
      have f1 := pvs_ok hC h2 S (subP q.a q0.a) (by simp)
      have f2 := pvs_ok hC h2 S (subP q0.lo q.lo) (by simp)
      have f3 := pvs_ok hC h2 S (subP q.hi q0.hi) (by simp)
      rw [den_sub] at f1 f2 f3
      have old : ∀ i : Int, q.a.den e.i ≤ i → i < q0.c.den e.i → e.b q.b < h0.n ∧ ∃ ty cs rw k n, h0.get (e.b q.b) = some (.blk ty cs rw) ∧ cs[e.o q.b + (i * q.z + q.j).toNat]? = some (.i k n) ∧ q.lo.den e.i ≤ n ∧ n ≤ q.hi.den e.i := fun i h3 h4 => by
        obtain ⟨g1, ty, cs, rw', kk, n, g2, g3, g4, g5⟩ := Q0 i (by omega) h4
        rw [b1] at g1 g2 g3
        rw [b2, b3] at g3
        exact ⟨g1, ty, cs, rw', kk, n, g2, g3, by omega, by omega⟩
      cases hm : Nat.beq (k % 2) 0 <;> rw [hm] at hk <;> simp only [cond_true, cond_false] at hk
      · split at hk <;> first | (cases hk; done) | skip
        rename_i kk p hmem
        have f4 := pvs_ok hC hk S (subP (addC q0.c 1) q.c) (by simp)
        have f5 := pvs_ok hC hk S (subP p q.lo) (by simp)
        have f6 := pvs_ok hC hk S (subP q.hi p) (by simp)
        rw [den_sub, den_addC S.one] at f4
        rw [den_sub] at f5 f6
        intro i h3 h4
        by_cases hlt : i < q0.c.den e.i
        · exact old i h3 hlt
        · have hi : i = q.c.den e.i - 1 := by omega
          obtain ⟨g1, ty, cs, rw', g2, g3⟩ := S.mem _ (memo1_in hmem)
          simp only at g1 g2 g3
          refine ⟨g1, ty, cs, rw', kk, p.den e.i, g2, ?_, by omega, by omega⟩
          rw [den_addC S.one, den_smul, den_addC S.one] at g3
          rw [← g3.trans (by simp [AV.den] : some ((AV.i kk p).den e) = some (.i kk (p.den e.i)))]
          congr 2
          rw [hi, Int.mul_comm]; rfl
      · have f4 := hC.pv hk S
        rw [den_sub] at f4
        intro i h3 h4
        exact old i h3 (by omega)
def qSb (n0 : Nat) (l : List Bd) (q : QF) : Option QF :=
  match sbB n0 l q.b, sbP n0 l q.a, sbP n0 l q.c, sbP n0 l q.lo, sbP n0 l q.hi with
  | some b, some a, some c, some lo, some hi => some ⟨b, q.z, q.j, a, c, lo, hi⟩
  | _, _, _, _, _ => none
theorem qSb_ok {n0 : Nat} {l : List Bd} {e' e2 : Env} (H : Sb n0 l e' e2) {h0 : H0} {q q' : QF} (h : qSb n0 l q = some q') (hq : QOk h0 e' q') : QOk h0 e2 q := by
  unfold qSb at h
  split at h <;> first | (cases h; done) | skip
  rename_i b a c lo hi h1 h2 h3 h4 h5
  cases h
  obtain ⟨g1, g2⟩ := sbB_ok H h1
  intro i h6 h7
  rw [← sbP_ok H h2] at h6
  rw [← sbP_ok H h3] at h7
  have := hq i h6 h7
  simp only at this
  rw [g1, g2, ← sbP_ok H h4, ← sbP_ok H h5]; exact this
def qsK (C : Cfg) (A : AS) (n0 : Nat) (l : List Bd) : List QF → HS → Option HS
  | [], hs => some hs
  | q :: r, hs => match qSb n0 l q with
    | none => none
    | some q' => match qHoldK C A q' hs with
      | none => none
      | some hs => qsK C A n0 l r hs
theorem qsK_ok {C : Cfg} (hC : CfgOk C) {h0 : H0} {A : AS} {n0 : Nat} {l : List Bd} {e' e2 : Env} (H : Sb n0 l e' e2) {h : Hp} (S : SatH h0 A h e') : ∀ {Q : List QF} {hs hs' : HS}, qsK C A n0 l Q hs = some hs' → ∀ q ∈ Q, QOk h0 e2 q
  | [], _, _, _, q, hq => by simp at hq
  | q :: r, hs, hs', hk, x, hx => by
    simp only [qsK] at hk
    split at hk <;> first | (cases hk; done) | skip
    rename_i q' h1
    split at hk <;> first | (cases hk; done) | skip
    rename_i hs1 h2
    rcases List.mem_cons.1 hx with rfl | hx
    · exact qSb_ok H h1 (qHoldK_ok hC h2 S)
    · exact qsK_ok hC H S hk x hx
def mtMK (C : Cfg) (A : AS) (n0 : Nat) (l : List Bd) (m : Nat × Poly × AV) (hs : HS) : Option HS :=
  match sbB n0 l m.1, sbP n0 l m.2.1 with
  | some b, some p => (match memo1 b p A.M with
    | none => none
    | some a' => bif mt n0 l m.2.2 a' then some hs else (match m.2.2, a' with
      | .i k x, .i k' y => bif decide (k = k') then (match sbP n0 l x with
        | some x' => pvs C A [subP x' y, subP y x'] hs
        | none => none) else none
      | .b (.ge x), .b (.ge y) => (match sbP n0 l x with
        | some x' => (match C.qm A ⟨0, 2000000, 0, x', y, [], []⟩ hs with
          | some (0, hs) => pvs C A [x', y] hs
          | some (_, hs) => pvs C A [addC (negP x') (-1), addC (negP y) (-1)] hs
          | none => none)
        | none => none)
      | _, _ => none))
  | _, _ => none
theorem mtMK_ok {C : Cfg} (hC : CfgOk C) {h0 : H0} {A : AS} {n0 : Nat} {l : List Bd} {e' e2 : Env} (H : Sb n0 l e' e2) {h : Hp} (S : SatH h0 A h e') {m : Nat × Poly × AV} {hs hs' : HS} (hk : mtMK C A n0 l m hs = some hs') : MemOk h0 e2 m := by
  obtain ⟨b0, p0, a⟩ := m
  unfold mtMK at hk
  simp only at hk
  split at hk <;> first | (cases hk; done) | skip
  rename_i b p hb hp
  split at hk <;> first | (cases hk; done) | skip
  rename_i a' hm
  obtain ⟨g1, ty, cs, rw', g2, g3⟩ := S.mem _ (memo1_in hm)
  simp only at g1 g2 g3
  obtain ⟨b1, b2⟩ := sbB_ok H hb
  have hp' := sbP_ok H hp
  have fin : a.den e2 = a'.den e' → MemOk h0 e2 (b0, p0, a) := fun h1 => ⟨by simp only; rw [b1]; exact g1, ty, cs, rw', by simp only; rw [b1]; exact g2, by simp only; rw [b2, ← hp', h1]; exact g3⟩
  cases hmt : mt n0 l a a' <;> rw [hmt] at hk <;> simp only [cond_true, cond_false] at hk
  · split at hk <;> first | (cases hk; done) | skip
    · rename_i k x k' y
      cases hkk : decide (k = k') <;> rw [hkk] at hk <;> simp only [cond_true, cond_false] at hk
      · cases hk
      have hkk := of_decide_eq_true hkk
      subst hkk
      split at hk <;> first | (cases hk; done) | skip
      rename_i x' hx
      have f1 := pvs_ok hC hk S (subP x' y) (by simp)
      have f2 := pvs_ok hC hk S (subP y x') (by simp)
      rw [den_sub] at f1 f2
      have := sbP_ok H hx
      refine fin ?_
      simp only [AV.den]
      rw [← this, show x'.den e'.i = y.den e'.i by omega]
    · rename_i x y
      split at hk <;> first | (cases hk; done) | skip
      rename_i x' hx
      have hx' := sbP_ok H hx
      split at hk <;> first | (cases hk; done) | skip
      · have f1 := pvs_ok hC hk S x' (by simp)
        have f2 := pvs_ok hC hk S y (by simp)
        refine fin ?_
        simp only [AV.den, Cnd.den, ← hx', f1, f2]
      · have f1 := pvs_ok hC hk S (addC (negP x') (-1)) (by simp)
        have f2 := pvs_ok hC hk S (addC (negP y) (-1)) (by simp)
        rw [den_addC S.one, den_neg] at f1 f2
        refine fin ?_
        have f3 : ¬ 0 ≤ x'.den e'.i := by omega
        have f4 : ¬ 0 ≤ y.den e'.i := by omega
        simp only [AV.den, Cnd.den, ← hx', f3, f4]
  · exact fin (mt_ok H hmt)
def mtMsK (C : Cfg) (A : AS) (n0 : Nat) (l : List Bd) : List (Nat × Poly × AV) → HS → Option HS
  | [], hs => some hs
  | m :: r, hs => match mtMK C A n0 l m hs with
    | none => none
    | some hs => mtMsK C A n0 l r hs
theorem mtMsK_ok {C : Cfg} (hC : CfgOk C) {h0 : H0} {A : AS} {n0 : Nat} {l : List Bd} {e' e2 : Env} (H : Sb n0 l e' e2) {h : Hp} (S : SatH h0 A h e') : ∀ {M : List (Nat × Poly × AV)} {hs hs' : HS}, mtMsK C A n0 l M hs = some hs' → ∀ x ∈ M, MemOk h0 e2 x
  | [], _, _, _, x, hx => by simp at hx
  | m :: r, hs, hs', hk, x, hx => by
    simp only [mtMsK] at hk
    split at hk <;> first | (cases hk; done) | skip
    rename_i hs1 h2
    rcases List.mem_cons.1 hx with rfl | hx
    · exact mtMK_ok hC H S h2
    · exact mtMsK_ok hC H S hk x hx
def matchK (C : Cfg) (n0 : Nat) (t : Tm) (l : List Bd) (A' : AS) (hs : HS) : Option HS :=
  bif Nat.beq t.n (n0 + l.length) && mtFr n0 l A'.fr t.fr && mtHs n0 l A'.H t.H [] && prodsOk n0 l A'.T t.T then
    (match sbPs n0 l t.F with
     | none => none
     | some fs => match pvs C A' fs hs with
       | none => none
       | some hs => match qsK C A' n0 l t.Q hs with
         | none => none
         | some hs => mtMsK C A' n0 l t.M hs) else none
def Env.sb (e' : Env) (n0 : Nat) (l : List Bd) : Env :=
  { i := fun k => if k < n0 then e'.i k else match l[k - n0]? with | some bd => bd.i.den e'.i | none => 0
    v := fun k => if k < n0 then e'.v k else match l[k - n0]? with | some bd => e'.v bd.v | none => .nilp
    b := fun k => if k < n0 then e'.b k else match l[k - n0]? with | some bd => e'.b bd.b | none => 0
    o := fun k => if k < n0 then e'.o k else match l[k - n0]? with | some bd => e'.o bd.b | none => 0
    c := fun k => if k < n0 then e'.c k else match l[k - n0]? with | some bd => e'.c bd.c | none => none
    s := fun k => if k < n0 then e'.s k else match l[k - n0]? with | some bd => e'.s bd.s | none => []
    G := e'.G, fc := e'.fc }
theorem Env.sb_agr (e' : Env) (n0 : Nat) (l : List Bd) : Agr n0 e' (e'.sb n0 l) := by
  refine ⟨?_, ?_, ?_, ?_, ?_, ?_, rfl⟩ <;> intro k hk <;> simp [Env.sb, hk]
theorem Sb.of {e' e2 : Env} {n0 : Nat} {l : List Bd} (one : e'.i 0 = 1) (ha : Agr (n0 + l.length) (e'.sb n0 l) e2) : Sb n0 l e' e2 := by
  refine ⟨one, (e'.sb_agr n0 l).trans ha (Nat.le_add_right _ _), fun k bd hk => ?_⟩
  have hlt : k < l.length := (List.getElem?_eq_some_iff.1 hk).1
  have h1 : n0 + k < n0 + l.length := by omega
  have h2 : ¬ n0 + k < n0 := by omega
  have h3 : n0 + k - n0 = k := by omega
  refine ⟨?_, ?_, ?_, ?_, ?_, ?_⟩
  · rw [ha.i _ h1]; simp only [Env.sb, if_neg h2, h3, hk]
  · rw [ha.b _ h1]; simp only [Env.sb, if_neg h2, h3, hk]
  · rw [ha.o _ h1]; simp only [Env.sb, if_neg h2, h3, hk]
  · rw [ha.c _ h1]; simp only [Env.sb, if_neg h2, h3, hk]
  · rw [ha.v _ h1]; simp only [Env.sb, if_neg h2, h3, hk]
  · rw [ha.s _ h1]; simp only [Env.sb, if_neg h2, h3, hk]
theorem mtHs_ok {h0 : H0} {A' : AS} {h : Hp} {n0 : Nat} {l : List Bd} {e' e2 : Env} (S : SatH h0 A' h e') (H : Sb n0 l e' e2) (hG : e2.G = e'.G) : ∀ {L : List (Nat × HB)} {bs : List Nat}, mtHs n0 l A'.H L bs = true →
    (∀ x ∈ L, HbOk h0 h e2 x.1 x.2) ∧ (∀ x ∈ L, excl e2 x.2 → ∃ b', e2.b x.1 = e'.b b' ∧ (∃ k', look A'.H b' = some k' ∧ excl e' k') ∧ b' ∉ bs) ∧ L.Pairwise fun x y => excl e2 x.2 → excl e2 y.2 → e2.b x.1 ≠ e2.b y.1
  | [], bs, _ => ⟨fun x hx => by simp at hx, fun x hx => by simp at hx, List.Pairwise.nil⟩
  | x :: r, bs, hk => by
    simp only [mtHs] at hk
    split at hk <;> first | (cases hk; done) | skip
    · rename_i hx
      obtain ⟨o1, o2⟩ := mtH_ok S H hG hx
      obtain ⟨r1, r2, r3⟩ := mtHs_ok S H hG hk
      have hno : ¬ excl e2 x.2 := fun hex => by obtain ⟨b', hb, _⟩ := o2 hex; cases hb
      exact ⟨fun y hy => (List.mem_cons.1 hy).elim (fun e => by subst e; exact o1) (r1 y), fun y hy hex => (List.mem_cons.1 hy).elim (fun e => by subst e; exact absurd hex hno) (fun hy => r2 y hy hex), List.pairwise_cons.2 ⟨fun y _ hex => absurd hex hno, r3⟩⟩
    · rename_i b hx
      simp only [Bool.and_eq_true, Bool.not_eq_true'] at hk
      obtain ⟨o1, o2⟩ := mtH_ok S H hG hx
      obtain ⟨r1, r2, r3⟩ := mtHs_ok S H hG hk.2
      have hb0 : b ∉ bs := fun hm => by
        have := List.any_eq_false.1 hk.1 b hm
        simp at this
      refine ⟨fun y hy => (List.mem_cons.1 hy).elim (fun e => by subst e; exact o1) (r1 y), fun y hy hex => ?_, List.pairwise_cons.2 ⟨fun y hy hex hey => ?_, r3⟩⟩
      · rcases List.mem_cons.1 hy with rfl | hy
        · obtain ⟨b', hb, h1, h2⟩ := o2 hex
          cases hb
          exact ⟨b, h1, h2, hb0⟩
        · obtain ⟨b', h1, h2, h3⟩ := r2 y hy hex
          exact ⟨b', h1, h2, fun hm => h3 (List.mem_cons_of_mem _ hm)⟩
      · obtain ⟨b', hb, h1, k', h2, h2'⟩ := o2 hex
        cases hb
        obtain ⟨b2, h3, ⟨k2, h4, h4'⟩, h5⟩ := r2 y hy hey
        rw [h1, h3]
        have hne : b2 ≠ b := fun e => h5 (by rw [e]; simp)
        exact fun e => S.ne (look_in h2) (look_in h4) hne h2' h4' e.symm
theorem match_ok {C : Cfg} (hC : CfgOk C) {h0 : H0} {A0 A' : AS} {s0 s' : St} {e0 e' : Env} (S0 : Sat h0 A0 s0 e0) (S' : Sat h0 A' s' e') (hl : Le A0.n e0 e') {t : Tm} {l : List Bd} {q q' : HS} (hk : matchK C A0.n t l A' q = some q') :
    Sat h0 (tmA A0 t) s' (e'.sb A0.n l) ∧ Sb A0.n l e' (e'.sb A0.n l) ∧ t.n = A0.n + l.length := by
  unfold matchK at hk
  cases hb : (Nat.beq t.n (A0.n + l.length) && mtFr A0.n l A'.fr t.fr && mtHs A0.n l A'.H t.H [] && prodsOk A0.n l A'.T t.T) <;> rw [hb] at hk <;> simp only [cond_true, cond_false] at hk
  · cases hk
  simp only [Bool.and_eq_true] at hb
  obtain ⟨⟨⟨b1, b2⟩, b3⟩, b4⟩ := hb
  have b1 := nb b1
  split at hk <;> first | (cases hk; done) | skip
  rename_i fs hfs
  split at hk <;> first | (cases hk; done) | skip
  rename_i q1 h1
  split at hk <;> first | (cases hk; done) | skip
  rename_i q2 h2
  obtain ⟨s1, s2⟩ := S'.here
  refine ⟨⟨S'.ds, fun k => ?_, fun e2 ha hg => ?_⟩, Sb.of s1.one (Agr.refl _ _), b1⟩
  · simp only [Env.sb]; split
    · exact S'.vb k
    · split
      · exact S'.vb _
      · rfl
  · have ha' : Agr (A0.n + l.length) (e'.sb A0.n l) e2 := by rw [← b1]; exact ha
    have H := Sb.of s1.one ha'
    have hG : e2.G = e'.G := hg
    have hag : Agr A0.n e0 e2 := hl.agr.trans H.old (Nat.le_refl _)
    have u := S0.up hag
    obtain ⟨m1, m2, m3⟩ := mtHs_ok s1 H hG b3
    refine ⟨⟨?_, ?_, ?_, ?_, s1.ext, by rw [hG]; exact s1.g, ?_, ?_, ?_, ?_, u.cz, fun _ hx => nomatch hx⟩, mtFr_ok H s2 b2⟩
    · exact u.one
    · show 0 < t.n; rw [b1]; have := S0.here.1.pos; omega
    · intro p hp
      rcases List.mem_append.1 hp with hp | hp
      · exact sbPs_ok H hfs (fun x hx => pvs_ok hC h1 s1 x hx) p hp
      · exact u.fs p hp
    · intro p hp
      rcases List.mem_append.1 hp with hp | hp
      · exact prodsOk_ok H s1.pr b4 p hp
      · exact u.pr p hp
    · intro x hx
      rcases List.mem_append.1 hx with hx | hx
      · exact m1 x hx
      · obtain ⟨k1, k2⟩ := keepH_mem hx
        have hent := u.ent x k1
        rcases k2 with ⟨ty, cs, k2⟩ | ⟨c, g, el, m, k2⟩
        · rw [k2] at hent ⊢
          obtain ⟨p1, p2, rw', p3, p4, p5⟩ := hent
          simp only at p1 p2 p3 p4
          have hlt := p4 trivial
          refine ⟨p1, Nat.lt_of_lt_of_le hlt s1.ext.n, rw', ?_, fun _ => hlt, fun h => by cases h⟩
          rw [s1.ext.old _ hlt, ← u.ext.old _ hlt, p3, AVs.den_G]
        · rw [k2] at hent ⊢
          intro hc
          obtain ⟨p1, t', p2, p3⟩ := hent hc
          exact ⟨p1, t', by rw [hG]; exact hl.G _ _ p2, p3⟩
    · refine List.pairwise_append.2 ⟨m3, ?_, ?_⟩
      · refine List.pairwise_iff_getElem.2 fun i j hi hj _ hex => ?_
        rcases (keepH_mem (List.getElem_mem hi)).2 with ⟨ty, cs, k2⟩ | ⟨c, g, el, m, k2⟩
        · rw [k2] at hex; cases hex
        · rw [k2] at hex; exact hex.elim
      · intro x _ y hy _ hey
        rcases (keepH_mem hy).2 with ⟨ty, cs, k2⟩ | ⟨c, g, el, m, k2⟩
        · rw [k2] at hey; cases hey
        · rw [k2] at hey; exact hey.elim
    · intro x hx
      rcases List.mem_append.1 hx with hx | hx
      · exact mtMsK_ok hC H s1 hk x hx
      · have := u.mem x hx
        unfold MemOk at this ⊢
        rw [AV.den_G] at this; exact this
    · intro x hx
      rcases List.mem_append.1 hx with hx | hx
      · exact qsK_ok hC H s1 h2 x hx
      · exact u.qf x hx
end Go.Mx.Az

namespace Go.Mx.Az
abbrev Kx := Ex → AS → HS → Option HS
def Rx (h0 : H0) (A : AS) (e : Env) (K : Kx) (ex : Ex) (s : St) : Prop := Rc h0 A e (K ex) s
def litK (C : Cfg) : List Nat → AS → Kq → HS → Option HS
  | [], A, K, hs => K A hs
  | t :: r, A, K, hs => match look A.fr t with
    | some (.b c) => branchC C A c (fun b A hs => litK C r { A with fr := setFr t (.b (.lit b)) A.fr } K hs) hs
    | _ => litK C r A K hs
def litC (C : Cfg) : List (Nat × Nat) → AS → Kq → HS → Option HS
  | [], A, K, hs => K A hs
  | (β, i) :: r, A, K, hs => match look A.H β with
    | some (.exact false ty cells) => (match cells[i]? with
      | some (.b c) => bif Nat.blt β A.n then branchC C A c (fun b A hs => match look A.H β with
        | some (.exact false ty' cells') => bif Nat.beq ty ty' && AVs.beq cells cells' then litC C r { A with H := (β, .exact false ty (cells.set i (.b (.lit b)))) :: delH β A.H } K hs else none
        | _ => none) hs else none
      | _ => litC C r A K hs)
    | _ => litC C r A K hs
theorem litK_ok {C : Cfg} (hC : CfgOk C) {h0 : H0} : ∀ {l : List Nat} {A : AS} {fr : List (Nat × V)} {h : Hp} {e : Env} {K : Kq} {q q' : HS}, Sat h0 A ⟨fr, [], h⟩ e → litK C l A K q = some q' → ∃ A' q1 q2, K A' q1 = some q2 ∧ A'.n = A.n ∧ Sat h0 A' ⟨fr, [], h⟩ e
  | [], A, fr, h, e, K, q, q', S, hk => ⟨A, q, q', hk, rfl, S⟩
  | t :: r, A, fr, h, e, K, q, q', S, hk => by
    unfold litK at hk
    split at hk
    · rename_i c hc
      have hce := S.here.2 t _ hc
      have hst : ∀ e', Agr A.n e e' → c.den e'.i = c.den e.i := fun e' ha => by
        have h1 := S.fr e' ha t _ hc; rw [hce] at h1; simpa [AV.den] using h1.symm
      obtain ⟨A1, q1, q2, k1, S1, M1⟩ := branchC_ok hC S (t := c.den e.i) (fun e' ha _ _ => hst e' ha) hk
      have S2 : Sat h0 { A1 with fr := setFr t (.b (.lit (c.den e.i))) A1.fr } ⟨fr, [], h⟩ e := ⟨rfl, S1.vb, fun e' ha hg => by
        obtain ⟨a1, a2⟩ := S1.all e' ha hg
        refine ⟨a1.setFr _, fun u x hx => ?_⟩
        rcases look_setFr hx with ⟨rfl, rfl⟩ | ⟨h1, h2⟩
        · rw [hce]; simp [AV.den, Cnd.den]
        · exact a2 u x h2⟩
      obtain ⟨A', q3, q4, k2, n2, S3⟩ := litK_ok hC S2 k1
      exact ⟨A', q3, q4, k2, n2.trans M1.n, S3⟩
    · exact litK_ok hC S hk
theorem litC_ok {C : Cfg} (hC : CfgOk C) {h0 : H0} : ∀ {l : List (Nat × Nat)} {A : AS} {fr : List (Nat × V)} {h : Hp} {e : Env} {K : Kq} {q q' : HS}, Sat h0 A ⟨fr, [], h⟩ e → litC C l A K q = some q' → ∃ A' q1 q2, K A' q1 = some q2 ∧ A'.n = A.n ∧ Sat h0 A' ⟨fr, [], h⟩ e
  | [], A, fr, h, e, K, q, q', S, hk => ⟨A, q, q', hk, rfl, S⟩
  | (β, i) :: r, A, fr, h, e, K, q, q', S, hk => by
    unfold litC at hk
    split at hk
    · rename_i ty cells hlk
      split at hk
      · rename_i c hc
        have hcell : ∀ e', Agr A.n e e' → e'.b β = e.b β → c.den e'.i = c.den e.i := fun e' ha hb => by
          obtain ⟨p1, p2, rw', p3, _⟩ := S.here.1.ent _ (look_in hlk)
          obtain ⟨u1, u2, ru', u3, _⟩ := (S.up ha).ent _ (look_in hlk)
          simp only at p3 u3
          rw [hb, p3, AVs.den_G] at u3
          simp only [Option.some.injEq, Ob.blk.injEq, true_and] at u3
          have h1 := congrArg (fun x => x[i]?) u3.1
          simp only [AVs.get, hc, Option.map_some, AV.den, Option.some.injEq, V.b.injEq] at h1
          exact h1.symm
        cases hβ : Nat.blt β A.n <;> rw [hβ] at hk <;> simp only [cond_true, cond_false] at hk
        · cases hk
        · have hb : ∀ e', Agr A.n e e' → e'.b β = e.b β := fun e' ha => ha.b β (Nat.le_of_ble_eq_true hβ)
          obtain ⟨A1, q1, q2, k1, S1, M1⟩ := branchC_ok hC S (t := c.den e.i) (fun e' ha _ _ => hcell e' ha (hb e' ha)) hk
          split at k1 <;> first | (cases k1; done) | skip
          rename_i ty' cells' hlk'
          cases hbq : (Nat.beq ty ty' && AVs.beq cells cells') <;> rw [hbq] at k1 <;> simp only [cond_true, cond_false] at k1
          · cases k1
          simp only [Bool.and_eq_true] at hbq
          have hty := nb hbq.1; have hcs := AVs.beq_eq hbq.2
          subst hty; subst hcs
          have S2 : Sat h0 { A1 with H := (β, .exact false ty (cells.set i (.b (.lit (c.den e.i))))) :: delH β A1.H } ⟨fr, [], h⟩ e := S1.setHeap rfl rfl fun e' ha hg a1 => by
            have ha0 : Agr A.n e e' := by rw [M1.n] at ha; exact ha
            have hcd : AVs.den e' (cells.set i (.b (.lit (c.den e.i)))) = AVs.den e' cells := by
              rw [AVs.den_eq, AVs.den_eq, List.map_set]
              apply List.ext_getElem?
              intro k
              rw [List.getElem?_set]
              split
              · rename_i hik
                subst hik
                split
                · rw [List.getElem?_map, hc]; simp only [Option.map_some, AV.den]; rw [hcell e' ha0 (hb e' ha0)]; rfl
                · rename_i hnl
                  rw [List.getElem?_eq_none (by omega)]
              · rfl
            have hent := a1.ent _ (look_in hlk')
            have hnew : HbOk h0 h e' β (.exact false ty (cells.set i (.b (.lit (c.den e.i))))) := by
              obtain ⟨p1, p2, rw', p3, p4, p5⟩ := hent
              exact ⟨p1, p2, rw', by rw [hcd]; exact p3, p4, p5⟩
            refine ⟨a1.one, a1.pos, a1.fs, a1.pr, a1.ext, a1.g, fun y hy => ?_, ?_, a1.mem, a1.qf, a1.cz, a1.ld⟩
            · rcases List.mem_cons.1 hy with rfl | hy
              · exact hnew
              · exact a1.ent y (delH_mem hy).1
            · refine List.pairwise_cons.2 ⟨fun y hy ex ey e2 => ?_, a1.dis.sublist (delH_sub _)⟩
              obtain ⟨m1, m2⟩ := delH_mem hy
              exact a1.ne (look_in hlk') m1 m2 (by rfl) ey e2.symm
          obtain ⟨A', q3, q4, k2, n2, S3⟩ := litC_ok hC S2 k1
          exact ⟨A', q3, q4, k2, n2.trans M1.n, S3⟩
      · exact litC_ok hC S hk
    · exact litC_ok hC S hk
def meetK (C : Cfg) (A0 : AS) (t : Tm) (fin : AS → List Bd → HS → Option HS) (A : AS) (hs : HS) : Option HS :=
  litK C t.lit A (fun A hs => litC C t.lc A (fun A hs => match C.bd A0.n (tmA A0 t) A hs with
    | some (l, hs) => (match matchK C A0.n t l A hs with
      | some hs => fin A l hs
      | none => none)
    | none => none) hs) hs
theorem meetK_ok {C : Cfg} (hC : CfgOk C) {h0 : H0} {A0 A : AS} {s0 : St} {fr : List (Nat × V)} {h : Hp} {e0 e : Env} (S0 : Sat h0 A0 s0 e0) (S : Sat h0 A ⟨fr, [], h⟩ e) (hl : Le A0.n e0 e) {t : Tm} {fin : AS → List Bd → HS → Option HS} {q q' : HS} (hk : meetK C A0 t fin A q = some q') :
    ∃ A1 l q1 q2, fin A1 l q1 = some q2 ∧ SatH h0 A1 h e ∧ Sat h0 (tmA A0 t) ⟨fr, [], h⟩ (e.sb A0.n l) ∧ Sb A0.n l e (e.sb A0.n l) ∧ t.n = A0.n + l.length := by
  unfold meetK at hk
  obtain ⟨A1, q1, q2, k1, n1, S1⟩ := litK_ok hC S hk
  obtain ⟨A2, q3, q4, k2, n2, S2⟩ := litC_ok hC S1 k1
  split at k2 <;> first | (cases k2; done) | skip
  rename_i l q5 _
  split at k2 <;> first | (cases k2; done) | skip
  rename_i q6 h6
  obtain ⟨m1, m2, m3⟩ := match_ok hC S0 S2 hl h6
  exact ⟨A2, l, q6, q4, k2, S2.here.1, m1, m2, m3⟩
theorem Le.sb {A0 : AS} {e0 e : Env} (hl : Le A0.n e0 e) (l : List Bd) : Le A0.n e0 (e.sb A0.n l) := ⟨hl.agr.trans (e.sb_agr A0.n l) (Nat.le_refl _), hl.G⟩
abbrev Body := AS → Kx → HS → Option HS
def unrollK (body : Body) (K : Kx) : Nat → AS → HS → Option HS
  | 0, _, _ => none
  | n + 1, A, hs => body A (fun ex A hs => match ex with
    | .normal => unrollK body K n A hs
    | ex => K ex A hs) hs
def spK (C : Cfg) : List (Nat × Nat) → AS → Kq → HS → Option HS
  | [], A, K, hs => K A hs
  | (β, i) :: r, A, K, hs => bif Nat.ble 2000000 β then (bif Nat.blt i A.n && Nat.blt (β - 2000000) A.n then spK C r (addProds A [(β - 2000000, i)]) K hs else none) else
      bif Nat.ble 1000000 β && Nat.blt i A.n && Nat.blt (β - 1000000) A.n then branch C A (addC (subP (varP i) (varP (β - 1000000))) (-1)) (fun _ A hs => spK C r A K hs) hs else spK C r A K hs
theorem spK_ok {C : Cfg} (hC : CfgOk C) {h0 : H0} : ∀ {l : List (Nat × Nat)} {A : AS} {s : St} {e : Env} {K : Kq} {q q' : HS}, Sat h0 A s e → spK C l A K q = some q' → ∃ A' e' q1 q2, K A' q1 = some q2 ∧ A.n ≤ A'.n ∧ Le A.n e e' ∧ Sat h0 A' s e'
  | [], A, s, e, K, q, q', S, hk => ⟨A, e, q, q', hk, Nat.le_refl _, Le.refl _ _, S⟩
  | (β, i) :: r, A, s, e, K, q, q', S, hk => by
    unfold spK at hk
    cases hβ : Nat.ble 2000000 β <;> rw [hβ] at hk <;> simp only [cond_true, cond_false] at hk
    · cases hb : (Nat.ble 1000000 β && Nat.blt i A.n && Nat.blt (β - 1000000) A.n) <;> rw [hb] at hk <;> simp only [cond_true, cond_false] at hk
      · exact spK_ok hC S hk
      · simp only [Bool.and_eq_true] at hb
        have h1 : i < A.n := Nat.le_of_ble_eq_true hb.1.2
        have h2 : β - 1000000 < A.n := Nat.le_of_ble_eq_true hb.2
        obtain ⟨A1, q1, q2, k1, S1, M1⟩ := branch_ok hC S (t := decide (0 ≤ (addC (subP (varP i) (varP (β - 1000000))) (-1)).den e.i)) (fun e' ha _ a1 => by
          rw [den_addC a1.one, den_addC S.here.1.one, den_sub, den_sub, den_var, den_var, den_var, den_var, ha.i _ h1, ha.i _ h2]) hk
        obtain ⟨A', e', q3, q4, k2, n2, l2, S3⟩ := spK_ok hC S1 k1
        rw [M1.n] at n2 l2
        exact ⟨A', e', q3, q4, k2, n2, l2, S3⟩
    · cases hb : (Nat.blt i A.n && Nat.blt (β - 2000000) A.n) <;> rw [hb] at hk <;> simp only [cond_true, cond_false] at hk
      · cases hk
      · simp only [Bool.and_eq_true] at hb
        have h1 : i < A.n := Nat.le_of_ble_eq_true hb.1
        have h2 : β - 2000000 < A.n := Nat.le_of_ble_eq_true hb.2
        obtain ⟨e1, l1, n1, S1, _⟩ := (addProds_ok [(β - 2000000, i)] S (fun t ht => by simp at ht; subst ht; exact ⟨h2, h1⟩)).ex
        obtain ⟨A', e', q3, q4, k2, n2, l2, S3⟩ := spK_ok hC S1 hk
        exact ⟨A', e', q3, q4, k2, Nat.le_trans n1 n2, l1.trans l2 n1, S3⟩
def liveH : List (Nat × HB) → List (Nat × HB)
  | [] => []
  | (b, .df) :: r => (b, .df) :: liveH r
  | (b, .lp st pd sz fr f p) :: r => (b, .lp st pd sz fr f p) :: liveH r
  | _ :: r => liveH r
def liveT (A : AS) (t : Tm) : Tm := { t with H := t.H ++ liveH A.H }
def backK (C : Cfg) (A : AS) (t : Tm) (A' : AS) (hs : HS) : Option HS :=
  meetK C A t (fun A1 l hs => match sbP A.n l t.ms with
    | some m => pvs C A1 [addC (subP t.ms m) (-1), addC t.ms (-1)] hs
    | none => none) A' hs
def probeB (body : Body) (A : AS) (hs : HS) : Option HS := body A (fun ex A' hs => match ex with
  | .normal => some (.back A' :: hs)
  | _ => some hs) hs
def peelK (C : Cfg) (body : Body) (A : AS) (t : Tm) (K : Kx) (A' : AS) (hs : HS) : Option HS :=
  bif Nat.beq t.un 1000001 then (match C.ct .skip (probeB body) A' hs with
    | none => none
    | some (0, hs) => backK C A t A' hs
    | some (_, hs) => body A' (fun ex A3 hs => match ex with
      | .normal => backK C A t A3 hs
      | ex => K ex A3 hs) hs) else backK C A t A' hs
def loopT (C : Cfg) (body : Body) (A : AS) (t : Tm) (K : Kx) (hs : HS) : Option HS :=
  bif inR t.n t.ms && Nat.ble A.n t.n then
        (match meetK C A t (fun A1 l hs => match sbP A.n l t.ms with
            | some m => C.pv A1 (addC (negP m) 40000000000000000000) hs
            | none => none) A hs with
        | none => none
        | some hs => spK C t.lc (tmA A t) (fun A2 hs => body A2 (fun ex A' hs => match ex with
          | .normal => peelK C body A t K A' hs
          | ex => K ex A' hs) hs) hs) else none
def loopK0 (C : Cfg) (c : Code) (body : Body) (A : AS) (K : Kx) (hs : HS) : Option HS :=
  match C.tm (some c) (probeB body) A hs with
  | none => none
  | some (t, hs) => match t.un with
    | 0 => loopT C body A (liveT A t) K hs
    | n => bif Nat.ble n 1000000 then unrollK body K n A hs else loopT C body A (liveT A t) K hs
def loopK (C : Cfg) (c : Code) (body : Body) (A : AS) (K : Kx) (hs : HS) : Option HS :=
  match C.ct (.label 0) (probeB body) A hs with
  | none => none
  | some (0, hs) => loopK0 C c body A K hs
  | some (_, hs) => body A (fun ex A' hs => match ex with
    | .normal => loopK0 C c body A' K hs
    | ex => K ex A' hs) hs
def BodyOk (C : Cfg) (h0 : H0) (ccall : Caller) (ro : Option Nat) (lf sz : Nat) (c : Code) (X : List Dfr) (n0 : Nat) (e0 : Env) (body : Body) : Prop := ∀ {A : AS} {fr : List (Nat × V)} {h : Hp} {e : Env} {K : Kx} {q q' : HS}, Le n0 e0 e → n0 ≤ A.n → Sat h0 A ⟨fr, [], h⟩ e → body A K q = some q' →
  ∃ ex fr' h', runC C.tb ccall ro lf sz c ⟨fr, X, h⟩ = some (ex, ⟨fr', X, h'⟩) ∧ Rx h0 A e K ex ⟨fr', [], h'⟩
theorem unroll_ok {C : Cfg} {h0 : H0} {ccall : Caller} {ro : Option Nat} {lf sz : Nat} {c : Code} {X : List Dfr} {n0 : Nat} {e0 : Env} {body : Body} (B : BodyOk C h0 ccall ro lf sz c X n0 e0 body) {K : Kx} : ∀ {n m : Nat} {A : AS} {fr : List (Nat × V)} {h : Hp} {e : Env} {q q' : HS}, n ≤ m → Le n0 e0 e → n0 ≤ A.n → Sat h0 A ⟨fr, [], h⟩ e → unrollK body K n A q = some q' →
    ∃ ex fr' h', iter m (runC C.tb ccall ro lf sz c) ⟨fr, X, h⟩ = some (ex, ⟨fr', X, h'⟩) ∧ Rx h0 A e K ex ⟨fr', [], h'⟩
  | 0, m, A, fr, h, e, q, q', hn, b1, b2, S, hk => by simp [unrollK] at hk
  | n + 1, 0, A, fr, h, e, q, q', hn, b1, b2, S, hk => by omega
  | n + 1, m + 1, A, fr, h, e, q, q', hn, b1, b2, S, hk => by
    simp only [unrollK] at hk
    obtain ⟨ex, fr1, h1, r1, A1, e1, q1, q2, k1, l1, n1, S1⟩ := B b1 b2 S hk
    cases ex with
    | normal =>
      simp only at k1
      obtain ⟨ex2, fr2, h2, r2, r3⟩ := unroll_ok B (m := m) (by omega) (b1.trans l1 b2) (Nat.le_trans b2 n1) S1 k1
      exact ⟨ex2, fr2, h2, by simp only [iter, r1, r2], Rc.step l1 n1 r3⟩
    | _ => exact ⟨_, fr1, h1, by simp only [iter, r1], A1, e1, q1, q2, k1, l1, n1, S1⟩
theorem meetB_ok {C : Cfg} (hC : CfgOk C) {h0 : H0} {A A' : AS} {s0 : St} {fr : List (Nat × V)} {h : Hp} {e0 e : Env} (S0 : Sat h0 A s0 e0) (S : Sat h0 A' ⟨fr, [], h⟩ e) (hl : Le A.n e0 e) {t : Tm} {q q' : HS} (hk : backK C A t A' q = some q') :
    ∃ l, Sat h0 (tmA A t) ⟨fr, [], h⟩ (e.sb A.n l) ∧ (t.ms.den (e.sb A.n l).i).toNat < (t.ms.den e.i).toNat := by
  unfold backK at hk
  obtain ⟨A3, l3, q7, q8, k3, S3, M3, Sb3, n3⟩ := meetK_ok hC S0 S hl hk
  split at k3 <;> first | (cases k3; done) | skip
  rename_i m3 hm3
  have p1 := pvs_ok hC k3 S3 (addC (subP t.ms m3) (-1)) (by simp)
  have p2 := pvs_ok hC k3 S3 (addC t.ms (-1)) (by simp)
  rw [den_addC S3.one, den_sub] at p1
  rw [den_addC S3.one] at p2
  have hm4 := sbP_ok Sb3 hm3
  exact ⟨l3, M3, by omega⟩
theorem loopT_ok {C : Cfg} (hC : CfgOk C) {h0 : H0} {ccall : Caller} {ro : Option Nat} {lf lf' sz : Nat} (hlf' : 90000000000000000000 < lf') {c : Code} {X : List Dfr} {body : Body} {A : AS} {fr : List (Nat × V)} {h : Hp} {e : Env} (B : BodyOk C h0 ccall ro lf sz c X A.n e body) {K : Kx} {q q' : HS} (S : Sat h0 A ⟨fr, [], h⟩ e) {t : Tm} (hk : loopT C body A t K q = some q') :
    ∃ ex fr' h', iter lf' (runC C.tb ccall ro lf sz c) ⟨fr, X, h⟩ = some (ex, ⟨fr', X, h'⟩) ∧ Rx h0 A e K ex ⟨fr', [], h'⟩ := by
    unfold loopT at hk
    cases hb : (inR t.n t.ms && Nat.ble A.n t.n) <;> rw [hb] at hk <;> simp only [cond_true, cond_false] at hk
    · cases hk
    simp only [Bool.and_eq_true] at hb
    have hnt : A.n ≤ t.n := Nat.le_of_ble_eq_true hb.2
    split at hk
    · cases hk
    rename_i q2 h2
    obtain ⟨A1, l, q3, q4, k1, S1, M1, Sb1, n1⟩ := meetK_ok hC S S (Le.refl _ _) h2
    split at k1 <;> first | (cases k1; done) | skip
    rename_i m hm
    have hm0 := hC.pv k1 S1
    rw [den_addC S1.one, den_neg] at hm0
    have hme := sbP_ok Sb1 hm
    have key := iter_rule (f := runC C.tb ccall ro lf sz c)
      (Inv := fun k s => ∃ fr1 h1 e1, s = ⟨fr1, X, h1⟩ ∧ Le A.n e e1 ∧ ((Sat h0 (tmA A t) ⟨fr1, [], h1⟩ e1 ∧ 2 * (t.ms.den e1.i).toNat + 1 = k) ∨
        (∃ A2 q1 q2, t.n ≤ A2.n ∧ Sat h0 A2 ⟨fr1, [], h1⟩ e1 ∧ body A2 (fun ex A3 hs => match ex with | .normal => backK C A t A3 hs | ex => K ex A3 hs) q1 = some q2 ∧ 2 * (t.ms.den e1.i).toNat = k)))
      (Q := fun ex s => ∃ fr1 h1, s = ⟨fr1, X, h1⟩ ∧ Rx h0 A e K ex ⟨fr1, [], h1⟩) (fun k s hI => by
        obtain ⟨fr1, h1, e1, rfl, I2, I1 | ⟨A2, q1, q2', n2, I1, kb, I3⟩⟩ := hI
        · obtain ⟨I1, I3⟩ := I1
          obtain ⟨Ab, eb, qb1, qb2, kb, hnb, lb, Ib⟩ := spK_ok hC I1 hk
          have hnb : t.n ≤ Ab.n := hnb
          have lb : Le t.n e1 eb := lb
          obtain ⟨ex, fr2, h2', r1, A2, e2, q5, q6, k2, l2, n2, S2⟩ := B (I2.trans lb hnt) (Nat.le_trans hnt hnb) Ib kb
          have l2 : Le t.n e1 e2 := lb.trans l2 hnb
          have n2' : t.n ≤ A2.n := Nat.le_trans hnb n2
          have hl2 : Le A.n e e2 := I2.trans l2 hnt
          have hms : t.ms.den e2.i = t.ms.den e1.i := inR_agr l2.agr hb.1
          refine ⟨ex, ⟨fr2, X, h2'⟩, r1, ?_⟩
          by_cases hx : ex = .normal
          · subst hx
            refine .inl ⟨rfl, ?_⟩
            simp only at k2
            have one : ∀ {qa qb}, backK C A t A2 qa = some qb → ∃ k', k' < k ∧ ∃ fr1 h1 e1, (⟨fr2, X, h2'⟩ : St) = ⟨fr1, X, h1⟩ ∧ Le A.n e e1 ∧ ((Sat h0 (tmA A t) ⟨fr1, [], h1⟩ e1 ∧ 2 * (t.ms.den e1.i).toNat + 1 = k') ∨
                (∃ A2 q1 q2, t.n ≤ A2.n ∧ Sat h0 A2 ⟨fr1, [], h1⟩ e1 ∧ body A2 (fun ex A3 hs => match ex with | .normal => backK C A t A3 hs | ex => K ex A3 hs) q1 = some q2 ∧ 2 * (t.ms.den e1.i).toNat = k')) := fun hbk => by
              obtain ⟨l3, M3, hlt⟩ := meetB_ok hC S S2 hl2 hbk
              exact ⟨_, by omega, fr2, h2', _, rfl, hl2.sb l3, .inl ⟨M3, rfl⟩⟩
            unfold peelK at k2
            cases hun : Nat.beq t.un 1000001 <;> rw [hun] at k2 <;> simp only [cond_true, cond_false] at k2
            · exact one k2
            · split at k2 <;> first | (cases k2; done) | skip
              · exact one k2
              · exact ⟨_, by omega, fr2, h2', e2, rfl, hl2, .inr ⟨A2, _, _, n2', S2, k2, rfl⟩⟩
          · refine .inr ⟨hx, fr2, h2', rfl, A2, e2, q5, q6, ?_, hl2, Nat.le_trans hnt n2', S2⟩
            cases ex <;> first | exact absurd rfl hx | exact k2
        · obtain ⟨ex, fr2, h2', r1, A3, e2, q5, q6, k2, l2, n3, S2⟩ := B I2 (Nat.le_trans hnt n2) I1 kb
          have hl2 : Le A.n e e2 := I2.trans l2 (Nat.le_trans hnt n2)
          have hms : t.ms.den e2.i = t.ms.den e1.i := inR_agr (l2.agr.mono n2) hb.1
          refine ⟨ex, ⟨fr2, X, h2'⟩, r1, ?_⟩
          by_cases hx : ex = .normal
          · subst hx
            refine .inl ⟨rfl, ?_⟩
            simp only at k2
            obtain ⟨l3, M3, hlt⟩ := meetB_ok hC S S2 hl2 k2
            exact ⟨_, by omega, fr2, h2', _, rfl, hl2.sb l3, .inl ⟨M3, rfl⟩⟩
          · refine .inr ⟨hx, fr2, h2', rfl, A3, e2, q5, q6, ?_, hl2, Nat.le_trans hnt (Nat.le_trans n2 n3), S2⟩
            cases ex <;> first | exact absurd rfl hx | exact k2)
      lf' (2 * (t.ms.den (e.sb A.n l).i).toNat + 1) ⟨fr, X, h⟩ (by omega) ⟨fr, h, _, rfl, (Le.refl A.n e).sb l, .inl ⟨M1, rfl⟩⟩
    obtain ⟨ex, s', r1, fr1, h1, rfl, r2⟩ := key
    exact ⟨ex, fr1, h1, r1, r2⟩
theorem loop0_ok {C : Cfg} (hC : CfgOk C) {h0 : H0} {ccall : Caller} {ro : Option Nat} {lf lf' sz : Nat} (hlf' : 90000000000000000000 < lf') {c : Code} {X : List Dfr} {body : Body} {A : AS} {fr : List (Nat × V)} {h : Hp} {e : Env} (B : BodyOk C h0 ccall ro lf sz c X A.n e body) {K : Kx} {q q' : HS} (S : Sat h0 A ⟨fr, [], h⟩ e) (hk : loopK0 C c body A K q = some q') :
    ∃ ex fr' h', iter lf' (runC C.tb ccall ro lf sz c) ⟨fr, X, h⟩ = some (ex, ⟨fr', X, h'⟩) ∧ Rx h0 A e K ex ⟨fr', [], h'⟩ := by
  unfold loopK0 at hk
  split at hk
  · cases hk
  rename_i t q1 _
  split at hk
  · exact loopT_ok hC hlf' B S hk
  · rename_i n _
    cases hb : Nat.ble t.un 1000000 <;> rw [hb] at hk <;> simp only [cond_true, cond_false] at hk
    · exact loopT_ok hC hlf' B S hk
    · exact unroll_ok B (by have := Nat.le_of_ble_eq_true hb; omega) (Le.refl _ _) (Nat.le_refl _) S hk
theorem BodyOk.mono {C : Cfg} {h0 : H0} {ccall : Caller} {ro : Option Nat} {lf sz : Nat} {c : Code} {X : List Dfr} {n0 n1 : Nat} {e0 e1 : Env} {body : Body} (B : BodyOk C h0 ccall ro lf sz c X n0 e0 body) (hl : Le n0 e0 e1) (hn : n0 ≤ n1) : BodyOk C h0 ccall ro lf sz c X n1 e1 body :=
  fun {_ _ _ _ _ _ _} l1 l2 S hk => B (hl.trans l1 hn) (Nat.le_trans hn l2) S hk
theorem loop_ok {C : Cfg} (hC : CfgOk C) {h0 : H0} {ccall : Caller} {ro : Option Nat} {lf sz : Nat} (hlf : 100000000000000000000 < lf) {c : Code} {X : List Dfr} {body : Body} {A : AS} {fr : List (Nat × V)} {h : Hp} {e : Env} (B : BodyOk C h0 ccall ro lf sz c X A.n e body) {K : Kx} {q q' : HS} (S : Sat h0 A ⟨fr, [], h⟩ e) (hk : loopK C c body A K q = some q') :
    ∃ ex fr' h', iter lf (runC C.tb ccall ro lf sz c) ⟨fr, X, h⟩ = some (ex, ⟨fr', X, h'⟩) ∧ Rx h0 A e K ex ⟨fr', [], h'⟩ := by
  unfold loopK at hk
  split at hk
  · cases hk
  · exact loop0_ok hC (by omega) B S hk
  · obtain ⟨ex, fr1, h1, r1, A1, e1, q1, q2, k1, l1, n1, S1⟩ := B (Le.refl _ _) (Nat.le_refl _) S hk
    obtain ⟨lf', hlf'⟩ : ∃ lf', lf = lf' + 1 := ⟨lf - 1, by omega⟩
    cases ex with
    | normal =>
      simp only at k1
      obtain ⟨ex2, fr2, h2, r2, r3⟩ := loop0_ok hC (lf' := lf') (by omega) (B.mono l1 n1) S1 k1
      exact ⟨ex2, fr2, h2, by rw [show iter lf = iter (lf' + 1) by rw [hlf']]; simp only [iter, r1, r2], Rc.step l1 n1 r3⟩
    | _ => exact ⟨_, fr1, h1, by rw [show iter lf = iter (lf' + 1) by rw [hlf']]; simp only [iter, r1], A1, e1, q1, q2, k1, l1, n1, S1⟩
def isBr : Code → Bool
  | .cond .. => true
  | .block .. => true
  | .seq _ b => isBr b
  | _ => false
def eqNs : List Nat → List Nat → Bool
  | [], [] => true
  | a :: r, b :: s => Nat.beq a b && eqNs r s
  | _, _ => false
theorem eqNs_eq : ∀ {a b : List Nat}, eqNs a b = true → a = b
  | [], [], _ => rfl
  | a :: r, b :: s, h => by
    simp only [eqNs, Bool.and_eq_true] at h
    rw [nb h.1, eqNs_eq h.2]
  | [], _ :: _, h => by simp [eqNs] at h
  | _ :: _, [], h => by simp [eqNs] at h
def cols (e : Env) (D : List Nat) : List Dfr := D.map fun β => .col (e.b β)
theorem cols_agr {n : Nat} {e e' : Env} (ha : Agr n e e') {D : List Nat} (hD : ∀ β ∈ D, β < n) : cols e' D = cols e D := List.map_congr_left fun β hb => by rw [ha.b β (hD β hb)]
theorem subC_nil (c : Code) : subC c [] = some c := by cases c <;> rfl
theorem subC_app : ∀ {p : List Bool} {c c1 : Code} {q : List Bool}, subC c p = some c1 → subC c (p ++ q) = subC c1 q
  | [], c, c1, q, h => by
    have : c1 = c := by cases c <;> simp [subC] at h <;> exact h.symm
    subst this; rfl
  | x :: p, c, c1, q, h => by
    cases c with
    | seq a b => cases x <;> exact subC_app (p := p) h
    | cond o a b => cases x <;> exact subC_app (p := p) h
    | block i b => exact subC_app (p := p) h
    | loop b => exact subC_app (p := p) h
    | scope b => exact subC_app (p := p) h
    | rangeFunc o ps a b => cases x <;> exact subC_app (p := p) h
    | _ => cases h
theorem codeAt_app {fc : Nat → Option Func} {f : Nat} {p q : List Bool} {c c1 : Code} (h : codeAt fc f p = some c) (h1 : subC c q = some c1) : codeAt fc f (p ++ q) = some c1 := by
  unfold codeAt at h ⊢
  cases hf : fc f with
  | none => rw [hf] at h; cases h
  | some fn =>
    rw [hf] at h
    simp only at h ⊢
    cases hb : fn.body with
    | none => rw [hb] at h; cases h
    | some c0 =>
      rw [hb] at h
      simp only at h ⊢
      rw [subC_app h]; exact h1
abbrev KxD := Ex → List Nat → AS → HS → Option HS
def exOf : Nat → Ex
  | 0 => .normal
  | 1 => .ret
  | n => match n % 2 with
    | 0 => .exit (n / 2 - 1)
    | _ => .goto (n / 2 - 1)
def rangeK (C : Cfg) (call : ACall) (sz f : Nat) (p : List Bool) (fo : Operand) (D : List Nat) (A : AS) (K : KxD) (hs : HS) : Option HS :=
  match evA A.fr fo with
  | some (.f (.func g) first cap) => call (.it g) (first ++ [.x (A.n + 1)] ++ cap) { A with n := A.n + 2, H := (A.n + 1, .lp 0 0 sz A.fr f p) :: (A.n, .df) :: A.H, L := [] } (fun A2 _ hs => match look A2.H (A.n + 1) with
    | some (.lp st pd _ _ _ _) => bif Nat.beq st 1 then none else K (exOf pd) (A.n :: D) { A2 with fr := A.fr, H := delH (A.n + 1) A2.H, L := [] } hs
    | _ => none) hs
  | _ => none
theorem runOps_one {tb : Nat → Option TI} {call : Caller} {ro : Option Nat} {sz : Nat} {ops : Array Oper} {o : Oper} {r : List Oper} {s s1 : St} (h : runOps tb call ro sz ops [o] s = some (.normal, s1)) : runOps tb call ro sz ops (o :: r) s = runOps tb call ro sz ops r s1 := by
  simp only [runOps] at h ⊢
  split at h
  · cases h
  · rename_i hw
    split at h <;> first | (cases h; done) | skip
    rename_i fr hp
    cases h
    simp only [hw, hp]
  · rename_i hw
    split at h
    · rename_i s' hp
      cases h
      simp only [hw, hp]
    · rename_i hne
      exact absurd h (hne _)
def isCall (o : Oper) : Bool := match o.guard with
  | none => (match o.op with
    | .call _ => true
    | _ => false)
  | _ => false
def exOpsJ (C : Cfg) (call : ACall) (sz : Nat) (ops : Array Oper) : List Oper → AS → Kq → HS → Option HS
  | [], A, K, hs => K A hs
  | o :: r, A, K, hs => match (match isCall o with | true => C.ct (.region 0 #[o] false) (fun A hs => exOps C call sz ops [o] A (fun A' hs => some (.back A' :: hs)) hs) A hs | false => some (0, hs)) with
    | none => none
    | some (0, hs) => exOps C call sz ops [o] A (fun A hs => exOpsJ C call sz ops r A K hs) hs
    | some (_, hs) => (match C.tm none (fun A hs => exOps C call sz ops [o] A (fun A' hs => some (.back A' :: hs)) hs) A hs with
      | none => none
      | some (t, hs) => bif Nat.ble A.n t.n then (match exOps C call sz ops [o] A (fun A' hs => meetK C A (liveT A t) (fun _ _ hs => some hs) A' hs) hs with
          | none => none
          | some hs => exOpsJ C call sz ops r (tmA A (liveT A t)) K hs) else none)
theorem exOpsJ_ok {C : Cfg} (hC : CfgOk C) {h0 : H0} {ccall : Caller} {call : ACall} (hcall : ACallOk h0 ccall call) {sz : Nat} {ops : Array Oper} : ∀ {l : List Oper} {A : AS} {fr : List (Nat × V)} {h : Hp} {e : Env} {K : Kq} {q q' : HS}, Sat h0 A ⟨fr, [], h⟩ e → exOpsJ C call sz ops l A K q = some q' →
    ∃ s', runOps C.tb ccall none sz ops l ⟨fr, [], h⟩ = some (.normal, s') ∧ Rc h0 A e K s' := by
  intro l
  induction l with
  | nil => intro A fr h e K q q' S hk; exact ⟨_, rfl, A, e, q, q', hk, Le.refl _ _, Nat.le_refl _, S⟩
  | cons o r ih =>
    intro A fr h e K q q' S hk
    simp only [exOpsJ] at hk
    split at hk
    · cases hk
    · obtain ⟨s1, r1, A1, e1, q1, q2, k1, l1, n1, S1⟩ := exOps_ok hC hcall S hk
      have hd := S1.ds
      obtain ⟨fr1, ds1, h1⟩ := s1
      simp only at hd; subst hd
      obtain ⟨s2, r2, R2⟩ := ih S1 k1
      exact ⟨s2, by rw [runOps_one r1]; exact r2, Rc.step l1 n1 R2⟩
    · split at hk
      · cases hk
      rename_i t0 q0 _
      cases hb : Nat.ble A.n t0.n <;> rw [hb] at hk <;> simp only [cond_true, cond_false] at hk
      · cases hk
      have hnt : A.n ≤ (liveT A t0).n := Nat.le_of_ble_eq_true hb
      generalize liveT A t0 = t at hk hnt
      split at hk
      · cases hk
      rename_i q3 h3
      obtain ⟨s1, r1, A1, e1, q1, q2, k1, l1, n1, S1⟩ := exOps_ok hC hcall S h3
      have hd := S1.ds
      obtain ⟨fr1, ds1, h1⟩ := s1
      simp only at hd; subst hd
      obtain ⟨A3, l3, q7, q8, k3, S3, M3, Sb3, n3⟩ := meetK_ok hC S S1 l1 k1
      have hl3 : Le A.n e (e1.sb A.n l3) := l1.sb l3
      obtain ⟨s2, r2, R2⟩ := ih M3 hk
      exact ⟨s2, by rw [runOps_one r1]; exact r2, Rc.step hl3 hnt R2⟩
def exC (C : Cfg) (call : ACall) (sz f : Nat) (rnd : Bool) : List Bool → Code → List Nat → AS → KxD → HS → Option HS
  | _, .skip, D, A, K, hs => K .normal D A hs
  | _, .label _, D, A, K, hs => K .normal D A hs
  | _, .region _ ops false, D, A, K, hs => exOpsJ C call sz ops ops.toList A (K .normal D) hs
  | _, .region _ ops true, D, A, K, hs => (match planA ops with
    | some pl => exPlan C call sz ops.toList pl [] [] A (K .normal D) hs
    | none => none)
  | p, .seq a b, D, A, K, hs => (match (match isBr a with | true => C.ct a (fun A hs => exC C call sz f rnd (p ++ [false]) a D A (fun ex _ A' hs => (match ex with | .normal => some (.back A' :: hs) | _ => some hs)) hs) A hs | false => some (0, hs)) with
    | none => none
    | some (0, hs) => exC C call sz f rnd (p ++ [false]) a D A (fun ex D A hs => match ex with
      | .normal => exC C call sz f rnd (p ++ [true]) b D A K hs
      | ex => K ex D A hs) hs
    | some (_, hs) => (match C.tm none (fun A hs => exC C call sz f rnd (p ++ [false]) a D A (fun ex _ A' hs => match ex with
        | .normal => some (.back A' :: hs)
        | _ => some hs) hs) A hs with
      | none => none
      | some (t, hs) => bif Nat.ble A.n t.n then (match exC C call sz f rnd (p ++ [false]) a D A (fun ex D' A' hs => match ex with
          | .normal => bif eqNs D' D then meetK C A (liveT A t) (fun _ _ hs => some hs) A' hs else none
          | ex => K ex D' A' hs) hs with
        | none => none
        | some hs => exC C call sz f rnd (p ++ [true]) b D (tmA A (liveT A t)) K hs) else none))
  | p, .cond c a b, D, A, K, hs => (match evA A.fr c with
    | some (.b cn) => branchC C A cn (fun t A hs => match t with
      | true => exC C call sz f rnd (p ++ [false]) a D A K hs
      | false => exC C call sz f rnd (p ++ [true]) b D A K hs) hs
    | _ => none)
  | p, .block id c, D, A, K, hs => exC C call sz f rnd (p ++ [false]) c D A (fun ex D A hs => match ex with
    | .exit i => bif Nat.beq i id then K .normal D A hs else K (.exit i) D A hs
    | ex => K ex D A hs) hs
  | p, .loop c, D, A, K, hs => loopK C c (fun A K hs => exC C call sz f rnd (p ++ [false]) c D A (fun ex D' A hs => bif eqNs D' D then K ex A hs else none) hs) A (fun ex A hs => K ex D A hs) hs
  | p, .scope c, D, A, K, hs => exC C call sz f rnd (p ++ [false]) c D A (fun ex D A hs => match ex with
    | .goto _ => none
    | ex => K ex D A hs) hs
  | _, .exit id, D, A, K, hs => K (.exit id) D A hs
  | _, .ret, D, A, K, hs => K .ret D A hs
  | _, .goto l, D, A, K, hs => K (.goto l) D A hs
  | p, .rangeFunc fo _ _ _, D, A, K, hs => (match rnd with
    | true => none
    | false => rangeK C call sz f p fo D A K hs)
  | _, .refuse _, _, _, _, _ => none
end Go.Mx.Az

namespace Go.Mx.Az
def CodeOk (C : Cfg) (h0 : H0) (ccall : Caller) (ro : Option Nat) (lf sz : Nat) (c : Code) (x : List Nat → AS → KxD → HS → Option HS) : Prop := ∀ {D : List Nat} {A : AS} {fr : List (Nat × V)} {h : Hp} {e : Env} {K : KxD} {q q' : HS}, Sat h0 A ⟨fr, [], h⟩ e → (∀ β ∈ D, β < A.n) → x D A K q = some q' →
  ∃ ex fr' h' D' A' e' q1 q2, runC C.tb ccall ro lf sz c ⟨fr, cols e D, h⟩ = some (ex, ⟨fr', cols e' D', h'⟩) ∧ K ex D' A' q1 = some q2 ∧ Le A.n e e' ∧ A.n ≤ A'.n ∧ Sat h0 A' ⟨fr', [], h'⟩ e' ∧ ∀ β ∈ D', β < A'.n
theorem exC_ok {C : Cfg} (hC : CfgOk C) {h0 : H0} {ccall : Caller} {call : ACall} (hcall : ACallOk h0 ccall call) {lf sz f : Nat} {rnd : Bool} {ro : Option Nat} (hlf : 100000000000000000000 < lf)
    (hrange : ∀ {p : List Bool} {fo : Operand} {ps : Array Tmp} {as c : Code}, codeAt h0.fc f p = some (.rangeFunc fo ps as c) → rnd = false → CodeOk C h0 ccall ro lf sz (.rangeFunc fo ps as c) (rangeK C call sz f p fo)) : ∀ (c : Code) {p : List Bool}, codeAt h0.fc f p = some c → CodeOk C h0 ccall ro lf sz c (exC C call sz f rnd p c) := by
  intro c
  induction c with
  | skip => intro p _ D A fr h e K q q' S hD hk; exact ⟨_, _, _, D, A, e, q, q', rfl, hk, Le.refl _ _, Nat.le_refl _, S, hD⟩
  | label l => intro p _ D A fr h e K q q' S hD hk; exact ⟨_, _, _, D, A, e, q, q', rfl, hk, Le.refl _ _, Nat.le_refl _, S, hD⟩
  | exit l => intro p _ D A fr h e K q q' S hD hk; exact ⟨_, _, _, D, A, e, q, q', rfl, hk, Le.refl _ _, Nat.le_refl _, S, hD⟩
  | ret => intro p _ D A fr h e K q q' S hD hk; exact ⟨_, _, _, D, A, e, q, q', rfl, hk, Le.refl _ _, Nat.le_refl _, S, hD⟩
  | goto l => intro p _ D A fr h e K q q' S hD hk; exact ⟨_, _, _, D, A, e, q, q', rfl, hk, Le.refl _ _, Nat.le_refl _, S, hD⟩
  | refuse y => intro p _ D A fr h e K q q' S hD hk; simp [exC] at hk
  | rangeFunc fo ps as c _ _ =>
    intro p hp D A fr h e K q q' S hD hk
    simp only [exC] at hk
    cases hr : rnd <;> rw [hr] at hk <;> simp only at hk
    · exact hrange hp hr S hD hk
    · cases hk
  | region id ops draw =>
    intro p _ D A fr h e K q q' S hD hk
    cases draw with
    | false =>
      simp only [exC] at hk
      obtain ⟨s', r1, A1, e1, q1, q2, k1, l1, n1, S1⟩ := exOpsJ_ok hC hcall S hk
      rcases s' with ⟨fr', ds, h'⟩
      have := S1.ds; simp only at this; subst this
      exact ⟨_, fr', h', D, A1, e1, q1, q2, by simp only [runC]; rw [runOps_lift r1, cols_agr l1.agr hD], k1, l1, n1, S1, fun β hβ => Nat.lt_of_lt_of_le (hD β hβ) n1⟩
    | true =>
      simp only [exC] at hk
      split at hk <;> first | (cases hk; done) | skip
      rename_i pl hpl
      obtain ⟨s', r1, A1, e1, q1, q2, k1, l1, n1, S1⟩ := exPlan_ok hC hcall (dsts := ops.toList.zipIdx.filterMap fun p => p.1.dst) S (fun _ _ => ⟨rfl, fun _ h => (List.not_mem_nil h).elim⟩) (fun _ _ => ⟨rfl, fun _ h => (List.not_mem_nil h).elim⟩) hk
      rcases s' with ⟨fr', ds, h'⟩
      have := S1.ds; simp only at this; subst this
      refine ⟨_, fr', h', D, A1, e1, q1, q2, ?_, k1, l1, n1, S1, fun β hβ => Nat.lt_of_lt_of_le (hD β hβ) n1⟩
      simp only [runC]
      rw [cols_agr l1.agr hD]
      refine drawA_lift ?_
      rw [drawA_plan hpl]; exact r1
  | seq a b iha ihb =>
    intro p hp D A fr h e K q q' S hD hk
    have hpa := codeAt_app (q := [false]) (c1 := a) hp (subC_nil a)
    have hpb := codeAt_app (q := [true]) (c1 := b) hp (subC_nil b)
    simp only [exC] at hk
    split at hk
    · cases hk
    · rename_i q0 _
      obtain ⟨ex, fr1, h1, D1, A1, e1, q1, q2, r1, k1, l1, n1, S1, hD1⟩ := iha hpa S hD hk
      cases ex with
      | normal =>
        simp only at k1
        obtain ⟨ex2, fr2, h2, D2, A2, e2, q3, q4, r2, k2, l2, n2, S2, hD2⟩ := ihb hpb S1 hD1 k1
        exact ⟨ex2, fr2, h2, D2, A2, e2, q3, q4, by simp only [runC, r1, r2], k2, l1.trans l2 n1, Nat.le_trans n1 n2, S2, hD2⟩
      | _ => exact ⟨_, fr1, h1, D1, A1, e1, q1, q2, by simp only [runC, r1], k1, l1, n1, S1, hD1⟩
    · split at hk
      · cases hk
      rename_i t0 q0 _
      cases hb : Nat.ble A.n t0.n <;> rw [hb] at hk <;> simp only [cond_true, cond_false] at hk
      · cases hk
      have hnt : A.n ≤ (liveT A t0).n := Nat.le_of_ble_eq_true hb
      generalize liveT A t0 = t at hk hnt
      split at hk
      · cases hk
      rename_i q3 h3
      obtain ⟨ex, fr1, h1, D1, A1, e1, q1, q2, r1, k1, l1, n1, S1, hD1⟩ := iha hpa S hD h3
      cases ex with
      | normal =>
        simp only at k1
        cases hq : eqNs D1 D <;> rw [hq] at k1 <;> simp only [cond_true, cond_false] at k1
        · cases k1
        have := eqNs_eq hq; subst this
        obtain ⟨A3, l3, q7, q8, k3, S3, M3, Sb3, n3⟩ := meetK_ok hC S S1 l1 k1
        have hl3 : Le A.n e (e1.sb A.n l3) := l1.sb l3
        obtain ⟨ex2, fr2, h2, D2, A2, e2, q9, q10, r2, k2, l2, n2, S2, hD2⟩ := ihb hpb M3 (fun β hβ => Nat.lt_of_lt_of_le (hD β hβ) hnt) hk
        have hc : cols e1 D1 = cols (e1.sb A.n l3) D1 := by rw [cols_agr hl3.agr hD, cols_agr l1.agr hD]
        rw [hc] at r1
        exact ⟨ex2, fr2, h2, D2, A2, e2, q9, q10, by simp only [runC, r1, r2], k2, hl3.trans l2 hnt, Nat.le_trans hnt n2, S2, hD2⟩
      | _ => exact ⟨_, fr1, h1, D1, A1, e1, q1, q2, by simp only [runC, r1], k1, l1, n1, S1, hD1⟩
  | cond c a b iha ihb =>
    intro p hp D A fr h e K q q' S hD hk
    have hpa := codeAt_app (q := [false]) (c1 := a) hp (subC_nil a)
    have hpb := codeAt_app (q := [true]) (c1 := b) hp (subC_nil b)
    simp only [exC] at hk
    split at hk <;> first | (cases hk; done) | skip
    rename_i cn hc
    have E := evA_ok S
    have hce := E e (Agr.refl _ _) _ _ hc
    obtain ⟨A1, q1, q2, k1, S1, M1⟩ := branchC_ok hC S (t := cn.den e.i) (fun e' ha _ _ => by
      have h1 := E e' ha _ _ hc; rw [hce] at h1; simpa [AV.den] using h1.symm) hk
    simp only [AV.den] at hce
    have hD1 : ∀ β ∈ D, β < A1.n := fun β hβ => by rw [M1.n]; exact hD β hβ
    cases ht : cn.den e.i <;> rw [ht] at k1 hce <;> simp only at k1
    · obtain ⟨ex, fr1, h1, D2, A2, e2, q3, q4, r1, k2, l2, n2, S2, hD2⟩ := ihb hpb S1 hD1 k1
      exact ⟨ex, fr1, h1, D2, A2, e2, q3, q4, by simp only [runC, hce, r1], k2, by rw [← M1.n]; exact l2, by rw [← M1.n]; exact n2, S2, hD2⟩
    · obtain ⟨ex, fr1, h1, D2, A2, e2, q3, q4, r1, k2, l2, n2, S2, hD2⟩ := iha hpa S1 hD1 k1
      exact ⟨ex, fr1, h1, D2, A2, e2, q3, q4, by simp only [runC, hce, r1], k2, by rw [← M1.n]; exact l2, by rw [← M1.n]; exact n2, S2, hD2⟩
  | block id c ih =>
    intro p hp D A fr h e K q q' S hD hk
    have hpa := codeAt_app (q := [false]) (c1 := c) hp (subC_nil c)
    simp only [exC] at hk
    obtain ⟨ex, fr1, h1, D1, A1, e1, q1, q2, r1, k1, l1, n1, S1, hD1⟩ := ih hpa S hD hk
    cases ex with
    | exit i =>
      simp only at k1
      cases hi : Nat.beq i id <;> rw [hi] at k1 <;> simp only [cond_true, cond_false] at k1
      · have hne : i ≠ id := fun x => by rw [x] at hi; simp at hi
        exact ⟨.exit i, fr1, h1, D1, A1, e1, q1, q2, by simp only [runC, r1, if_neg hne], k1, l1, n1, S1, hD1⟩
      · have := nb hi; subst this
        exact ⟨.normal, fr1, h1, D1, A1, e1, q1, q2, by simp only [runC, r1, if_true], k1, l1, n1, S1, hD1⟩
    | _ => exact ⟨_, fr1, h1, D1, A1, e1, q1, q2, by simp only [runC, r1], k1, l1, n1, S1, hD1⟩
  | loop c ih =>
    intro p hp D A fr h e K q q' S hD hk
    have hpa := codeAt_app (q := [false]) (c1 := c) hp (subC_nil c)
    simp only [exC] at hk
    have B : BodyOk C h0 ccall ro lf sz c (cols e D) A.n e (fun A K hs => exC C call sz f rnd (p ++ [false]) c D A (fun ex D' A hs => bif eqNs D' D then K ex A hs else none) hs) := by
      intro A1 fr1 h1 e1 K1 q1 q2 b1 b2 S1 k1
      have hD1 : ∀ β ∈ D, β < A1.n := fun β hβ => Nat.lt_of_lt_of_le (hD β hβ) b2
      obtain ⟨ex, fr2, h2, D2, A2, e2, q3, q4, r2, k2, l2, n2, S2, hD2⟩ := ih hpa S1 hD1 k1
      cases hq : eqNs D2 D <;> rw [hq] at k2 <;> simp only [cond_true, cond_false] at k2
      · cases k2
      have := eqNs_eq hq; subst this
      rw [cols_agr l2.agr hD1, cols_agr b1.agr hD] at r2
      exact ⟨ex, fr2, h2, r2, A2, e2, q3, q4, k2, l2, n2, S2⟩
    obtain ⟨ex, fr1, h1, r1, A1, e1, q1, q2, k1, l1, n1, S1⟩ := loop_ok hC hlf B S hk
    exact ⟨ex, fr1, h1, D, A1, e1, q1, q2, by simp only [runC]; rw [r1, cols_agr l1.agr hD], k1, l1, n1, S1, fun β hβ => Nat.lt_of_lt_of_le (hD β hβ) n1⟩
  | scope c ih =>
    intro p hp D A fr h e K q q' S hD hk
    have hpa := codeAt_app (q := [false]) (c1 := c) hp (subC_nil c)
    simp only [exC] at hk
    obtain ⟨ex, fr1, h1, D1, A1, e1, q1, q2, r1, k1, l1, n1, S1, hD1⟩ := ih hpa S hD hk
    cases ex with
    | goto l => simp only at k1; cases k1
    | _ => exact ⟨_, fr1, h1, D1, A1, e1, q1, q2, by simp only [runC, r1], k1, l1, n1, S1, hD1⟩
end Go.Mx.Az

namespace Go.Mx.Az
theorem Sat.newV {h0 : H0} {A : AS} {fr : List (Nat × V)} {h : Hp} {e : Env} (S : Sat h0 A ⟨fr, [], h⟩ e) (ob : Ob) (v : V) (hv : vbeq v v = true) {k : HB}
    (hk : ∀ e', Agr A.n e e' → e'.G = e.G → e'.b A.n = h.n → e'.v A.n = v → SatH h0 A h e' → HbOk h0 (h.push ob) e' A.n k) : Sat h0 (A.newB k fun _ => []) ⟨fr, [], h.push ob⟩ (e.set A.n 0 v h.n 0 none) := by
  refine ⟨rfl, (S.fresh 0 v h.n 0 none hv).vb, fun e' ha hg => ?_⟩
  have h1 : Agr A.n e e' := (e.set_agr A.n 0 v h.n 0 none).trans ha (Nat.le_succ _)
  have hb : e'.b A.n = h.n := by rw [ha.b _ (Nat.lt_succ_self _)]; simp [Env.set]
  have hvv : e'.v A.n = v := by rw [ha.v _ (Nat.lt_succ_self _)]; simp [Env.set]
  obtain ⟨a1, a2⟩ := S.all e' h1 hg
  exact ⟨((a1.n (Nat.succ_pos _)).addF (FOk.nil _)).push hb (hk e' h1 hg hb hvv a1), a2⟩
theorem back_ok {pd st : Nat} {L : Nat} {fr fr' : List (Nat × V)} {ds : List Dfr} {h3 : Hp} {v : V} {sz : Nat} {ps : List Nat} {as c : Code} {Dn : Nat} (hg : h3.get L = some (.oth (.loop (stOf st) (pdOf pd) sz fr' ps as c Dn))) (hs : st ≠ 1) :
    backRange L fr ds (some (.ret v, h3)) = some (exOf pd, ⟨fr, ds, h3.set L (.oth (.loop .exhausted (pdOf pd) sz fr' ps as c Dn))⟩) := by
  have hb : stOf st ≠ .busy := by
    match st, hs with
    | 0, _ => simp [stOf]
    | 1, h => exact absurd rfl h
    | n + 2, _ => simp [stOf]
  simp only [backRange, hg]
  cases hst : stOf st with
  | busy => exact absurd hst hb
  | _ =>
    (try simp only)
    match pd with
    | 0 => rfl
    | 1 => rfl
    | n + 2 =>
      have : (n + 2) % 2 = 0 ∨ (n + 2) % 2 = 1 := by omega
      rcases this with h | h <;> simp only [pdOf, exOf, h]
theorem rangeK_ok {C : Cfg} {h0 : H0} {ccall : Caller} {call : ACall} (hcall : ACallOk h0 ccall call) {lf sz f : Nat} {p : List Bool} {fo : Operand} {ps : Array Tmp} {as c : Code} (hp : codeAt h0.fc f p = some (.rangeFunc fo ps as c)) : CodeOk C h0 ccall none lf sz (.rangeFunc fo ps as c) (rangeK C call sz f p fo) := by
  intro D A fr h e K q q' S hD hk
  unfold rangeK at hk
  split at hk <;> first | (cases hk; done) | skip
  rename_i g first cap hf
  have E := evA_ok S
  have hfe := E e (Agr.refl _ _) _ _ hf
  simp only [AV.den] at hfe
  have S1 := S.newV (.oth (.dfr true)) .nilp rfl (k := .df) fun e' ha hg hb _ a1 => ⟨by rw [hb]; simp, by rw [hb]; exact a1.ext.n, by rw [hb]; exact a1.freeG, by rw [hb]; exact Hp.get_push_self _ _⟩
  have S2 := S1.newV (.oth (.loop .ready none sz fr ps.toList as c h.n)) (.y (h.n + 1)) (by simp [vbeq]) (k := .lp 0 0 sz A.fr f p) fun e' ha hg hb hv a1 => by
    refine ⟨by rw [hb]; simp, by rw [hb]; exact a1.ext.n, by rw [hb]; exact a1.freeG, by rw [hb, hv]; simp, fo, ps, as, c, h.n, fr, hp, by rw [hb]; exact Hp.get_push_self _ _, ?_⟩
    exact S.fr e' ((e.set_agr _ _ _ _ _ _).trans ha (Nat.le_succ _))
  have ag : Agr A.n e ((e.set A.n 0 .nilp h.n 0 none).set (A.n + 1) 0 (.y (h.n + 1)) (h.n + 1) 0 none) := (e.set_agr _ _ _ _ _ _).trans (Env.set_agr _ _ _ _ _ _ _) (Nat.le_succ _)
  obtain ⟨e2, he2⟩ : ∃ e2, (e.set A.n 0 .nilp h.n 0 none).set (A.n + 1) 0 (.y (h.n + 1)) (h.n + 1) 0 none = e2 := ⟨_, rfl⟩
  have b0 : e2.b A.n = h.n := by rw [← he2]; simp [Env.set]
  have b1 : e2.b (A.n + 1) = h.n + 1 := by rw [← he2]; simp [Env.set]
  have v1 : e2.v (A.n + 1) = .y (h.n + 1) := by rw [← he2]; simp [Env.set]
  have S2' : Sat h0 { A with n := A.n + 2, H := (A.n + 1, .lp 0 0 sz A.fr f p) :: (A.n, .df) :: A.H, L := [] } ⟨fr, [], (h.push (.oth (.dfr true))).push (.oth (.loop .ready none sz fr ps.toList as c h.n))⟩ e2 := by rw [← he2]; exact S2
  rw [he2] at ag
  have le2 : Le A.n e e2 := ⟨ag, by rw [← he2]; exact fun _ _ h => h⟩
  obtain ⟨v, h3, r1, a3, A3, e3, q1, q2, k1, l3, n3, S3⟩ := hcall S2' (vs := AVs.den e first ++ [V.y (h.n + 1)] ++ AVs.den e cap) (fun e' ha => by
    have h3 := E e' (ag.trans ha (by simp only; omega)) _ _ hf
    rw [hfe] at h3
    simp only [AV.den, Option.some.injEq, V.f.injEq, true_and] at h3
    rw [AVs.append, AVs.append, ← h3.1, ← h3.2]
    simp only [AVs.den, AV.den]
    rw [ha.v _ (by simp only; omega), v1]) hk
  simp only [ATg.to] at r1
  have n3' : A.n + 2 ≤ A3.n := n3
  simp only at k1
  split at k1 <;> first | (cases k1; done) | skip
  rename_i st pd sz' frl fl pl hlk
  cases hst : Nat.beq st 1 <;> rw [hst] at k1 <;> simp only [cond_true, cond_false] at k1
  · have hst' : st ≠ 1 := fun x => by subst x; simp at hst
    have l3' : Le A.n e e3 := le2.trans l3 (by simp only; omega)
    have b3 : e3.b (A.n + 1) = h.n + 1 := by rw [l3.agr.b _ (by simp only; omega)]; exact b1
    have b4 : e3.b A.n = h.n := by rw [l3.agr.b _ (by simp only; omega)]; exact b0
    obtain ⟨_, _, _, _, op, ps', as', c', Dn, fr', _, g3, _⟩ := S3.s.here.1.ent _ (look_in hlk)
    simp only at g3
    rw [b3] at g3
    refine ⟨exOf pd, fr, h3.set (h.n + 1) (.oth (.loop .exhausted (pdOf pd) sz' fr' ps'.toList as' c' Dn)), A.n :: D, { A3 with fr := A.fr, H := delH (A.n + 1) A3.H, L := [] }, e3, q1, q2, ?_, k1, l3', (show A.n ≤ A3.n by omega), ⟨rfl, S3.s.vb, fun e' ha hg => ?_⟩, fun β hβ => ?_⟩
    · simp only [runC, rangeA, hfe]
      rw [show (h.push (.oth (.dfr true))).n = h.n + 1 by simp, r1, back_ok g3 hst']
      simp only [cols, List.map_cons, b4]
      have := cols_agr l3'.agr hD
      simp only [cols] at this
      rw [this]
    · obtain ⟨x1, _⟩ := S3.s.all e' ha hg
      refine ⟨?_, S.fr e' (l3'.agr.trans ha (by simp only; omega))⟩
      have hb' : e'.b (A.n + 1) = h.n + 1 := by rw [ha.b _ (by simp only; omega)]; exact b3
      have := (x1.kill hlk trivial (.oth (.loop .exhausted (pdOf pd) sz' fr' ps'.toList as' c' Dn))).setFr A.fr
      rw [hb'] at this
      exact this
    · rcases List.mem_cons.1 hβ with rfl | hβ
      · simp only; omega
      · have := hD β hβ; simp only; omega
  · cases k1
end Go.Mx.Az

namespace Go.Mx.Az
def putsA (sz : Nat) : List (Nat × AV) → List Nat → List AV → Option (List (Nat × AV))
  | fr, [], [] => some fr
  | fr, t :: ts, v :: vs => bif Nat.blt t sz then putsA sz ((t, v) :: fr) ts vs else none
  | _, _, _ => none
theorem putsA_ok {sz : Nat} : ∀ {ts : List Nat} {as : List AV} {fa fb : List (Nat × AV)} {fv : List (Nat × V)} {vs : List V}, putsA sz fa ts as = some fb → vs.length = as.length →
    ∃ fv', putsF sz fv ts vs = some fv' ∧ ∀ e : Env, FrOk fa fv e → AVs.den e as = vs → FrOk fb fv' e
  | [], [], fa, fb, fv, [], h, _ => by simp only [putsA, Option.some.injEq] at h; subst h; exact ⟨fv, rfl, fun e h _ => h⟩
  | t :: ts, a :: as, fa, fb, fv, v :: vs, h, hl => by
    simp only [putsA] at h
    cases hb : Nat.blt t sz <;> rw [hb] at h <;> simp only [cond_true, cond_false] at h
    · cases h
    have hlt : t < sz := Nat.le_of_ble_eq_true hb
    obtain ⟨fv', r1, r2⟩ := putsA_ok (fv := (t, v) :: fv) (vs := vs) h (by simpa using hl)
    refine ⟨fv', by simp only [putsF, if_pos hlt]; exact r1, fun e he hv => ?_⟩
    simp only [AVs.den, List.cons.injEq] at hv
    refine r2 e (fun u x hx => ?_) hv.2
    simp only [look] at hx ⊢
    split at hx
    · rename_i hc; cases hx; rw [if_pos hc, hv.1]
    · rename_i hc; rw [if_neg hc]; exact he u x hx
  | [], _ :: _, _, _, _, _, h, _ => by simp [putsA] at h
  | _ :: _, [], _, _, _, _, h, _ => by simp [putsA] at h
  | [], [], _, _, _, _ :: _, _, hl => by simp at hl
  | _ :: _, _ :: _, _, _, _, [], _, hl => by simp at hl
def jpOf : Ex → Option Nat
  | .normal => some 0
  | .ret => some 1
  | .exit i => some (2 * i + 2)
  | .goto l => some (2 * l + 3)
  | .panic _ => none
theorem jp_ok {ex : Ex} {j : Nat} (h : jpOf ex = some j) : jumpOf ex = some (pdOf j) := by
  cases ex <;> simp only [jpOf, Option.some.injEq, reduceCtorEq] at h <;> subst h
  · rfl
  · rfl
  · rename_i i
    have h1 : (2 * i + 2) % 2 = 0 := by omega
    have h2 : (2 * i + 2) / 2 - 1 = i := by omega
    simp only [jumpOf, pdOf, h1, h2]
  · rename_i l
    have h1 : (2 * l + 3) % 2 = 1 := by omega
    have h2 : (2 * l + 3) / 2 - 1 = l := by omega
    simp only [jumpOf, pdOf, h1, h2]
def stJ : Nat → Nat
  | 0 => 0
  | _ => 2
def exY (C : Cfg) (call : ACall) (β : Nat) (as : List AV) (A : AS) (K : Ks) (hs : HS) : Option HS :=
  bif Nat.blt β A.n then (match look A.H β with
  | some (.lp 0 _ sz fr f p) => (match codeAt C.fc f p with
    | some (.rangeFunc _ ps sa sc) => (match putsA sz fr ps.toList as with
      | some fr1 => exC C call sz f true (p ++ [false]) sa [] { A with fr := fr1 } (fun ex D A1 hs => match ex, D with
        | .normal, [] => (match look A1.H β with
          | some (.lp 0 pd1 sz1 frl1 f1 p1) => exC C call sz f true (p ++ [true]) sc [] { A1 with H := (β, .lp 1 pd1 sz1 frl1 f1 p1) :: delH β A1.H, L := [] } (fun ex _ A2 hs => match jpOf ex, look A2.H β with
            | some j, some (.lp _ _ sz2 frl2 f2 p2) => K { A2 with fr := A.fr, H := (β, .lp (stJ j) j sz2 frl2 f2 p2) :: delH β A2.H, L := [] } (.b (.lit (Nat.beq j 0))) hs
            | _, _ => none) hs
          | _ => none)
        | _, _ => none) hs
      | none => none)
    | _ => none)
  | _ => none) else none
theorem Sat.lp {h0 : H0} {A : AS} {fr : List (Nat × V)} {h : Hp} {e : Env} (S : Sat h0 A ⟨fr, [], h⟩ e) {β st pd sz f : Nat} {frl : List (Nat × AV)} {p : List Bool} (hβ : β < A.n) (hl : look A.H β = some (.lp st pd sz frl f p)) :
    ∃ ps as c D frV, h.get (e.b β) = some (.oth (.loop (stOf st) (pdOf pd) sz frV ps as c D)) ∧ (∃ (op : Operand) (psa : Array Tmp), psa.toList = ps ∧ codeAt h0.fc f p = some (.rangeFunc op psa as c)) ∧ (∀ e', Agr A.n e e' → FrOk frl frV e') ∧
      ∀ st' pd', Sat h0 { A with H := (β, .lp st' pd' sz frl f p) :: delH β A.H, L := [] } ⟨fr, [], h.set (e.b β) (.oth (.loop (stOf st') (pdOf pd') sz frV ps as c D))⟩ e := by
  obtain ⟨g1, g2, g3, hv, op, ps, as, c, D, frV, g5, g6, g7⟩ := S.here.1.ent _ (look_in hl)
  simp only at g1 g2 g3 g6 hv
  have all : ∀ e', Agr A.n e e' → e'.G = e.G → SatH h0 A h e' → e'.b β = e.b β ∧ FrOk frl frV e' ∧ HbOk h0 h e' β (.lp st pd sz frl f p) := fun e' ha hg a1 => by
    have hb := ha.b β hβ
    have hx := a1.ent _ (look_in hl)
    obtain ⟨u1, u2, u3, uv, op2, ps2, as2, c2, D2, frV2, u5, u6, u7⟩ := hx
    simp only at u6
    rw [hb, g6] at u6
    simp only [Option.some.injEq, Ob.oth.injEq, Oth.loop.injEq, true_and] at u6
    obtain ⟨rfl, _⟩ := u6
    exact ⟨hb, u7, a1.ent _ (look_in hl)⟩
  refine ⟨ps.toList, as, c, D, frV, g6, ⟨op, ps, rfl, g5⟩, fun e' ha => ?_, fun st' pd' => ⟨rfl, S.vb, fun e' ha hg => ?_⟩⟩
  · have a1 := S.up ha
    have := (all { e' with G := e.G } ⟨ha.i, ha.v, ha.b, ha.o, ha.c, ha.s, ha.fc⟩ rfl a1).2.1
    exact fun t a hta => by rw [this t a hta, AV.den_G]
  · obtain ⟨a1, a2⟩ := S.all e' ha hg
    obtain ⟨hb, hf, u1, u2, u3, uv, _⟩ := all e' ha hg a1
    refine ⟨?_, a2⟩
    have := a1.write' (β1 := β) (k1 := .lp st' pd' sz frl f p) hl trivial rfl (.oth (.loop (stOf st') (pdOf pd') sz frV ps.toList as c D)) ⟨by simpa using u1, u2, u3, uv, op, ps, as, c, D, frV, g5, Hp.get_set_self _ _ _, hf⟩
    rw [hb] at this; exact this
theorem exY_ok {C : Cfg} (hC : CfgOk C) {h0 : H0} (hfc : h0.fc = C.fc) {ccall : Caller} {call : ACall} (hcall : ACallOk h0 ccall call) {lf : Nat} (hlf : 100000000000000000000 < lf) {β : Nat} {as : List AV} {A : AS} {K : Ks} {q q' : HS} {fr : List (Nat × V)} {h : Hp} {e : Env} {vs : List V} (S : Sat h0 A ⟨fr, [], h⟩ e) (has : ∀ e', Agr A.n e e' → AVs.den e' as = vs) (hk : exY C call β as A K q = some q') :
    ∃ v h', runY C.tb ccall lf (e.b β) vs h = some (.ret v, h') ∧ Out h0 A e K fr v h' := by
  unfold exY at hk
  cases hβ : Nat.blt β A.n <;> rw [hβ] at hk <;> simp only [cond_true, cond_false] at hk
  · cases hk
  have hβ : β < A.n := Nat.le_of_ble_eq_true hβ
  split at hk <;> first | (cases hk; done) | skip
  rename_i pd sz frl f p hlk
  obtain ⟨ps, sa0, sc0, D, frV, g6, ⟨op, psa, rfl, g5⟩, gf, _⟩ := S.lp hβ hlk
  split at hk <;> first | (cases hk; done) | skip
  rename_i op2 psb sa sc hcode
  rw [← hfc, g5] at hcode
  simp only [Option.some.injEq, Code.rangeFunc.injEq] at hcode
  obtain ⟨rfl, rfl, rfl, rfl⟩ := hcode
  split at hk <;> first | (cases hk; done) | skip
  rename_i fr1 hput
  have hvl : vs.length = as.length := by rw [← has e (Agr.refl _ _), AVs.length]
  obtain ⟨fv', r1, r2⟩ := putsA_ok (fv := frV) (vs := vs) hput hvl
  have S1 : Sat h0 { A with fr := fr1 } ⟨fv', [], h⟩ e := ⟨rfl, S.vb, fun e' ha hg => by
    obtain ⟨a1, _⟩ := S.all e' ha hg
    exact ⟨a1.setFr _, r2 e' (gf e' ha) (has e' ha)⟩⟩
  obtain ⟨ex, fr2, h2, D1, A1, e1, q1, q2, w1, k1, l1, n1, S2, hD1⟩ := exC_ok hC hcall hlf (f := f) (rnd := true) (ro := some (e.b β)) (fun _ h => by cases h) sa0 (codeAt_app (q := [false]) (c1 := sa0) g5 (subC_nil sa0)) S1 (fun β hβ => by simp at hβ) hk
  have l1' : Le A.n e e1 := l1
  have n1' : A.n ≤ A1.n := n1
  (try simp only at k1)
  split at k1 <;> first | (cases k1; done) | skip
  split at k1 <;> first | (cases k1; done) | skip
  rename_i pd1 sz1 frl1 f1 p1 hlk1
  obtain ⟨ps1, sa1, sc1, Dn1, frV1, x6, _, _, xs⟩ := S2.lp (by omega) hlk1
  have hb1 : e1.b β = e.b β := l1'.agr.b β hβ
  have S3 := xs 1 pd1
  obtain ⟨ex2, fr3, h3, D2, A2, e2, q3, q4, w2, k2, l2, n2, S4, hD2⟩ := exC_ok hC hcall hlf (f := f) (rnd := true) (ro := some (e.b β)) (fun _ h => by cases h) sc0 (codeAt_app (q := [true]) (c1 := sc0) g5 (subC_nil sc0)) S3 (fun β hβ => by simp at hβ) k1
  have n2' : A1.n ≤ A2.n := n2
  (try simp only at k2)
  split at k2 <;> first | (cases k2; done) | skip
  rename_i j st2 pd2 sz2 frl2 f2 p2 hj hlk2
  obtain ⟨ps2, sa2, sc2, Dn2, frV2, y6, _, _, ys⟩ := S4.lp (by omega) hlk2
  have l2' : Le A.n e e2 := l1'.trans l2 n1'
  have hb2 : e2.b β = e.b β := l2'.agr.b β hβ
  have S5 := ys (stJ j) j
  refine ⟨.b (Nat.beq j 0), h3.set (e.b β) (.oth (.loop (stOf (stJ j)) (pdOf j) sz2 frV2 ps2 sa2 sc2 Dn2)), ?_, _, _, e2, q3, q4, k2, l2', (show A.n ≤ A2.n by omega), ⟨⟨rfl, S5.vb, fun e' ha hg => ?_⟩, fun e' ha => by simp only [AV.den, Cnd.den]⟩⟩
  · have e0 : cols e [] = [] := rfl
    have e1' : cols e1 [] = [] := rfl
    rw [hb1] at x6 w2
    rw [hb2] at y6
    rw [e0, e1'] at w1
    rw [e1'] at w2
    simp only [stOf] at g6 x6 w2
    simp only [runY, g6, r1, w1, x6, w2, jp_ok hj, y6]
    cases j with
    | zero => rfl
    | succ j =>
      have : (pdOf (j + 1)).isNone = false := by
        cases j with
        | zero => rfl
        | succ j =>
          have : (j + 1 + 1) % 2 = 0 ∨ (j + 1 + 1) % 2 = 1 := by omega
          rcases this with h | h <;> simp [pdOf, h]
      rw [this]; rfl
  · obtain ⟨a1, _⟩ := S5.all e' ha hg
    rw [hb2] at a1
    exact ⟨a1.setFr A.fr, S.fr e' (l2'.agr.trans ha (show A.n ≤ A2.n by omega))⟩
end Go.Mx.Az

namespace Go.Mx.Az
def argA : Nat → List AV → List (Nat × AV)
  | _, [] => []
  | i, v :: r => (i, v) :: argA (i + 1) r
theorem argA_ok {e : Env} : ∀ {as : List AV} {i : Nat}, FrOk (argA i as) (argFr i (AVs.den e as)) e
  | [], i, t, a, h => by simp [argA, look] at h
  | v :: r, i, t, a, h => by
    simp only [argA, look] at h
    simp only [AVs.den, argFr, look]
    split at h
    · rename_i e1; cases h; rw [if_pos e1]
    · rename_i e1; rw [if_neg e1]; exact argA_ok t a h
def resK (C : Cfg) : List ResultVar → List AV → AS → (List AV → AS → HS → Option HS) → HS → Option HS
  | [], acc, A, K, hs => K acc.reverse A hs
  | .tmp t :: r, acc, A, K, hs => (match look A.fr t with
    | some a => resK C r (a :: acc) A K hs
    | none => none)
  | .cell p t :: r, acc, A, K, hs => (match look A.fr p with
    | some q => loadK C t q A (fun A a hs => resK C r (a :: acc) A K hs) hs
    | none => none)
theorem resK_ok {C : Cfg} (hC : CfgOk C) {h0 : H0} {fr : List (Nat × V)} {h : Hp} : ∀ {rs : List ResultVar} {acc : List AV} {A : AS} {e : Env} {accv : List V} {K : List AV → AS → HS → Option HS} {q q' : HS}, Sat h0 A ⟨fr, [], h⟩ e → (∀ e', Agr A.n e e' → AVs.den e' acc = accv) → resK C rs acc A K q = some q' →
    ∃ vs, resA C.tb fr h rs = some vs ∧ ∃ as A' e' q1 q2, K as A' q1 = some q2 ∧ Le A.n e e' ∧ A.n ≤ A'.n ∧ Sat h0 A' ⟨fr, [], h⟩ e' ∧ ∀ e2, Agr A'.n e' e2 → AVs.den e2 as = accv.reverse ++ vs
  | [], acc, A, e, accv, K, q, q', S, hacc, hk => by
    refine ⟨[], rfl, acc.reverse, A, e, q, q', hk, Le.refl _ _, Nat.le_refl _, S, fun e2 ha => ?_⟩
    rw [← hacc e2 ha, AVs.den_eq, AVs.den_eq, List.map_reverse, List.append_nil]
  | .tmp t :: r, acc, A, e, accv, K, q, q', S, hacc, hk => by
    simp only [resK] at hk
    split at hk <;> first | (cases hk; done) | skip
    rename_i a ha
    have hae := S.here.2 t a ha
    obtain ⟨vs, r1, as, A', e', q1, q2, k1, l1, n1, S1, d1⟩ := resK_ok hC S (accv := a.den e :: accv) (fun e' hh => by
      have h1 := S.fr e' hh t a ha
      rw [hae] at h1
      simp only [AVs.den, hacc e' hh]; rw [← Option.some.inj h1]) hk
    refine ⟨a.den e :: vs, by simp only [resA, hae, r1], as, A', e', q1, q2, k1, l1, n1, S1, fun e2 hh => ?_⟩
    rw [d1 e2 hh]; simp
  | .cell p t :: r, acc, A, e, accv, K, q, q', S, hacc, hk => by
    simp only [resK] at hk
    split at hk <;> first | (cases hk; done) | skip
    rename_i a ha
    have hae := S.here.2 p a ha
    obtain ⟨v, h1, a1, A1, e1, q1, q2, k1, l1, n1, S1, d1⟩ := load_ok hC S (x := a.den e) (fun e' hh => by
      have h1 := S.fr e' hh p a ha; rw [hae] at h1; exact (Option.some.inj h1).symm) hk
    simp only at k1
    obtain ⟨vs, r1, as, A', e', q3, q4, k2, l2, n2, S2, d2⟩ := resK_ok hC S1 (accv := v :: accv) (fun e' hh => by
      simp only [AVs.den, d1 e' hh, hacc e' (l1.agr.trans hh n1)]) k1
    refine ⟨v :: vs, by simp only [resA, hae, r1, h1], as, A', e', q3, q4, k2, l1.trans l2 n1, Nat.le_trans n1 n2, S2, fun e2 hh => ?_⟩
    rw [d2 e2 hh]; simp
def oneA' : List AV → AV
  | [v] => v
  | vs => .tup vs
theorem oneA'_den {e : Env} {vs : List AV} : (oneA' vs).den e = oneOrTup (AVs.den e vs) := by
  match vs with
  | [] => simp [oneA', oneOrTup, AV.den, AVs.den]
  | [v] => simp [oneA', oneOrTup, AVs.den]
  | a :: b :: r => simp [oneA', oneOrTup, AV.den, AVs.den]
def endK : List Nat → AS → Kq → HS → Option HS
  | [], A, K, hs => K A hs
  | δ :: r, A, K, hs => match look A.H δ with
    | some .df => endK r { A with H := delH δ A.H, L := [] } K hs
    | _ => none
theorem endK_ok {h0 : H0} {tb : Nat → Option TI} {fc : Nat → Option Func} {ccall : Caller} {lf : Nat} {fr : List (Nat × V)} {e : Env} : ∀ {D : List Nat} {A : AS} {h : Hp} {K : Kq} {q q' : HS}, Sat h0 A ⟨fr, [], h⟩ e → (∀ δ ∈ D, δ < A.n) → endK D A K q = some q' →
    ∃ h' A' q1 q2, runDs tb fc ccall lf (cols e D) none h = some (none, h') ∧ K A' q1 = some q2 ∧ A'.n = A.n ∧ Sat h0 A' ⟨fr, [], h'⟩ e
  | [], A, h, K, q, q', S, hD, hk => ⟨h, A, q, q', rfl, hk, rfl, S⟩
  | δ :: D, A, h, K, q, q', S, hD, hk => by
    simp only [endK] at hk
    split at hk <;> first | (cases hk; done) | skip
    rename_i hlk
    have hδ : δ < A.n := hD δ (by simp)
    obtain ⟨g1, g2, g3, g4⟩ := S.here.1.ent _ (look_in hlk)
    simp only at g4
    have S1 : Sat h0 { A with H := delH δ A.H, L := [] } ⟨fr, [], h.set (e.b δ) (.oth (.dfr false))⟩ e := ⟨rfl, S.vb, fun e' ha hg => by
      obtain ⟨a1, a2⟩ := S.all e' ha hg
      have := a1.kill hlk trivial (.oth (.dfr false))
      rw [ha.b δ hδ] at this
      exact ⟨this, a2⟩⟩
    obtain ⟨h', A', q1, q2, r1, k1, n1, S2⟩ := endK_ok S1 (fun δ hδ => hD δ (by simp [hδ])) hk
    refine ⟨h', A', q1, q2, ?_, k1, n1, S2⟩
    simp only [cols, List.map_cons, runDs, g4]
    exact r1
def exFn (C : Cfg) (call : ACall) (g : Nat) (fn : Func) (as : List AV) (A : AS) (K : Ks) (hs : HS) : Option HS :=
  match fn.body with
  | none => none
  | some c => exC C call (max as.length fn.ntmps) g false [] c [] { A with fr := argA 0 as } (fun ex D A' hs => match ex with
    | .normal => endK D A' (fun A' hs => resK C fn.results.toList [] A' (fun vs A' hs => K { A' with fr := A.fr } (oneA' vs) hs) hs) hs
    | .ret => endK D A' (fun A' hs => resK C fn.results.toList [] A' (fun vs A' hs => K { A' with fr := A.fr } (oneA' vs) hs) hs) hs
    | _ => none) hs
theorem exFn_ok {C : Cfg} (hC : CfgOk C) {h0 : H0} (hfc : h0.fc = C.fc) {ccall : Caller} {call : ACall} (hcall : ACallOk h0 ccall call) {lf : Nat} (hlf : 100000000000000000000 < lf) {g : Nat} {fn : Func} (hg : C.fc g = some fn) {as : List AV} {A : AS} {K : Ks} {q q' : HS} {fr : List (Nat × V)} {h : Hp} {e : Env} {vs : List V} (S : Sat h0 A ⟨fr, [], h⟩ e) (has : ∀ e', Agr A.n e e' → AVs.den e' as = vs) (hk : exFn C call g fn as A K q = some q') :
    ∃ v h', runF C.tb C.fc ccall lf fn vs h = some (.ret v, h') ∧ Out h0 A e K fr v h' := by
  unfold exFn at hk
  split at hk
  · cases hk
  rename_i c hb
  have hvl : vs.length = as.length := by rw [← has e (Agr.refl _ _), AVs.length]
  have S1 : Sat h0 { A with fr := argA 0 as } ⟨argFr 0 vs, [], h⟩ e := ⟨rfl, S.vb, fun e' ha hg => by
    obtain ⟨a1, _⟩ := S.all e' ha hg
    refine ⟨a1.setFr _, ?_⟩
    have := argA_ok (e := e') (as := as) (i := 0)
    rw [has e' ha] at this; exact this⟩
  have hcode : codeAt h0.fc g [] = some c := by
    unfold codeAt; rw [hfc, hg]; simp only [hb]; exact subC_nil c
  obtain ⟨ex, fr1, h1, D1, A1, e1, q1, q2, r1, k1, l1, n1, S2, hD1⟩ := exC_ok hC hcall hlf (f := g) (rnd := false) (ro := none) (fun hp _ => rangeK_ok hcall hp) c hcode S1 (fun β hβ => by simp at hβ) hk
  have l1' : Le A.n e e1 := l1
  have n1' : A.n ≤ A1.n := n1
  have fin : endK D1 A1 (fun A' hs => resK C fn.results.toList [] A' (fun vs A' hs => K { A' with fr := A.fr } (oneA' vs) hs) hs) q1 = some q2 → ∃ h2 ws, runDs C.tb C.fc ccall lf (cols e1 D1) none h1 = some (none, h2) ∧ resA C.tb fr1 h2 fn.results.toList = some ws ∧ Out h0 A e K fr (oneOrTup ws) h2 := fun hk => by
    obtain ⟨h2, Ae, qe1, qe2, re, ke, ne, Se⟩ := endK_ok (tb := C.tb) (fc := C.fc) (ccall := ccall) (lf := lf) S2 hD1 hk
    obtain ⟨ws, r2, as2, A2, e2, q3, q4, k2, l2, n2, S3, d2⟩ := resK_ok hC Se (acc := []) (accv := []) (fun _ _ => rfl) ke
    rw [ne] at l2 n2
    refine ⟨h2, ws, re, r2, _, { A2 with fr := A.fr }, e2, q3, q4, k2, l1'.trans l2 n1', Nat.le_trans n1' n2, ⟨rfl, S3.vb, fun e3 ha hg => ?_⟩, fun e3 ha => ?_⟩
    · obtain ⟨a1, _⟩ := S3.all e3 ha hg
      exact ⟨a1.setFr _, S.fr e3 ((l1'.trans l2 n1').agr.trans ha (Nat.le_trans n1' n2))⟩
    · rw [oneA'_den, d2 e3 ha]; rfl
  rw [← hvl] at r1
  have e0 : cols e [] = [] := rfl
  rw [e0] at r1
  cases ex with
  | normal =>
    simp only at k1
    obtain ⟨h2, ws, rd, r2, o2⟩ := fin k1
    exact ⟨_, h2, by simp only [runF, hb, r1, finF, rd, r2], o2⟩
  | ret =>
    simp only at k1
    obtain ⟨h2, ws, rd, r2, o2⟩ := fin k1
    exact ⟨_, h2, by simp only [runF, hb, r1, finF, rd, r2], o2⟩
  | _ => simp only at k1; cases k1
def exF (C : Cfg) : Nat → ACall
  | 0 => fun _ _ _ _ _ => none
  | d + 1 => fun t as A K hs => match t with
    | .fn g => bif C.nc g then (match C.fc g with
      | some fn => exFn C (exF C d) g fn as A K hs
      | none => none) else none
    | .it g => (match C.fc g with
      | some fn => exFn C (exF C d) g fn as A K hs
      | none => none)
    | .y β => exY C (exF C d) β as A K hs
theorem exF_ok {C : Cfg} (hC : CfgOk C) {h0 : H0} (hfc : h0.fc = C.fc) {ct : Nat → Option (List V → Hp → Option (En × Hp))} (hct : ∀ g, C.nc g = true → ct g = none) {lf : Nat} (hlf : 100000000000000000000 < lf) : ∀ d, ACallOk h0 (callD C.tb C.fc ct lf d) (exF C d) := by
  intro d
  induction d with
  | zero => intro g as A K q q' fr h e vs S has hk; simp [exF] at hk
  | succ d ih =>
    intro t as A K q q' fr h e vs S has hk
    cases t with
    | fn g =>
      simp only [exF] at hk
      cases hn : C.nc g <;> rw [hn] at hk <;> simp only [cond_true, cond_false] at hk
      · cases hk
      split at hk <;> first | (cases hk; done) | skip
      rename_i fn hf
      obtain ⟨v, h', r1, r2⟩ := exFn_ok hC hfc ih hlf hf S has hk
      exact ⟨v, h', by simp only [ATg.to, callD, hct g hn, hf, r1], r2⟩
    | it g =>
      simp only [exF] at hk
      split at hk <;> first | (cases hk; done) | skip
      rename_i fn hf
      obtain ⟨v, h', r1, r2⟩ := exFn_ok hC hfc ih hlf hf S has hk
      exact ⟨v, h', by simp only [ATg.to, callD, hf, r1], r2⟩
    | y β =>
      simp only [exF] at hk
      obtain ⟨v, h', r1, r2⟩ := exY_ok hC hfc ih hlf S has hk
      exact ⟨v, h', by simp only [ATg.to, callD, r1], r2⟩
end Go.Mx.Az

namespace Go.Mx.Az
mutual
def ofLf (r : Nat) : Lf → AL
  | .int k => .int k (constP (lo k)) (constP (hi k))
  | .bool => .bool
  | .str => .str
  | .sl e => .sl r (ofLfs r e)
def ofLfs (r : Nat) : List Lf → List AL
  | [] => []
  | l :: s => ofLf r l :: ofLfs r s
end
def startA (ls : List Lf) : AS := { n := 2, F := [], T := [], fr := [], H := [(1, .typ 0 0 (ofLfs 0 ls) [(0, 1)])], M := [], Q := [] }
def natIn (x : Nat) : List Nat → Bool
  | [] => false
  | y :: r => Nat.beq x y || natIn x r
def closHd : AV → Option (Nat × Nat)
  | .f (.func g) [] [.p b []] => some (g, b)
  | _ => none
theorem closHd_eq {x : AV} {g b : Nat} (h : closHd x = some (g, b)) : x = .f (.func g) [] [.p b []] := by
  unfold closHd at h; split at h <;> cases h; rfl
def closK (C : Cfg) (tab : Nat → Option (List Lf)) : List AV → Nat → AS → Kq → HS → Option HS
  | [], _, A, K, hs => K A hs
  | x :: r, i, A, K, hs => match closHd x with
    | none => none
    | some (g, b) => (match tab g, look A.H b with
      | some rl, some (.exact false _ cs) => bif Nat.blt b A.n then leafsK C A (ofLfs (i + 1) rl) cs (fun A hs => closK C tab r (i + 1) A K hs) hs else none
      | _, _ => none)
def boxesK (A : AS) : List AV → List Nat → Bool
  | [], _ => true
  | x :: r, bs => match closHd x with
    | none => false
    | some (_, b) => (match look A.H b with
      | some (.exact false _ _) => !natIn b bs && boxesK A r (b :: bs)
      | _ => false)
def finK (C : Cfg) (tab : Nat → Option (List Lf)) : Ks := fun A v hs => match v with
  | .k w => bif vbeq w .nils then some hs else none
  | .sl 0 β [] len 0 1 => (match asC len, look A.H β with
    | some m, some (.exact false _ cells) => bif isNn m && Nat.beq m.toNat cells.length && Nat.ble cells.length 1000 then closK C tab cells 0 A (fun A hs => match look A.H β with
        | some (.exact false _ cells') => bif AVs.beq cells cells' && boxesK A cells [β] then some hs else none
        | _ => none) hs else none
    | _, _ => none)
  | _ => none
mutual
def slOf (r : Nat) : Lf → SL
  | .int k => .int k (lo k) (hi k)
  | .bool => .bool
  | .str => .str
  | .sl e => .sl r (slOfs r e)
def slOfs (r : Nat) : List Lf → List SL
  | [] => []
  | l :: s => slOf r l :: slOfs r s
end
mutual
def toLf : SL → Lf
  | .int k _ _ => .int k
  | .bool => .bool
  | .str => .str
  | .sl _ e => .sl (toLfs e)
def toLfs : List SL → List Lf
  | [] => []
  | l :: s => toLf l :: toLfs s
end
mutual
theorem ofLf_den {e : Nat → Int} (h1 : e 0 = 1) (r : Nat) : ∀ l : Lf, (ofLf r l).den e = slOf r l
  | .int k => by simp only [ofLf, AL.den, slOf, den_const h1]
  | .bool => rfl
  | .str => rfl
  | .sl l => by simp only [ofLf, AL.den, slOf, ofLfs_den h1 r l]
theorem ofLfs_den {e : Nat → Int} (h1 : e 0 = 1) (r : Nat) : ∀ l : List Lf, ALs.den e (ofLfs r l) = slOfs r l
  | [] => rfl
  | l :: s => by simp only [ofLfs, ALs.den, slOfs, ofLf_den h1 r l, ofLfs_den h1 r s]
end
theorem slOfs_eq (r : Nat) : ∀ l : List Lf, slOfs r l = l.map (slOf r)
  | [] => rfl
  | a :: s => by simp only [slOfs, List.map_cons, slOfs_eq r s]
theorem toLfs_eq : ∀ l : List SL, toLfs l = l.map toLf
  | [] => rfl
  | a :: s => by simp only [toLfs, List.map_cons, toLfs_eq s]
theorem ofLfs_eq (r : Nat) : ∀ l : List Lf, ofLfs r l = l.map (ofLf r)
  | [] => rfl
  | a :: s => by simp only [ofLfs, List.map_cons, ofLfs_eq r s]
mutual
theorem toLf_of (r : Nat) : ∀ l : Lf, toLf (slOf r l) = l
  | .int _ | .bool | .str => rfl
  | .sl e => by simp only [slOf, toLf, toLfs_of r e]
theorem toLfs_of (r : Nat) : ∀ l : List Lf, toLfs (slOfs r l) = l
  | [] => rfl
  | l :: s => by simp only [slOfs, toLfs, toLf_of r l, toLfs_of r s]
end
theorem regS_of (r : Nat) (l : Lf) : regS r (slOf r l) := by cases l <;> simp [slOf, regS]
def argG (G : Nat → Option BT) (r : Nat) (b : Nat) : Option SB := match G b with
  | some t => if t.reg = r ∧ t.rm = true then some ⟨slOfs 0 t.lfs, 0⟩ else none
  | none => none
theorem slOk_of {G : Nat → Option BT} {r : Nat} {l : Lf} {v : V} (h : LfOk G r true l v) : SlOk (argG G r) (slOf 0 l) v := by
  cases l with
  | int k =>
    obtain ⟨n, rfl, hn⟩ := h
    have := in_wrap k n
    rw [hn] at this
    exact ⟨n, rfl, this.1, this.2, hn⟩
  | bool => exact h
  | str => exact h
  | sl e =>
    simp only [LfOk] at h
    rcases h with h | ⟨h, _⟩ | ⟨b, o, n, c, t, m, h1, h2, h3, h4, h5, h6, h7, h8⟩
    · exact .inl h
    · cases h
    · have hl : (slOfs 0 e).length = e.length := by rw [slOfs_eq, List.length_map]
      refine .inr ⟨b, o, n, c, ⟨slOfs 0 t.lfs, 0⟩, m, by rw [hl]; exact h1, by simp [argG, h2, h3, h4], rfl, h5, fun k hk => ?_, ?_, fun i hi j l hj => ?_⟩
      · rw [h7 trivial] at hk; cases hk; exact h5
      · simp only; rw [hl, slOfs_eq, List.length_map]; exact h6
      · rw [slOfs_eq, List.getElem?_map, Option.map_eq_some_iff] at hj
        obtain ⟨l', hj', rfl⟩ := hj
        simp only; rw [hl, slOfs_eq, List.getElem?_map, h8 i hi j l' hj']; rfl
theorem argG_ok (fc : Nat → Option Func) {G : Nat → Option BT} {h : Hp} (hT : TOk G h) (r : Nat) (hR : ∀ b t, G b = some t → t.reg = r → t.lfs.length ≤ 4000000000) : GOk ⟨h, fc⟩ h (argG G r) := by
  intro b t hb
  unfold argG at hb
  split at hb <;> first | (cases hb; done) | skip
  rename_i t0 ht
  split at hb <;> first | (cases hb; done) | skip
  rename_i hc
  cases hb
  obtain ⟨h1, ty, cs, rw', h2, h3, h4, h5⟩ := hT.blk b t0 ht
  refine ⟨h1, ⟨by simp only; rw [slOfs_eq, List.length_map]; exact hR b t0 ht hc.1, fun l hl => ?_⟩, fun _ => h1, fun h => absurd rfl h, ty, cs, rw', h2, fun h => absurd rfl h, by simp only; rw [slOfs_eq, List.length_map]; exact h3, fun j l v hj hv => ?_⟩
  · rw [slOfs_eq, List.mem_map] at hl
    obtain ⟨l', _, rfl⟩ := hl
    exact regS_of 0 l'
  · simp only at hj
    rw [slOfs_eq, List.getElem?_map, Option.map_eq_some_iff] at hj
    obtain ⟨l', hj', rfl⟩ := hj
    have := h5 j l' v hj' hv
    rw [hc.1, hc.2] at this
    exact slOk_of this
def env0 (fc : Nat → Option Func) (G : Nat → Option SB) (yb : Nat) : Env := { i := fun k => if k = 0 then 1 else 0, v := fun _ => .nilp, b := fun k => if k = 1 then yb else 0, o := fun _ => 0, c := fun _ => some 0, s := fun _ => [], G := G, fc := fc }
theorem start_ok (fc : Nat → Option Func) {G : Nat → Option BT} {h : Hp} (hT : TOk G h) {r yb : Nat} {ls : List Lf} (hy : G yb = some ⟨ls, r, true, true⟩) (hR : ∀ b t, G b = some t → t.reg = r → t.lfs.length ≤ 4000000000) (fr : List (Nat × V)) : Sat ⟨h, fc⟩ (startA ls) ⟨fr, [], h⟩ (env0 fc (argG G r) yb) := by
  refine ⟨rfl, fun n => by simp [env0, vbeq], fun e' ha hg => ⟨⟨?_, by simp [startA], fun p hp => by simp [startA] at hp, fun p hp => by simp [startA] at hp, Ext.refl h, by rw [hg]; exact argG_ok fc hT r hR, ?_, ?_, fun p hp => by simp [startA] at hp, fun p hp => by simp [startA] at hp, ?_, fun p hp => by simp [startA] at hp⟩, fun t a hl => by simp [startA, look] at hl⟩⟩
  · rw [ha.i 0 (by simp [startA])]; simp [env0]
  · intro x hx
    simp only [startA, List.mem_singleton] at hx
    subst hx
    intro _
    have h1 : e'.i 0 = 1 := by rw [ha.i 0 (by simp [startA])]; simp [env0]
    have hb : e'.b 1 = yb := by rw [ha.b 1 (by simp [startA])]; simp [env0]
    have ho : e'.o 1 = 0 := by rw [ha.o 1 (by simp [startA])]; simp [env0]
    simp only [Poly.den, h1]
    refine ⟨by omega, ⟨slOfs 0 ls, 0⟩, by rw [hg, hb]; simp [env0, argG, hy], rfl, ?_, fun i j l hi hj => ?_⟩
    · rw [ho, ofLfs_eq, List.length_map]; simp only; rw [slOfs_eq, List.length_map]; simp
    · have hi0 : i = 0 := by simp at hi; omega
      subst hi0
      rw [ofLfs_eq, List.getElem?_map, Option.map_eq_some_iff] at hj
      obtain ⟨l', hj', rfl⟩ := hj
      simp only; rw [ho, slOfs_eq, List.getElem?_map]; simp only [Nat.zero_mul, Nat.add_zero, Nat.zero_add]; rw [hj', ofLf_den h1]; rfl
  · exact List.pairwise_singleton _ _
  · rw [ha.c 0 (by simp [startA])]; simp [env0]
structure ClR where
  g : Nat
  b : Nat
  rl : List Lf
def ClOk (h : Hp) (e : Env) (i : Nat) (c : ClR) : Prop := ∃ ty cs, h.get (e.b c.b) = some (.blk ty cs true) ∧ cs.length = c.rl.length ∧ ∀ (j : Nat) l v, c.rl[j]? = some l → cs[j]? = some v → SlOk e.G (slOf (i + 1) l) v
def cellsR (l : List ClR) : List AV := l.map fun c => .f (.func c.g) [] [.p c.b []]
theorem closK_ok {C : Cfg} (hC : CfgOk C) {h0 : H0} {fr : List (Nat × V)} {h : Hp} {tab : Nat → Option (List Lf)} : ∀ {cells : List AV} {i : Nat} {A : AS} {e : Env} {K : Kq} {q q' : HS}, Sat h0 A ⟨fr, [], h⟩ e → closK C tab cells i A K q = some q' →
    ∃ A' e' q1 q2 l, K A' q1 = some q2 ∧ Went h0 A e fr h A' e' ∧ cells = cellsR l ∧ (∀ c ∈ l, tab c.g = some c.rl) ∧ ∀ (k : Nat) c, l[k]? = some c → ∀ e2, Le A'.n e' e2 → ClOk h e2 (i + k) c
  | [], i, A, e, K, q, q', S, hk => ⟨A, e, q, q', [], hk, ⟨Le.refl _ _, rfl, S⟩, rfl, fun c hc => by simp at hc, fun k c hc => by simp at hc⟩
  | x :: r, i, A, e, K, q, q', S, hk => by
    simp only [closK] at hk
    split at hk
    · cases hk
    · rename_i g b heq
      have heq := closHd_eq heq
      subst heq
      split at hk <;> first | (cases hk; done) | skip
      rename_i rl ty cs ht hlk
      cases hb : Nat.blt b A.n <;> rw [hb] at hk <;> simp only [cond_true, cond_false] at hk
      · cases hk
      have hbn : b < A.n := Nat.le_of_ble_eq_true hb
      obtain ⟨A1, e1, q1, q2, k1, W1, hl1, L1⟩ := leafsK_ok hC S hk
      obtain ⟨A2, e2, q3, q4, l, k2, W2, hl, ht2, H2⟩ := closK_ok hC W1.s k1
      obtain ⟨p1, p2, rw', p3, p4, p5⟩ := S.here.1.ent _ (look_in hlk)
      obtain ⟨p5, _⟩ := p5 rfl
      subst p5
      simp only at p3
      refine ⟨A2, e2, q3, q4, ⟨g, b, rl⟩ :: l, k2, W1.trans W2, by rw [hl]; rfl, fun c hc => (List.mem_cons.1 hc).elim (fun x => by subst x; exact ht) (ht2 c), fun k c hc e3 he3 => ?_⟩
      cases k with
      | zero =>
        simp only [List.getElem?_cons_zero, Option.some.injEq] at hc
        subst hc
        have hle : Le A.n e e3 := (W1.trans W2).le.trans he3 (by rw [(W1.trans W2).n]; exact Nat.le_refl _)
        have hle1 : Le A1.n e1 e3 := W2.le.trans he3 (by rw [W2.n]; exact Nat.le_refl _)
        refine ⟨ty, AVs.den e cs, by simp only; rw [hle.agr.b b hbn]; exact p3, by rw [AVs.length, hl1, ofLfs_eq, List.length_map], fun j lf v hj hv => ?_⟩
        have hst : AVs.den e3 cs = AVs.den e cs := by
          obtain ⟨u1, u2, ru, u3, _⟩ := (S.up hle.agr).ent _ (look_in hlk)
          simp only at u3
          rw [hle.agr.b b hbn, p3] at u3
          simp only [Option.some.injEq, Ob.blk.injEq, true_and] at u3
          exact (AVs.den_G e3 e.G cs).symm.trans u3.1.symm
        rw [← hst, AVs.get] at hv
        obtain ⟨a, ha, rfl⟩ := Option.map_eq_some_iff.1 hv
        have hj2 : (ofLfs (i + 1) rl)[j]? = some (ofLf (i + 1) lf) := by rw [ofLfs_eq, List.getElem?_map, hj]; rfl
        have := L1 e3 hle1.agr j _ a hj2 ha
        rw [ofLf_den (W1.s.nums hle1.agr).1] at this
        exact this.mono hle1.G
      | succ k =>
        have := H2 k c (by simpa using hc) e3 he3
        rw [show i + (k + 1) = i + 1 + k from by omega]; exact this
theorem natIn_mem {x : Nat} : ∀ {l : List Nat}, natIn x l = false → x ∉ l
  | [], _ => by simp
  | y :: r, h => by
    simp only [natIn, Bool.or_eq_false_iff] at h
    intro hm
    rcases List.mem_cons.1 hm with rfl | hm
    · have := h.1; simp at this
    · exact natIn_mem h.2 hm
theorem boxes_ok {h0 : H0} {A : AS} {h : Hp} {e : Env} (S : SatH h0 A h e) : ∀ {l : List ClR} {bs : List Nat}, boxesK A (cellsR l) bs = true →
    (∀ c ∈ l, e.o c.b = 0 ∧ h0.n ≤ e.b c.b ∧ e.b c.b < h.n ∧ e.G (e.b c.b) = none) ∧ (l.Pairwise fun c d => e.b c.b ≠ e.b d.b) ∧ (∀ c ∈ l, ∀ b ∈ bs, (∃ ty cs, look A.H b = some (.exact false ty cs)) → e.b c.b ≠ e.b b)
  | [], bs, _ => ⟨fun c hc => by simp at hc, List.Pairwise.nil, fun c hc => by simp at hc⟩
  | c :: r, bs, hk => by
    simp only [cellsR, List.map_cons, boxesK, closHd] at hk
    split at hk <;> first | (cases hk; done) | skip
    rename_i ty cs hlk
    simp only [Bool.and_eq_true, Bool.not_eq_true'] at hk
    obtain ⟨r1, r2, r3⟩ := boxes_ok S (l := r) (bs := c.b :: bs) hk.2
    have hni := natIn_mem hk.1
    have hent := S.ent _ (look_in hlk)
    obtain ⟨g1, g2, g3⟩ := excl_ge hent rfl
    refine ⟨fun d hd => (List.mem_cons.1 hd).elim (fun x => by subst x; exact ⟨hent.1, g1, g3, g2⟩) (r1 d), List.pairwise_cons.2 ⟨fun d hd => fun x => r3 d hd c.b (by simp) ⟨ty, cs, hlk⟩ x.symm, r2⟩, fun d hd b hb hex => ?_⟩
    rcases List.mem_cons.1 hd with rfl | hd
    · obtain ⟨ty2, cs2, hlk2⟩ := hex
      have hne : d.b ≠ b := fun x => hni (by rw [x]; exact hb)
      exact S.ne (look_in hlk2) (look_in hlk) hne rfl rfl
    · exact r3 d hd b (List.mem_cons_of_mem _ hb) hex
def fbx (e : Env) (rho : Nat) : List ClR → Nat → Nat → Option BT
  | [], _, _ => none
  | c :: r, k, b => if b = e.b c.b then some ⟨c.rl, rho + k, false, true⟩ else fbx e rho r (k + 1) b
theorem fbx_some {e : Env} {rho : Nat} : ∀ {l : List ClR} {i b : Nat} {t : BT}, fbx e rho l i b = some t → ∃ k c, l[k]? = some c ∧ b = e.b c.b ∧ t = ⟨c.rl, rho + (i + k), false, true⟩
  | [], i, b, t, h => by simp [fbx] at h
  | c :: r, i, b, t, h => by
    unfold fbx at h
    split at h
    · rename_i hb; cases h; exact ⟨0, c, rfl, hb, rfl⟩
    · obtain ⟨k, d, h1, h2, h3⟩ := fbx_some h
      exact ⟨k + 1, d, by simpa using h1, h2, by rw [h3]; congr 2; omega⟩
theorem fbx_at {e : Env} {rho : Nat} : ∀ {l : List ClR} {i k : Nat} {c : ClR}, (l.Pairwise fun c d => e.b c.b ≠ e.b d.b) → l[k]? = some c → fbx e rho l i (e.b c.b) = some ⟨c.rl, rho + (i + k), false, true⟩
  | [], i, k, c, _, h => by simp at h
  | d :: r, i, k, c, hp, h => by
    have hp2 := List.pairwise_cons.1 hp
    unfold fbx
    cases k with
    | zero =>
      simp only [List.getElem?_cons_zero, Option.some.injEq] at h; subst h
      rw [if_pos rfl]; rfl
    | succ k =>
      simp only [List.getElem?_cons_succ] at h
      have hne := hp2.1 c (List.mem_of_getElem? h)
      rw [if_neg (fun x => hne x.symm), fbx_at hp2.2 h]; congr 2; omega
def retG (G : Nat → Option BT) (n : Nat) (e : Env) (rho : Nat) (l : List ClR) (b : Nat) : Option BT :=
  if b < n then G b else match fbx e rho l 0 b with
    | some t => some t
    | none => (e.G b).map fun t => ⟨toLfs t.lfs, rho + (t.reg - 1), false, true⟩
theorem lfOk_ret {h0 : H0} {h : Hp} {A : AS} {e : Env} (S : SatH h0 A h e) {G : Nat → Option BT} {rho : Nat} {l : List ClR} (hbox : ∀ c ∈ l, e.G (e.b c.b) = none) {r : Nat} (hr : r ≠ 0) {s : SL} {v : V} (hv : SlOk e.G s v) (hs : regS r s) : LfOk (retG G h0.n e rho l) (rho + (r - 1)) false (toLf s) v := by
  cases s with
  | int k lo hi => obtain ⟨n, h1, _, _, h2⟩ := hv; exact ⟨n, h1, h2⟩
  | bool => exact hv
  | str => exact hv
  | sl r' el =>
    simp only [regS] at hs; subst hs
    have hl : (toLfs el).length = el.length := by rw [toLfs_eq, List.length_map]
    simp only [toLf, LfOk]
    rcases hv with h1 | ⟨b, o, n, c, t, m, h1, h2, h3, h4, h5, h6, h7⟩
    · exact .inl h1
    · refine .inr (.inr ⟨b, o, n, c, ⟨toLfs t.lfs, rho + (t.reg - 1), false, true⟩, m, by rw [hl]; exact h1, ?_, by simp only; rw [h3], rfl, h4, ?_, (fun h => by cases h), fun i hi j lf hj => ?_⟩)
      · have hge := (S.g b t h2).2.2.2.1 (by rw [h3]; exact hr)
        unfold retG
        rw [if_neg (by omega)]
        cases hf : fbx e rho l 0 b with
        | none => simp only [h2, Option.map_some]
        | some t' =>
          obtain ⟨k, d, g1, g2, _⟩ := fbx_some hf
          have := hbox d (List.mem_of_getElem? g1)
          rw [← g2, h2] at this; cases this
      · simp only; rw [hl, toLfs_eq, List.length_map]; exact h6
      · rw [toLfs_eq, List.getElem?_map, Option.map_eq_some_iff] at hj
        obtain ⟨s', hs', rfl⟩ := hj
        simp only; rw [hl, toLfs_eq, List.getElem?_map, h7 i hi j s' hs']; rfl
theorem callsOk {C : Cfg} (hC : CfgOk C) {ct : Nat → Option (List V → Hp → Option (En × Hp))} (hct : ∀ g, C.nc g = true → ct g = none) {lf : Nat} (hlf : 100000000000000000000 < lf) {Tab : Nat → List Lf → Prop} {tab : Nat → Option (List Lf)} (htab : ∀ g rl, tab g = some rl → Tab g rl ∧ rl.length ≤ 1000 ∧ wides rl ≤ 1000 ∧ noSs rl = true) {g : Nat} {ls : List Lf} {d : Nat} {q q' : HS} (hk : exF C d (.fn g) [.p 1 []] (startA ls) (finK C tab) q = some q') :
    CallsOk Tab (callD C.tb C.fc ct lf d) g ls := by
  intro G r h yb rho hT hy hR
  have S := start_ok C.fc hT hy hR ([] : List (Nat × V))
  have hn0 : (H0.mk h C.fc).toHp.n = h.n := rfl
  obtain ⟨v, h', r1, a, A1, e1, q1, q2, k1, l1, n1, S1, d1⟩ := exF_ok hC (h0 := ⟨h, C.fc⟩) rfl hct hlf d S (vs := [.p yb 0]) (fun e' ha => by
    simp only [AVs.den, AV.den, Poly.den]
    rw [ha.b 1 (by simp [startA]), ha.o 1 (by simp [startA])]; simp [env0]) hk
  have hve := d1 e1 (Agr.refl _ _)
  unfold finK at k1
  split at k1 <;> first | (cases k1; done) | skip
  ·
    rename_i w
    cases hb : vbeq w .nils <;> rw [hb] at k1 <;> simp only [cond_true, cond_false] at k1
    · cases k1
    have hw := veq_of hb; subst hw
    simp only [AV.den] at hve; subst hve
    obtain ⟨G', m, Cc, p1, p2, p3, p4, p5, p6⟩ := CallEnd.nil (Tab := Tab) (rho := rho) hT S1.here.1.ext
    exact ⟨.nils, h', G', m, Cc, r1, p1, p2, p3, p4, p5, p6⟩
  · rename_i β len
    split at k1 <;> first | (cases k1; done) | skip
    rename_i m ty cells hm hlk
    cases hb : (isNn m && Nat.beq m.toNat cells.length && Nat.ble cells.length 1000) <;> rw [hb] at k1 <;> simp only [cond_true, cond_false] at k1
    · cases k1
    simp only [Bool.and_eq_true] at hb
    have hm0 := isNn_le hb.1.1
    have hml := nb hb.1.2
    have hsm := Nat.le_of_ble_eq_true hb.2
    obtain ⟨A2, e2, q3, q4, l, k2, W2, hcl, htb, H2⟩ := closK_ok hC S1 k1
    split at k2 <;> first | (cases k2; done) | skip
    rename_i ty2 cells2 hlk2
    cases hb2 : (AVs.beq cells cells2 && boxesK A2 cells [β]) <;> rw [hb2] at k2 <;> simp only [cond_true, cond_false] at k2
    · cases k2
    simp only [Bool.and_eq_true] at hb2
    have hcc := AVs.beq_eq hb2.1
    subst hcc
    have S2 := W2.s.here.1
    rw [hcl] at hb2
    obtain ⟨b1, b2, b3⟩ := boxes_ok S2 hb2.2
    have hve2 := d1 e2 W2.le.agr
    have hlb := S2.ent _ (look_in hlk2)
    obtain ⟨g1, g2, g3⟩ := excl_ge hlb rfl
    obtain ⟨o1, o2, rw', o3, o4, o5⟩ := hlb
    obtain ⟨o5, _⟩ := o5 rfl
    subst o5
    simp only at g1 g2 g3 o1 o2 o3
    have hlen : l.length = cells.length := by rw [hcl, cellsR, List.length_map]
    have hv : v = .sl (e2.b β) 0 l.length (some l.length) 1 := by
      rw [← hve2]; simp only [AV.den, Poly.den]
      rw [if_neg (by rw [S2.one]; omega), o1, S2.cz, asC_den S2.one hm, hlen, ← hml]
      simp
    have hbG : ∀ c ∈ l, e2.G (e2.b c.b) = none := fun c hc => (b1 c hc).2.2.2
    have hlfb : fbx e2 rho l 0 (e2.b β) = none := by
      cases hf : fbx e2 rho l 0 (e2.b β) with
      | none => rfl
      | some t' =>
        obtain ⟨k, d, u1, u2, _⟩ := fbx_some hf
        exact absurd u2.symm (b3 d (List.mem_of_getElem? u1) β (by simp) ⟨_, _, hlk2⟩)
    have hgext : ∀ b t, G b = some t → retG G h.n e2 rho l b = some t := fun b t hb => by
      have := (hT.blk b t hb).1
      unfold retG; rw [if_pos this]; exact hb
    refine ⟨v, h', retG G h.n e2 rho l, l.length, fun k => match l[k]? with | some c => ⟨c.g, e2.b c.b, c.rl⟩ | none => ⟨0, 0, []⟩, r1, S2.ext, ⟨fun b t hb => ?_, fun b t hb => ?_⟩, fun b hb => by unfold retG; rw [if_pos hb], ⟨.inr ⟨e2.b β, ty2, AVs.den e2 cells, true, hv, o2, ?_, o3, fun i hi => ?_⟩, fun i hi => ?_, by omega⟩, fun b hb => ?_, fun b t hb ht => ?_⟩
    ·
      unfold retG at hb
      split at hb
      · exact hT.small b t hb
      · split at hb
        · rename_i t' hf
          cases hb
          obtain ⟨k, c, u1, u2, u3⟩ := fbx_some hf
          rw [u3]; simp only
          have := (htab c.g c.rl (htb c (List.mem_of_getElem? u1))).2.1; omega
        · rw [Option.map_eq_some_iff] at hb
          obtain ⟨t', ht', rfl⟩ := hb
          simp only; rw [toLfs_eq, List.length_map]; exact Nat.le_trans (S2.g b t' ht').2.1.1 (limR_le _)
    ·
      have hb0 := hb
      unfold retG at hb
      split at hb
      · rename_i hlt
        obtain ⟨u1, ty', cs, rw', u2, u3, u4, u5⟩ := (hT.ext S2.ext).blk b t hb
        exact ⟨u1, ty', cs, rw', u2, u3, u4, fun j lf x hj hx => (u5 j lf x hj hx).gext hgext⟩
      · split at hb
        · rename_i t' hf
          cases hb
          obtain ⟨k, c, u1, u2, u3⟩ := fbx_some hf
          obtain ⟨ty', cs, w1, w2, w3⟩ := H2 k c u1 e2 (Le.refl _ _)
          obtain ⟨x1, x2, x3, x4⟩ := b1 c (List.mem_of_getElem? u1)
          subst u3
          refine ⟨by rw [u2]; exact x3, ty', cs, true, by rw [u2]; exact w1, w2, ⟨fun _ => rfl, fun h => by cases h⟩, fun j lf x hj hx => ?_⟩
          have := lfOk_ret S2 (G := G) (rho := rho) hbG (r := 0 + k + 1) (by omega) (w3 j lf x hj hx) (regS_of _ lf)
          rw [toLf_of] at this
          exact this
        · rw [Option.map_eq_some_iff] at hb
          obtain ⟨t', ht', rfl⟩ := hb
          rename_i hge _ _
          obtain ⟨y1, y2, y3, y4, ty', cs, rw', y5, y6, y7, y8⟩ := S2.g b t' ht'
          have hr : t'.reg ≠ 0 := fun h => hge (y3 h)
          refine ⟨y1, ty', cs, rw', y5, by simp only; rw [toLfs_eq, List.length_map]; exact y7, ⟨fun _ => y6 hr, fun h => by rw [y6 hr] at h; cases h⟩, fun j lf x hj hx => ?_⟩
          simp only at hj ⊢
          rw [toLfs_eq, List.getElem?_map, Option.map_eq_some_iff] at hj
          obtain ⟨s', hs', rfl⟩ := hj
          exact lfOk_ret S2 hbG hr (y8 j s' x hs' hx) (y2.2 s' (List.mem_of_getElem? hs'))
    · unfold retG
      rw [if_neg (by omega), hlfb, g2]; rfl
    · have hi' : l[i]? = some l[i] := List.getElem?_eq_getElem hi
      rw [hcl, AVs.get, cellsR, List.getElem?_map, hi']
      simp only [Option.map_some, AV.den, AVs.den, Poly.den]
      rw [(b1 l[i] (List.getElem_mem hi)).1]; rfl
    · have hi' : l[i]? = some l[i] := List.getElem?_eq_getElem hi
      simp only [hi']
      obtain ⟨z1, z2, z3, z4⟩ := htab _ _ (htb _ (List.getElem_mem hi))
      refine ⟨z1, ⟨by omega, fun hh => by rw [flats_ss _ _ _ _ _ z4]; simp⟩, ⟨l[i].rl, rho + i, false, true⟩, ?_, rfl, fun j lf hj => hj⟩
      have hge := (b1 l[i] (List.getElem_mem hi)).2.1
      unfold retG
      rw [if_neg (by omega), fbx_at b2 hi']
      simp
    · rw [hv] at hb; simp only [blkOf, Option.some.injEq] at hb; omega
    · unfold retG at ht
      rw [if_neg (by omega)] at ht
      split at ht
      · rename_i t' hf
        cases ht
        obtain ⟨k, c, u1, u2, u3⟩ := fbx_some hf
        rw [u3]; exact ⟨by simp, rfl⟩
      · rw [Option.map_eq_some_iff] at ht
        obtain ⟨t', ht', rfl⟩ := ht
        exact ⟨by simp, rfl⟩
end Go.Mx.Az

namespace Go.Mx.Az.Dc
open Go.Mx.Az
def syms : Nat → Nat → List Nat → List Nat
  | 0, _, t => t
  | f + 1, c, t => (c % 64) :: syms f (c / 64) t
def stream : List Nat → List Nat
  | [] => []
  | c :: cs => syms 100 c (stream cs)
abbrev P (α : Type) := List Nat → α × List Nat
def nat : P Nat
  | [] => (0, [])
  | n :: r => bif Nat.blt n 32 then (n, r) else match nat r with
    | (m, r) => (32 * m + (n - 32), r)
def rep {α : Type} (p : P α) : Nat → P (List α)
  | 0, r => ([], r)
  | n + 1, r => match p r with
    | (a, r) => (match rep p n r with
      | (l, r) => (a :: l, r))
def lst {α : Type} (p : P α) : P (List α) := fun r => match nat r with
  | (n, r) => rep p n r
def int : P Int := fun r => match nat r with
  | (n, r) => (bif Nat.beq (n % 2) 0 then .ofNat (n / 2) else .negSucc (n / 2), r)
def pair {α β : Type} (p : P α) (q : P β) : P (α × β) := fun r => match p r with
  | (a, r) => (match q r with
    | (b, r) => ((a, b), r))
def poly : P Poly := lst (pair nat int)
def nn : P (List (Nat × Nat)) := lst (pair nat nat)
def fk : P Fk := fun r => match lst (pair poly (pair nat nn)) r with
  | (a, r) => (match nn r with
    | (b, r) => (match lst (pair poly (pair nat nn)) r with
      | (s, r) => (match nat r with
        | (c, r) => (match nn r with
          | (d, r) => (⟨a, b, s, c, d⟩, r)))))
def kindOf : Nat → IntKind
  | 0 => .i8 | 1 => .i16 | 2 => .i32 | 3 => .i64 | 4 => .u8 | 5 => .u16 | 6 => .u32 | _ => .u64
def kind : P IntKind := fun r => match nat r with
  | (n, r) => (kindOf n, r)
def cnd : P Cnd := fun r => match nat r with
  | (0, r) => (.lit false, r)
  | (1, r) => (.lit true, r)
  | (2, r) => (match poly r with | (p, r) => (.ge p, r))
  | (3, r) => (match poly r with | (p, r) => (.eqz p, r))
  | (_, r) => (match poly r with | (p, r) => (.nez p, r))
def valOf : Nat → V
  | 0 => .nils | 1 => .nilp | 2 => .nilf | 3 => .nilm | 4 => .nili | 5 => .jk | _ => .pq
def val : P V := fun r => match nat r with
  | (9, r) => (match lst nat r with | (l, r) => (.s (l.map UInt8.ofNat), r))
  | (n, r) => (valOf n, r)
def av : Nat → P AV
  | 0, r => (.k .jk, r)
  | f + 1, r => match nat r with
    | (0, r) => (match cnd r with | (c, r) => (.b c, r))
    | (1, r) => (match pair kind poly r with | ((k, p), r) => (.i k p, r))
    | (2, r) => (match val r with | (v, r) => (.k v, r))
    | (3, r) => (match nat r with | (n, r) => (.x n, r))
    | (4, r) => (match nat r with | (n, r) => (.s n, r))
    | (5, r) => (match pair nat poly r with | ((b, p), r) => (.p b p, r))
    | (6, r) => (match pair nat nat r with
      | ((c, b), r) => (match pair poly poly r with
        | ((o, l), r) => (match pair nat nat r with
          | ((k, z), r) => (.sl c b o l k z, r))))
    | (7, r) => (match pair nat nat r with | ((b, n), r) => (.es b n, r))
    | (8, r) => (match nat r with
      | (g, r) => (match lst (av f) r with
        | (a, r) => (match lst (av f) r with
          | (c, r) => (.f (.func g) a c, r))))
    | (9, r) => (match lst (av f) r with | (l, r) => (.agg l, r))
    | (10, r) => (match lst (av f) r with | (l, r) => (.tup l, r))
    | (_, r) => (match nat r with
      | (t, r) => (match av f r with
        | (a, r) => (.ifc t a, r)))
def al : Nat → P AL
  | 0, r => (.bool, r)
  | f + 1, r => match nat r with
    | (0, r) => (match kind r with
      | (k, r) => (match pair poly poly r with
        | ((a, b), r) => (.int k a b, r)))
    | (1, r) => (.bool, r)
    | (2, r) => (.str, r)
    | (_, r) => (match nat r with
      | (g, r) => (match lst (al f) r with
        | (l, r) => (.sl g l, r)))
def boo : P Bool := fun r => match nat r with
  | (0, r) => (false, r)
  | (_, r) => (true, r)
def hb : P HB := fun r => match nat r with
  | (0, r) => (match boo r with
    | (ro, r) => (match nat r with
      | (ty, r) => (match lst (av 9) r with
        | (l, r) => (.exact ro ty l, r))))
  | (1, r) => (match pair nat nat r with
    | ((c, e), r) => (match lst (al 9) r with
      | (l, r) => (match poly r with
        | (m, r) => (match lst (pair nat poly) r with
          | (ks, r) => (.row c e l m ks, r)))))
  | (_, r) => (match pair nat nat r with
    | ((c, g), r) => (match lst (al 9) r with
      | (l, r) => (match poly r with
        | (m, r) => (.typ c g l m, r))))
def qf : P QF := fun r => match pair nat (pair nat nat) r with
  | ((b, z, j), r) => (match pair poly poly r with
    | ((a, c), r) => (match pair poly poly r with
      | ((x, y), r) => (⟨b, z, j, a, c, x, y⟩, r)))
def tm : P Tm := fun r => match nat r with
  | (un, r) => (match pair (lst nat) nn r with
    | ((lit, lc), r) => (match nat r with
      | (n, r) => (match lst poly r with
        | (F, r) => (match lst (pair nat (pair nat nat)) r with
          | (T, r) => (match lst (pair nat (av 9)) r with
            | (fr, r) => (match lst (pair nat hb) r with
              | (H, r) => (match lst qf r with
                | (Q, r) => (match poly r with
                  | (ms, r) => (match lst (pair nat (pair poly (av 9))) r with
                    | (M, r) => (⟨un, lit, lc, n, F, T, fr, H, Q, ms, M⟩, r))))))))))
def bd : P Bd := fun r => match poly r with
  | (i, r) => (match pair nat nat r with
    | ((b, c), r) => (match pair nat nat r with
      | ((v, s), r) => (⟨i, b, c, v, s⟩, r)))
def hint : P Hint := fun r => match nat r with
  | (0, r) => (match fk r with | (k, r) => (.fk k, r))
  | (1, r) => (.both, r)
  | (2, r) => (match fk r with | (k, r) => (.yes k, r))
  | (3, r) => (match fk r with | (k, r) => (.no k, r))
  | (4, r) => (match nat r with | (n, r) => (.nat n, r))
  | (5, r) => (match tm r with | (t, r) => (.tm t, r))
  | (6, r) => (match nn r with | (l, r) => (.pr l, r))
  | (7, r) => (match lst (al 9) r with | (l, r) => (.el l, r))
  | (8, r) => (match lst bd r with | (l, r) => (.bd l, r))
  | (_, r) => (match pair nat nat r with
    | ((i, j), r) => (match pair fk fk r with
      | ((a, b), r) => (.mu i j a b, r)))
def hints : Nat → List Nat → HS
  | 0, _ => []
  | n + 1, r => match hint r with
    | (h, r) => h :: hints n r
def all (l : List Nat) : HS := match nat (stream l) with
  | (n, r) => hints n r
inductive Tr where
  | lf (l : List Nat)
  | nd (a b : Tr)
def Tr.get : Tr → Nat → List Nat
  | .lf l, _ => l
  | .nd a b, c => bif Nat.beq (c % 2) 0 then a.get (c / 2) else b.get (c / 2)
def app : List Nat → List Nat → List Nat
  | [], t => t
  | a :: r, t => a :: app r t
def symsT (T : Tr) : Nat → Nat → List Nat → List Nat
  | 0, _, t => t
  | f + 1, c, t => bif Nat.blt (c % 1024) 64 then (c % 1024) :: symsT T f (c / 1024) t else app (T.get (c % 1024 - 64)) (symsT T f (c / 1024) t)
def streamT (T : Tr) : List Nat → List Nat
  | [] => []
  | c :: cs => symsT T 100 c (streamT T cs)
def allT (T : Tr) (l : List Nat) : HS := match nat (streamT T l) with
  | (n, r) => hints n r
end Go.Mx.Az.Dc
