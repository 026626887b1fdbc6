/- A verified executor: allocation, indices, slices, append, regions. -/
import Derived.Test.YtedekdoelkdniaaGreatDoorKj
set_option linter.all false
namespace Go.Mx.Az
def newK (ty : Nat) (cells : List AV) (A : AS) (K : Ks) (hs : HS) : Option HS := K (A.newB (.exact false ty cells) fun _ => []) (.p A.n []) hs
theorem FOk.nil (e : Nat → Int) : FOk [] e := fun _ h => by simp at h
theorem SatH.freeG {h0 : H0} {A : AS} {h : Hp} {e : Env} (S : SatH h0 A h e) : e.G h.n = none := by
  cases hg : e.G h.n with
  | none => rfl
  | some t => have := (S.g _ _ hg).1; omega
theorem newK_ok {h0 : H0} {A : AS} {fr : List (Nat × V)} {h : Hp} {e : Env} (S : Sat h0 A ⟨fr, [], h⟩ e) {ty : Nat} {cells : List AV} {vs : List V} (hc : ∀ e', Agr A.n e e' → AVs.den e' cells = vs) {K : Ks} {q q' : HS} (hk : newK ty cells A K q = some q') :
    Out h0 A e K fr (.p h.n 0) (h.push (.blk ty vs true)) := by
  refine ⟨_, _, _, q, q', hk, Le.set _ _ _ _ _, Nat.le_succ _, S.newB _ 0 none (fun e' _ _ _ _ => FOk.nil _) (fun e' ha hg _ hb ho _ a1 => ?_), fun e' ha => ?_⟩
  · refine ⟨ho, by rw [hb]; simp, true, by rw [hb, Hp.get_push_self, hc e' ha], (fun h => by cases h), (fun _ => ⟨rfl, by rw [hb]; exact a1.ext.n, by rw [hb]; exact a1.freeG⟩)⟩
  · simp only [AV.den, Poly.den]
    rw [ha.b _ (Nat.lt_succ_self _), ha.o _ (Nat.lt_succ_self _)]; simp [Env.set]
def allocK (C : Cfg) (t : Nat) (A : AS) (K : Ks) (hs : HS) : Option HS :=
  match C.tb t with
  | some ti => newK (2 * t) (ofVs ti.zero) A K hs
  | none => none
def boxK (t : Nat) (a : AV) (A : AS) (K : Ks) (hs : HS) : Option HS := bif cellsOk a then newK (2 * t) a.cells A K hs else none
theorem alloc_ok {C : Cfg} {t : Nat} {h0 : H0} {A : AS} {fr : List (Nat × V)} {h : Hp} {e : Env} (S : Sat h0 A ⟨fr, [], h⟩ e) {K : Ks} {q q' : HS} (hk : allocK C t A K q = some q') :
    ∃ ti, C.tb t = some ti ∧ Out h0 A e K fr (.p h.n 0) (h.push (.blk (2 * t) ti.zero true)) := by
  unfold allocK at hk
  split at hk <;> first | (cases hk; done) | skip
  rename_i ti ht
  exact ⟨ti, ht, newK_ok S (fun e' ha => ofVs_den (S.nums ha).1 _) hk⟩
theorem box_ok {t : Nat} {a : AV} {h0 : H0} {A : AS} {fr : List (Nat × V)} {h : Hp} {e : Env} (S : Sat h0 A ⟨fr, [], h⟩ e) {x : V} (hx : ∀ e', Agr A.n e e' → a.den e' = x) {K : Ks} {q q' : HS} (hk : boxK t a A K q = some q') :
    Out h0 A e K fr (.p h.n 0) (h.push (.blk (2 * t) x.cells true)) := by
  unfold boxK at hk
  cases hb : cellsOk a <;> rw [hb] at hk <;> simp only [cond_true, cond_false] at hk
  · cases hk
  · exact newK_ok S (fun e' ha => by rw [← (cellsOk_ok hb e').1, hx e' ha]) hk
def partsK (ev : Operand → Option AV) : List (Nat × Operand) → Option (List (Nat × AV))
  | [] => some []
  | (i, x) :: r => match ev x, partsK ev r with
    | some v, some vs => some ((i, v) :: vs)
    | _, _ => none
def pden (e : Env) (l : List (Nat × AV)) : List (Nat × V) := l.map fun p => (p.1, p.2.den e)
theorem partsK_ok {n : Nat} {e : Env} {ev : Operand → Option AV} {cev : Operand → Option V} (E : EvOk n e ev cev) : ∀ {l : List (Nat × Operand)} {ps : List (Nat × AV)}, partsK ev l = some ps → ∀ e', Agr n e e' → partsA cev l = some (pden e' ps)
  | [], ps, h, e', ha => by simp [partsK] at h; subst h; rfl
  | (i, x) :: r, ps, h, e', ha => by
    simp only [partsK] at h
    split at h <;> first | (cases h; done) | skip
    rename_i v vs h1 h2
    cases h
    simp only [partsA, E e' ha x v h1, partsK_ok E h2 e' ha]; rfl
def fillK (place : Nat → Option (Nat × Nat)) (cells : List AV) : List (Nat × AV) → Option (List AV)
  | [] => some cells
  | (i, v) :: rest => match place i with
    | none => none
    | some (off, size) => bif cellsOk v && Nat.beq v.cells.length size && Nat.ble (off + v.cells.length) cells.length then fillK place (setAllA cells off v.cells) rest else none
theorem fillK_ok {place : Nat → Option (Nat × Nat)} (e : Env) : ∀ {ps : List (Nat × AV)} {cells cells' : List AV}, fillK place cells ps = some cells' → fillA place (AVs.den e cells) (pden e ps) = some (AVs.den e cells')
  | [], cells, cells', h => by simp [fillK] at h; subst h; rfl
  | (i, v) :: r, cells, cells', h => by
    simp only [fillK] at h
    simp only [pden, List.map_cons, fillA]
    split at h <;> first | (cases h; done) | skip
    rename_i off size hp
    rw [hp]; simp only
    cases hb : (cellsOk v && Nat.beq v.cells.length size && Nat.ble (off + v.cells.length) cells.length) <;> rw [hb] at h <;> simp only [cond_true, cond_false] at h
    · cases h
    · simp only [Bool.and_eq_true] at hb
      have h1 := (cellsOk_ok hb.1.1 e).1
      have h2 := Nat.eq_of_beq_eq_true hb.1.2
      have h3 := Nat.le_of_ble_eq_true hb.2
      rw [h1, AVs.length, AVs.length, if_neg (by omega), ← setAllA_den]
      exact fillK_ok e h
def buildK (C : Cfg) (t : Nat) (ps : List (Nat × AV)) (A : AS) (K : Ks) (hs : HS) : Option HS :=
  match C.tb t with
  | none => none
  | some ti => match ti.d with
    | .struct fs => (match placesA C.tb fs.toList with
      | some pl => (match fillK (fun i => pl[i]?) (ofVs ti.zero) ps with
        | some cells => K A (.agg cells) hs
        | none => none)
      | none => none)
    | .array _ e => (match C.tb e with
      | some te => (match fillK (fun i => some (i * te.size, te.size)) (ofVs ti.zero) ps with
        | some cells => K A (.agg cells) hs
        | none => none)
      | none => none)
    | _ => none
theorem build_ok {C : Cfg} {t : Nat} {ps : List (Nat × AV)} {h0 : H0} {A : AS} {fr : List (Nat × V)} {h : Hp} {e : Env} (S : Sat h0 A ⟨fr, [], h⟩ e) {l : List (Nat × V)} (hl : ∀ e', Agr A.n e e' → pden e' ps = l) {K : Ks} {q q' : HS} (hk : buildK C t ps A K q = some q') :
    ∃ v, buildA C.tb t l = some v ∧ Out h0 A e K fr v h := by
  have fin : ∀ {place} {z : List V} {cells : List AV}, fillK place (ofVs z) ps = some cells → ∀ e', Agr A.n e e' → fillA place z l = some (AVs.den e' cells) := fun hf e' ha => by
    have := fillK_ok e' hf
    rw [hl e' ha, ofVs_den (S.nums ha).1] at this; exact this
  have out : ∀ {place} {z : List V} {cells : List AV}, fillK place (ofVs z) ps = some cells → K A (.agg cells) q = some q' → Out h0 A e K fr (.agg (AVs.den e cells)) h := fun hf hk =>
    Out.same S (fun e' ha => by
      have h1 := fin hf e' ha
      rw [fin hf e (Agr.refl _ _)] at h1
      simp only [AV.den]; rw [Option.some.inj h1]) hk
  unfold buildK at hk
  unfold buildA
  split at hk
  · cases hk
  · rename_i ti ht
    rw [ht]; simp only
    split at hk <;> first | (cases hk; done) | skip
    · rename_i fs hd
      rw [hd]; simp only
      split at hk <;> first | (cases hk; done) | skip
      rename_i pl hpl
      rw [hpl]; simp only
      split at hk <;> first | (cases hk; done) | skip
      rename_i cells hf
      rw [fin hf e (Agr.refl _ _)]
      exact ⟨_, rfl, out hf hk⟩
    · rename_i n e1 hd
      rw [hd]; simp only
      split at hk <;> first | (cases hk; done) | skip
      rename_i te hte
      rw [hte]; simp only
      split at hk <;> first | (cases hk; done) | skip
      rename_i cells hf
      rw [fin hf e (Agr.refl _ _)]
      exact ⟨_, rfl, out hf hk⟩
def repAL (k : Nat) (el : List AL) : List AL := match k with
  | 0 => []
  | k + 1 => el ++ repAL k el
theorem repAL_get (n : Nat) (l : List AL) (i j : Nat) (hi : i < n) (hj : j < l.length) : (repAL n l)[i * l.length + j]? = l[j]? := by
  induction n generalizing i with
  | zero => omega
  | succ n ih =>
    rw [repAL]
    cases i with
    | zero => rw [Nat.zero_mul, Nat.zero_add, List.getElem?_append_left hj]
    | succ i =>
      rw [List.getElem?_append_right (by rw [Nat.succ_mul]; omega)]
      have e1 : (i + 1) * l.length + j - l.length = i * l.length + j := by rw [Nat.succ_mul]; omega
      rw [e1]; exact ih i (by omega)
def buildSliceK (C : Cfg) (t n : Nat) (ps : List (Nat × AV)) (A : AS) (K : Ks) (hs : HS) : Option HS :=
  match C.tb t with
  | none => none
  | some ti => match ti.d with
    | .slice e => (match C.tb e with
      | some te => bif Nat.ble (n * te.size) 16777216 && Nat.blt 0 te.size && Nat.beq te.zero.length te.size then (match fillK (fun i => some (i * te.size, te.size)) (ofVs (rep n te.zero)) ps with
        | some cells => (match C.el A e 2 hs with
          | some (none, hs) => K (A.newB (.exact false (2 * e) cells) fun _ => []) (.sl 0 A.n [] (constP n) 0 te.size) hs
          | some (some el, hs) => bif Nat.beq el.length te.size && Nat.beq cells.length (n * te.size) then leafsK C A (repAL n el) cells (fun A hs => K (A.newB (.row 0 e el (constP n) [(0, constP n)]) fun _ => []) (.sl 0 A.n [] (constP n) 0 te.size) hs) hs else none
          | none => none)
        | none => none) else none
      | none => none)
    | _ => none
theorem buildSlice_ok {C : Cfg} (hC : CfgOk C) {t n : Nat} {ps : List (Nat × AV)} {h0 : H0} {A : AS} {fr : List (Nat × V)} {h : Hp} {e : Env} (S : Sat h0 A ⟨fr, [], h⟩ e) {l : List (Nat × V)} (hl : ∀ e', Agr A.n e e' → pden e' ps = l) {K : Ks} {q q' : HS} (hk : buildSliceK C t n ps A K q = some q') :
    ∃ v h', buildSliceA C.tb h t n l = some (v, h') ∧ Out h0 A e K fr v h' := by
  unfold buildSliceK at hk
  unfold buildSliceA
  split at hk
  · cases hk
  · rename_i ti ht
    rw [ht]; simp only
    split at hk <;> first | (cases hk; done) | skip
    rename_i e1 hd
    rw [hd]; simp only
    split at hk <;> first | (cases hk; done) | skip
    rename_i te hte
    rw [hte]; simp only
    cases hb : (Nat.ble (n * te.size) 16777216 && Nat.blt 0 te.size && Nat.beq te.zero.length te.size) <;> rw [hb] at hk <;> simp only [cond_true, cond_false] at hk
    · cases hk
    · simp only [Bool.and_eq_true] at hb
      rw [if_pos ⟨Nat.le_of_ble_eq_true hb.1.1, Nat.le_of_ble_eq_true hb.1.2, Nat.eq_of_beq_eq_true hb.2⟩]
      split at hk <;> first | (cases hk; done) | skip
      rename_i cells hf
      have fin : ∀ e', Agr A.n e e' → fillA (fun i => some (i * te.size, te.size)) (rep n te.zero) l = some (AVs.den e' cells) := fun e' ha => by
        have := fillK_ok e' hf
        rw [hl e' ha, ofVs_den (S.nums ha).1] at this; exact this
      rw [fin e (Agr.refl _ _)]
      have hc : ∀ e', Agr A.n e e' → AVs.den e' cells = AVs.den e cells := fun e' ha => by
        have := fin e' ha; rw [fin e (Agr.refl _ _)] at this; exact (Option.some.inj this).symm
      split at hk <;> first | (cases hk; done) | skip
      · rename_i q1 _
        refine ⟨_, _, rfl, _, _, _, q1, q', hk, Le.set _ _ _ _ _, Nat.le_succ _, S.newB _ 0 none (fun e' _ _ _ _ => FOk.nil _) (fun e' ha hg _ hb ho _ a1 => ?_), fun e' ha => ?_⟩
        · refine ⟨ho, by rw [hb]; simp, true, by rw [hb, Hp.get_push_self, hc e' ha], (fun h => by cases h), (fun _ => ⟨rfl, by rw [hb]; exact a1.ext.n, by rw [hb]; exact a1.freeG⟩)⟩
        · have hA : Agr A.n e e' := (e.set_agr _ _ _ _ _ _).trans ha (Nat.le_succ _)
          have h1 := (S.nums hA).1
          have h2 := (S.up hA).cz
          simp only at h2
          simp only [AV.den, Poly.den, den_const h1]
          rw [if_neg (by rw [h1]; omega), ha.b _ (Nat.lt_succ_self _), ha.o _ (Nat.lt_succ_self _), h2]; simp [Env.set]
      · rename_i el q1 _
        cases hb2 : (Nat.beq el.length te.size && Nat.beq cells.length (n * te.size)) <;> rw [hb2] at hk <;> simp only [cond_true, cond_false] at hk
        · cases hk
        simp only [Bool.and_eq_true] at hb2
        have hel := Nat.eq_of_beq_eq_true hb2.1
        have hcl := Nat.eq_of_beq_eq_true hb2.2
        obtain ⟨A1, e2, q2, q3, k1, W, hlen, L⟩ := leafsK_ok hC S hk
        have hA1 : ∀ e', Agr A1.n e2 e' → Agr A.n e e' := fun e' ha => W.le.agr.trans ha (by rw [W.n]; exact Nat.le_refl _)
        refine ⟨_, _, rfl, Out.step W.le (by rw [W.n]; exact Nat.le_refl _) ⟨_, _, _, q2, q3, k1, Le.set _ _ _ _ _, Nat.le_succ _, W.s.newB _ 0 none (fun e' _ _ _ _ => FOk.nil _) (fun e' ha hg _ hbb ho _ a1 => ?_), fun e' ha => ?_⟩⟩
        · intro _
          have h1 := (S.nums (hA1 e' ha)).1
          rw [hbb, den_const h1]
          refine ⟨ho, by simp, a1.ext.n, a1.freeG, Int.natCast_nonneg _, fun p hp => ?_, _, _, by omega, Hp.get_push_self _ _, by rw [AVs.length, hcl, hel]; simp, fun i j l v hi hj hv => ?_⟩
          · simp only [List.mem_singleton] at hp; subst hp
            simp only; rw [den_const h1, a1.cz]; simp
          · have hjl := (List.getElem?_eq_some_iff.1 hj).1
            rw [← hc e' (hA1 e' ha), AVs.get] at hv
            obtain ⟨a, ha', rfl⟩ := Option.map_eq_some_iff.1 hv
            rw [hg]
            exact L e' ha (i * el.length + j) l a (by rw [repAL_get _ _ _ _ (by simpa using hi) hjl]; exact hj) ha'
        · have hA : Agr A1.n e2 e' := (e2.set_agr _ _ _ _ _ _).trans ha (Nat.le_succ _)
          have h1 := (W.s.nums hA).1
          have h2 := (W.s.up hA).cz
          simp only at h2
          simp only [AV.den, Poly.den, den_const h1]
          rw [if_neg (by rw [h1]; omega), ha.b _ (Nat.lt_succ_self _), ha.o _ (Nat.lt_succ_self _), h2]; simp [Env.set]
def zeroOk : List AL → List V → Bool
  | [], [] => true
  | .int _ lo hi :: r, .i _ n :: s => (match asC lo, asC hi with
    | some a, some b => isNn (n - a) && isNn (b - n)
    | _, _ => false) && zeroOk r s
  | .bool :: r, .b _ :: s => zeroOk r s
  | .str :: r, .s _ :: s => zeroOk r s
  | .sl _ _ :: r, .nils :: s => zeroOk r s
  | _, _ => false
def kindOk : List AL → List V → Bool
  | .int k _ _ :: r, .i k' n :: s => decide (k = k') && isNn (n - lo k) && isNn (hi k - n) && kindOk r s
  | _ :: r, _ :: s => kindOk r s
  | _, _ => true
theorem zeroOk_ok {e : Nat → Int} (h1 : e 0 = 1) {G : Nat → Option SB} : ∀ {el : List AL} {z : List V}, zeroOk el z = true → kindOk el z = true → el.length = z.length ∧ ∀ (j : Nat) l v, el[j]? = some l → z[j]? = some v → SlOk G (l.den e) v := by
  intro el
  induction el with
  | nil => intro z h _; cases z with
    | nil => exact ⟨rfl, fun j l v h => by simp at h⟩
    | cons => simp [zeroOk] at h
  | cons l r ih =>
    intro z h hk
    cases z with
    | nil => cases l <;> simp [zeroOk] at h
    | cons v s =>
      have step : zeroOk r s = true → kindOk r s = true → SlOk G (l.den e) v → (l :: r).length = (v :: s).length ∧ ∀ (j : Nat) l' v', (l :: r)[j]? = some l' → (v :: s)[j]? = some v' → SlOk G (l'.den e) v' := fun h1 h2 h3 => by
        obtain ⟨i1, i2⟩ := ih h1 h2
        refine ⟨by simp [i1], fun j l' v' hj hv => ?_⟩
        cases j with
        | zero => simp only [List.getElem?_cons_zero, Option.some.injEq] at hj hv; subst hj; subst hv; exact h3
        | succ j => exact i2 j l' v' (by simpa using hj) (by simpa using hv)
      cases l <;> cases v <;> simp only [zeroOk, Bool.and_eq_true, Bool.false_eq_true] at h
      · rename_i k l u k' n
        simp only [kindOk, Bool.and_eq_true] at hk
        obtain ⟨⟨⟨c1, c2⟩, c3⟩, c4⟩ := hk
        have c1 := of_decide_eq_true c1; have c2 := isNn_le c2; have c3 := isNn_le c3
        subst c1
        refine step h.2 c4 ?_
        have h := h.1
        split at h
        · rename_i a b ha hb
          simp only [Bool.and_eq_true] at h
          have d1 := isNn_le h.1; have d2 := isNn_le h.2
          have a1 := asC_den h1 ha; have a2 := asC_den h1 hb
          exact ⟨n, rfl, by omega, by omega, wrap_in (by omega) (by omega)⟩
        · cases h
      · exact step h (by simpa [kindOk] using hk) ⟨_, rfl⟩
      · exact step h (by simpa [kindOk] using hk) ⟨_, rfl⟩
      · exact step h (by simpa [kindOk] using hk) (.inl rfl)
def makeSliceK (C : Cfg) (t : Nat) (a c : AV) (A : AS) (K : Ks) (hs : HS) : Option HS :=
  match C.tb t, a, c with
  | some ti, .i .i64 n, .i .i64 m => (match ti.d with
    | .slice e => (match C.tb e, C.el A e 0 hs with
      | some te, some (some el, hs) => bif zeroOk el te.zero && kindOk el te.zero && Nat.beq te.zero.length te.size && Nat.blt 0 te.size then
          (match pvs C A [n, subP m n, addC (smul (-(te.bytes : Int)) m) 281474976710656, addC (negP m) 9223372036854775807] hs with
           | some hs => K (A.newB (.row 0 e el m [(A.n, n)]) fun _ => []) (.sl 0 A.n [] n A.n te.size) hs
           | none => none) else none
      | _, _ => none)
    | _ => none)
  | _, _, _ => none
theorem makeSlice_ok {C : Cfg} (hC : CfgOk C) {t : Nat} {a c : AV} {h0 : H0} {A : AS} {fr : List (Nat × V)} {h : Hp} {e : Env} (S : Sat h0 A ⟨fr, [], h⟩ e) {x y : V} (hx : ∀ e', Agr A.n e e' → a.den e' = x) (hy : ∀ e', Agr A.n e e' → c.den e' = y) {K : Ks} {q q' : HS} (hk : makeSliceK C t a c A K q = some q') :
    ∃ v h', makeSliceA C.tb h t x y = some (v, h') ∧ Out h0 A e K fr v h' := by
  unfold makeSliceK at hk
  split at hk <;> first | (cases hk; done) | skip
  rename_i ti n m ht
  split at hk <;> first | (cases hk; done) | skip
  rename_i e1 hd
  split at hk <;> first | (cases hk; done) | skip
  rename_i te el q0 hte _
  cases hb : (zeroOk el te.zero && kindOk el te.zero && Nat.beq te.zero.length te.size && Nat.blt 0 te.size) <;> rw [hb] at hk <;> simp only [cond_true, cond_false] at hk
  · cases hk
  simp only [Bool.and_eq_true] at hb
  obtain ⟨⟨⟨z1, z2⟩, z3⟩, z4⟩ := hb
  have z3 := Nat.eq_of_beq_eq_true z3
  have z4 : 0 < te.size := Nat.le_of_ble_eq_true z4
  split at hk <;> first | (cases hk; done) | skip
  rename_i q1 h1
  have S0 := S.here.1
  have hn : ∀ e', Agr A.n e e' → n.den e'.i = n.den e.i := fun e' ha => by
    have h3 := hx e' ha; rw [← hx e (Agr.refl _ _)] at h3; simpa [AV.den] using h3
  have hm : ∀ e', Agr A.n e e' → m.den e'.i = m.den e.i := fun e' ha => by
    have h3 := hy e' ha; rw [← hy e (Agr.refl _ _)] at h3; simpa [AV.den] using h3
  have p1 := pvs_ok hC h1 S0 n (by simp)
  have p2 := pvs_ok hC h1 S0 (subP m n) (by simp)
  have p3 := pvs_ok hC h1 S0 (addC (smul (-(te.bytes : Int)) m) 281474976710656) (by simp)
  have p4 := pvs_ok hC h1 S0 (addC (negP m) 9223372036854775807) (by simp)
  rw [den_sub] at p2
  rw [den_addC S0.one, den_smul] at p3
  rw [den_addC S0.one, den_neg] at p4
  have p3' : (te.bytes : Int) * m.den e.i ≤ 281474976710656 := by
    have : -(te.bytes : Int) * m.den e.i = -(te.bytes * m.den e.i) := Int.neg_mul ..
    omega
  rw [← hx e (Agr.refl _ _), ← hy e (Agr.refl _ _)]
  simp only [AV.den, makeSliceA, ht, hd, hte]
  rw [if_pos ⟨p1, by omega, by omega, p3', z3⟩]
  refine ⟨_, _, rfl, _, _, _, q1, q', hk, Le.set _ _ _ _ _, Nat.le_succ _, S.newB _ 0 (some ((m.den e.i).toNat - (n.den e.i).toNat)) (fun e' _ _ _ _ => FOk.nil _) (fun e' ha hg _ hb ho hcc a1 => ?_), fun e' ha => ?_⟩
  · intro _
    have zz := zeroOk_ok (e := e'.i) a1.one (G := e'.G) z1 z2
    rw [hb, hm e' ha]
    refine ⟨ho, by simp, a1.ext.n, a1.freeG, by omega, fun p hp => ?_, _, _, by omega, Hp.get_push_self _ _, by rw [rep_len, zz.1], fun i j l v hi hj hv => ?_⟩
    · simp only [List.mem_singleton] at hp
      subst hp
      simp only
      rw [hcc, hn e' ha, Option.getD_some]; omega
    · have hjl := (List.getElem?_eq_some_iff.1 hj).1
      rw [zz.1] at hv hjl
      exact zz.2 j l v hj (rep_get hv hjl)
  · have hA : Agr A.n e e' := (e.set_agr _ _ _ _ _ _).trans ha (Nat.le_succ _)
    have h1 : e'.i 0 = 1 := (S.nums hA).1
    simp only [AV.den, Poly.den]
    rw [if_neg (by rw [h1]; omega), ha.b _ (Nat.lt_succ_self _), ha.o _ (Nat.lt_succ_self _), ha.c _ (Nat.lt_succ_self _), hn e' hA]
    simp [Env.set]; omega
def lenK (C : Cfg) (t : Nat) (a : AV) (A : AS) (K : Ks) (hs : HS) : Option HS :=
  match C.tb t with
  | none => none
  | some ti => match ti.d, a with
    | .string, a => (match lenOf a with
      | some p => (match C.pv A p hs with
        | some hs => K A (.i .i64 p) hs
        | none => none)
      | none => none)
    | .array n _, _ => K A (.i .i64 (constP n)) hs
    | .slice _, .k v => bif vbeq v .nils then K A (.i .i64 []) hs else none
    | .slice _, .sl c _ _ len _ _ => (match pvs C A (match c with | 0 => [len] | c => [len, subP (smul BIG (varP c)) len]) hs with
      | some hs => K A (.i .i64 len) hs
      | none => none)
    | .slice _, .es _ _ => K A (.i .i64 []) hs
    | _, _ => none
def slLen : V → Option V
  | .nils => some (.i .i64 0)
  | .sl _ _ n _ _ => some (.i .i64 n)
  | .se _ _ => some (.i .i64 0)
  | _ => none
theorem blt_slice {tb : Nat → Option TI} {ats : Array Nat} {t e1 : Nat} {ti : TI} (hat : ats[0]? = some t) (ht : tb t = some ti) (hd : ti.d = .slice e1) (x : V) : bltA tb .len ats [x] = slLen x := by
  simp only [bltA, hat, ht, hd]; cases x <;> rfl
theorem len_ok {C : Cfg} (hC : CfgOk C) {t : Nat} {a : AV} {h0 : H0} {A : AS} {fr : List (Nat × V)} {h : Hp} {e : Env} (S : Sat h0 A ⟨fr, [], h⟩ e) {x : V} (hx : ∀ e', Agr A.n e e' → a.den e' = x) {K : Ks} {q q' : HS} (hk : lenK C t a A K q = some q') (ats : Array Nat) (hat : ats[0]? = some t) :
    ∃ v, bltA C.tb .len ats [x] = some v ∧ Out h0 A e K fr v h := by
  have S0 := S.here.1
  unfold lenK at hk
  split at hk
  · cases hk
  rename_i ti ht
  have hxe := hx e (Agr.refl _ _)
  simp only [bltA, hat, ht]
  split at hk <;> first | (cases hk; done) | skip
  · rename_i hd
    rw [hd]
    split at hk <;> first | (cases hk; done) | skip
    rename_i p hp
    split at hk <;> first | (cases hk; done) | skip
    rename_i q1 h1
    have key : ∀ e', Agr A.n e e' → ∃ l, x = .s l ∧ (l.length : Int) = p.den e'.i := fun e' ha => by
      obtain ⟨l, h2, h3⟩ := lenOf_ok (e := e') (S.nums ha).1 hp (hC.pv (e := { e' with G := e.G }) h1 (S.up ha))
      exact ⟨l, by rw [← hx e' ha, h2], h3⟩
    obtain ⟨l, h2, h3⟩ := key e (Agr.refl _ _)
    rw [h2]
    refine ⟨_, rfl, Out.same S (fun e' ha => ?_) hk⟩
    obtain ⟨l', h4, h5⟩ := key e' ha
    rw [h2] at h4; cases h4
    simp only [AV.den, ← h5]
  · rename_i n e1 hd
    rw [hd]
    exact ⟨_, rfl, Out.same S (fun e' ha => by simp only [AV.den, den_const (S.nums ha).1]) hk⟩
  · rename_i e1 v hd
    cases hb : vbeq v .nils <;> rw [hb] at hk <;> simp only [cond_true, cond_false] at hk
    · cases hk
    · rw [hd, ← hxe]
      simp only [AV.den, veq_of hb]
      exact ⟨_, rfl, Out.same S (fun e' ha => by simp [AV.den, Poly.den]) hk⟩
  · rename_i e1 c β off len cap z hd
    split at hk <;> first | (cases hk; done) | skip
    rename_i q1 h1
    have key : ∀ e', Agr A.n e e' → 0 ≤ len.den e'.i ∧ (e'.i c = 0 → len.den e'.i = 0) := fun e' ha => by
      have S1 := S.up ha
      split at h1
      · have := pvs_ok hC h1 S1 len (by simp)
        exact ⟨this, fun h => by rw [S1.one] at h; cases h⟩
      · have a1 := pvs_ok hC h1 S1 len (by simp)
        have a2 := pvs_ok hC h1 S1 (subP (smul BIG (varP c)) len) (by simp)
        rw [den_sub, den_smul, den_var] at a2
        exact ⟨a1, fun h => by simp only at a1 a2 h; rw [h] at a2; omega⟩
    have hv : ∀ e', Agr A.n e e' → slLen x = some (V.i .i64 (len.den e'.i)) := fun e' ha => by
      have k := key e' ha
      rw [← hx e' ha]; simp only [AV.den]
      by_cases hc : e'.i c = 0
      · rw [if_pos hc, k.2 hc]; rfl
      · rw [if_neg hc]; simp only [slLen]; rw [Int.toNat_of_nonneg k.1]
    refine ⟨.i .i64 (len.den e.i), ?_, Out.same S (fun e' ha => ?_) hk⟩
    · have h9 := blt_slice hat ht hd x
      simp only [bltA, hat, ht] at h9
      rw [h9]; exact hv e (Agr.refl _ _)
    · have := hv e' ha
      rw [hv e (Agr.refl _ _)] at this
      simp only [AV.den]; simpa using this.symm
  · rename_i e1 β n hd
    rw [hd, ← hxe]
    simp only [AV.den]
    rcases emptyV_cases (e.b β) (e.v n) with ⟨b', o, c, z, hx⟩ | ⟨z, hx⟩ <;> rw [hx] <;>
      exact ⟨_, rfl, Out.same S (fun e' ha => by simp [AV.den, Poly.den]) hk⟩
end Go.Mx.Az

namespace Go.Mx.Az
def nnK (C : Cfg) (A : AS) (p : Poly) (hs : HS) : Option HS := match asC p with
  | some n => bif isNn n then some hs else none
  | none => C.pv A p hs
theorem nnK_ok {C : Cfg} (hC : CfgOk C) {A : AS} {p : Poly} {hs hs' : HS} (h : nnK C A p hs = some hs') {h0 : H0} {hp : Hp} {e : Env} (S : SatH h0 A hp e) : 0 ≤ p.den e.i := by
  unfold nnK at h
  split at h
  · rename_i n hn
    cases hb : isNn n <;> rw [hb] at h <;> simp only [cond_true, cond_false] at h
    · cases h
    · rw [asC_den S.one hn]; exact isNn_le hb
  · exact hC.pv h S
def fieldAddrK (C : Cfg) (s : Nat) (a : AV) (f : Nat) (A : AS) (K : Ks) (hs : HS) : Option HS :=
  match C.tb s, a with
  | some si, .p β q => (match si.d with
    | .struct fs => (match fs[f]? with
      | some fld => (match C.tb fld.type with
        | some ti => bif Nat.beq ti.size 0 then none else (match nnK C A q hs with
          | some hs => K A (.p β (addC q fld.offset)) hs
          | none => none)
        | none => none)
      | none => none)
    | _ => none)
  | _, _ => none
theorem fieldAddr_ok {C : Cfg} (hC : CfgOk C) {s f : Nat} {a : AV} {h0 : H0} {A : AS} {fr : List (Nat × V)} {h : Hp} {e : Env} (S : Sat h0 A ⟨fr, [], h⟩ e) {x : V} (hx : ∀ e', Agr A.n e e' → a.den e' = x) {K : Ks} {q q' : HS} (hk : fieldAddrK C s a f A K q = some q') :
    ∃ v, fieldAddrA C.tb s x f = some v ∧ Out h0 A e K fr v h := by
  unfold fieldAddrK at hk
  split at hk <;> first | (cases hk; done) | skip
  rename_i si β qo hs
  split at hk <;> first | (cases hk; done) | skip
  rename_i fs hd
  split at hk <;> first | (cases hk; done) | skip
  rename_i fld hf
  split at hk <;> first | (cases hk; done) | skip
  rename_i ti ht
  cases hz : Nat.beq ti.size 0 <;> rw [hz] at hk <;> simp only [cond_true, cond_false] at hk
  · have hz' : ti.size ≠ 0 := fun h => by rw [h] at hz; cases hz
    split at hk <;> first | (cases hk; done) | skip
    rename_i q1 h1
    have key : ∀ e', Agr A.n e e' → fieldAddrA C.tb s x f = some ((AV.p β (addC qo fld.offset)).den e') := fun e' ha => by
      have S1 := S.up ha
      have hq := nnK_ok hC h1 S1
      simp only at hq
      rw [← hx e' ha]
      simp only [AV.den, fieldAddrA, hs, hd, hf, ht, if_neg hz']
      rw [den_addC (S.nums ha).1, Nat.add_assoc]; congr 3; omega
    refine ⟨_, key e (Agr.refl _ _), Out.same S (fun e' ha => ?_) hk⟩
    have := key e' ha; rw [key e (Agr.refl _ _)] at this; exact (Option.some.inj this).symm
  · cases hk
def indexAddrK (C : Cfg) (t : Nat) (a i : AV) (A : AS) (K : Ks) (hs : HS) : Option HS :=
  match C.tb t, i with
  | some ti, .i _ p => (match ti.d, a with
    | .slice e, .sl c β off len _ z => (match C.tb e with
      | some te => bif Nat.beq te.size z then (match nnK C A p hs with
        | none => none
        | some hs => match nnK C A off hs with
          | none => none
          | some hs => match pvs C A (match c with | 0 => [addC (subP len p) (-1)] | c => [addC (subP len p) (-1), addC (varP c) (-1)]) hs with
            | some hs => K A (.p β (addP off (smul (z : Int) p))) hs
            | none => none) else none
      | none => none)
    | .array n e, .p β q => (match C.tb e with
      | some te => (match nnK C A p hs with
        | none => none
        | some hs => match nnK C A q hs with
          | none => none
          | some hs => match nnK C A (addC (subP (constP n) p) (-1)) hs with
            | some hs => K A (.p β (addP q (smul (te.size : Int) p))) hs
            | none => none)
      | none => none)
    | _, _ => none)
  | _, _ => none
theorem toNat_row {o p : Int} {z : Nat} (ho : 0 ≤ o) (hp : 0 ≤ p) : (o + z * p).toNat = o.toNat + p.toNat * z := by
  have : ((o.toNat + p.toNat * z : Nat) : Int) = o + z * p := by
    rw [Int.natCast_add, Int.natCast_mul, Int.toNat_of_nonneg ho, Int.toNat_of_nonneg hp, Int.mul_comm]
  omega
theorem indexAddr_ok {C : Cfg} (hC : CfgOk C) {t : Nat} {a i : AV} {h0 : H0} {A : AS} {fr : List (Nat × V)} {h : Hp} {e : Env} (S : Sat h0 A ⟨fr, [], h⟩ e) {x y : V} (hx : ∀ e', Agr A.n e e' → a.den e' = x) (hy : ∀ e', Agr A.n e e' → i.den e' = y) {K : Ks} {q q' : HS} (hk : indexAddrK C t a i A K q = some q') :
    ∃ v, indexAddrA C.tb t x y = some v ∧ Out h0 A e K fr v h := by
  unfold indexAddrK at hk
  split at hk <;> first | (cases hk; done) | skip
  rename_i ti k p ht
  split at hk <;> first | (cases hk; done) | skip
  · rename_i e1 c β off len cap z hd
    split at hk <;> first | (cases hk; done) | skip
    rename_i te hte
    cases hz : Nat.beq te.size z <;> rw [hz] at hk <;> simp only [cond_true, cond_false] at hk
    · cases hk
    have hz := Nat.eq_of_beq_eq_true hz
    split at hk <;> first | (cases hk; done) | skip
    rename_i q1 h1
    split at hk <;> first | (cases hk; done) | skip
    rename_i q2 h2
    split at hk <;> first | (cases hk; done) | skip
    rename_i q3 h3
    have key : ∀ e', Agr A.n e e' → indexAddrA C.tb t x y = some ((AV.p β (addP off (smul (z : Int) p))).den e') := fun e' ha => by
      have S1 := S.up ha
      have b1 := nnK_ok hC h1 S1
      have b2 := nnK_ok hC h2 S1
      have b3 : p.den e'.i < len.den e'.i ∧ e'.i c ≠ 0 := by
        have one := S1.one
        split at h3
        · have c1 := pvs_ok hC h3 S1 (addC (subP len p) (-1)) (by simp)
          rw [den_addC one, den_sub] at c1
          simp only at c1 one
          exact ⟨by omega, by rw [one]; omega⟩
        · rename_i c'
          have c1 := pvs_ok hC h3 S1 (addC (subP len p) (-1)) (by simp)
          have c2 := pvs_ok hC h3 S1 (addC (varP c) (-1)) (by simp)
          rw [den_addC one, den_sub] at c1
          rw [den_addC one, den_var] at c2
          simp only at c1 c2
          exact ⟨by omega, by omega⟩
      simp only at b1 b2
      rw [← hx e' ha, ← hy e' ha]
      simp only [AV.den, if_neg b3.2, indexAddrA, ht, hd, hte]
      rw [if_pos ⟨hz, b1, by omega⟩, den_add, den_smul, toNat_row b2 b1, Nat.add_assoc]
    refine ⟨_, key e (Agr.refl _ _), Out.same S (fun e' ha => ?_) hk⟩
    have := key e' ha; rw [key e (Agr.refl _ _)] at this; exact (Option.some.inj this).symm
  · rename_i n e1 β qo hd
    split at hk <;> first | (cases hk; done) | skip
    rename_i te hte
    split at hk <;> first | (cases hk; done) | skip
    rename_i q1 h1
    split at hk <;> first | (cases hk; done) | skip
    rename_i q2 h2
    split at hk <;> first | (cases hk; done) | skip
    rename_i q3 h3
    have key : ∀ e', Agr A.n e e' → indexAddrA C.tb t x y = some ((AV.p β (addP qo (smul (te.size : Int) p))).den e') := fun e' ha => by
      have S1 := S.up ha
      have b1 := nnK_ok hC h1 S1
      have b2 := nnK_ok hC h2 S1
      have b3 := nnK_ok hC h3 S1
      rw [den_addC S1.one, den_sub, den_const S1.one] at b3
      simp only at b1 b2 b3
      rw [← hx e' ha, ← hy e' ha]
      simp only [AV.den, indexAddrA, ht, hd, hte]
      rw [if_pos ⟨b1, by omega⟩, den_add, den_smul, toNat_row b2 b1, Nat.add_assoc]
    refine ⟨_, key e (Agr.refl _ _), Out.same S (fun e' ha => ?_) hk⟩
    have := key e' ha; rw [key e (Agr.refl _ _)] at this; exact (Option.some.inj this).symm
def fieldK (C : Cfg) (s : Nat) (a : AV) (f : Nat) : Option AV :=
  match C.tb s, a with
  | some si, .agg cs => (match si.d with
    | .struct fs => (match fs[f]? with
      | some fld => (match C.tb fld.type with
        | some ti => partA ti cs fld.offset
        | none => none)
      | none => none)
    | _ => none)
  | _, _ => none
theorem field_ok {C : Cfg} {s f : Nat} {a r : AV} (h : fieldK C s a f = some r) (e : Env) : fieldA C.tb s (a.den e) f = some (r.den e) := by
  unfold fieldK at h
  split at h <;> first | (cases h; done) | skip
  rename_i si cs hs
  split at h <;> first | (cases h; done) | skip
  rename_i fs hd
  split at h <;> first | (cases h; done) | skip
  rename_i fld hf
  split at h <;> first | (cases h; done) | skip
  rename_i ti ht
  simp only [AV.den, fieldA, hs, hd, hf, ht]
  exact partA_ok h e
def indexK (C : Cfg) (t : Nat) (a i : AV) (A : AS) (K : Ks) (hs : HS) : Option HS :=
  match C.tb t, i with
  | some ti, .i _ p => (match ti.d, a with
    | .array n e, .agg cs => (match C.tb e, asC p with
      | some te, some k => bif isNn k && isNn (n - k - 1) then (match partA te cs (k.toNat * te.size) with
        | some v => K A v hs
        | none => none) else none
      | _, _ => none)
    | .string, a => (match lenOf a with
      | some l => (match pvs C A [p, addC (subP l p) (-1)] hs with
        | some hs => K (A.new fun n => [varP n, addC (negP (varP n)) 255]) (.i .u8 (varP A.n)) hs
        | none => none)
      | none => none)
    | _, _ => none)
  | _, _ => none
theorem index_ok {C : Cfg} (hC : CfgOk C) {t : Nat} {a i : AV} {h0 : H0} {A : AS} {fr : List (Nat × V)} {h : Hp} {e : Env} (S : Sat h0 A ⟨fr, [], h⟩ e) {x y : V} (hx : ∀ e', Agr A.n e e' → a.den e' = x) (hy : ∀ e', Agr A.n e e' → i.den e' = y) {K : Ks} {q q' : HS} (hk : indexK C t a i A K q = some q') :
    ∃ v, indexA C.tb t x y = some v ∧ Out h0 A e K fr v h := by
  unfold indexK at hk
  split at hk <;> first | (cases hk; done) | skip
  rename_i ti k p ht
  split at hk <;> first | (cases hk; done) | skip
  · rename_i n e1 cs hd
    split at hk <;> first | (cases hk; done) | skip
    rename_i te kk hte hkk
    cases hb : (isNn kk && isNn (n - kk - 1)) <;> rw [hb] at hk <;> simp only [cond_true, cond_false] at hk
    · cases hk
    simp only [Bool.and_eq_true] at hb
    have c1 := isNn_le hb.1; have c2 := isNn_le hb.2
    split at hk <;> first | (cases hk; done) | skip
    rename_i v hv
    have key : ∀ e', Agr A.n e e' → indexA C.tb t x y = some (v.den e') := fun e' ha => by
      rw [← hx e' ha, ← hy e' ha]
      simp only [AV.den, indexA, ht, hd, hte, asC_den (S.nums ha).1 hkk]
      rw [if_pos ⟨c1, by omega⟩]; exact partA_ok hv e'
    refine ⟨_, key e (Agr.refl _ _), Out.same S (fun e' ha => ?_) hk⟩
    have := key e' ha; rw [key e (Agr.refl _ _)] at this; exact (Option.some.inj this).symm
  · rename_i hd
    split at hk <;> first | (cases hk; done) | skip
    rename_i l hl
    split at hk <;> first | (cases hk; done) | skip
    rename_i q1 h1
    have S0 := S.here.1
    have b1 := pvs_ok hC h1 S0 p (by simp)
    have b2 := pvs_ok hC h1 S0 (addC (subP l p) (-1)) (by simp)
    rw [den_addC S0.one, den_sub] at b2
    obtain ⟨w, hw, hlen⟩ := lenOf_ok S0.one hl (by omega)
    have hlt : (p.den e.i).toNat < w.length := by omega
    refine ⟨.i .u8 (w[(p.den e.i).toNat].toNat), ?_, Out.any S (fun e' ha hg hx' a1 f hf => ?_) hk⟩
    · rw [← hx e (Agr.refl _ _), ← hy e (Agr.refl _ _), hw]
      simp only [AV.den, indexA, ht, hd, if_pos b1, List.getElem?_eq_getElem hlt]
    · have hc := (w[(p.den e.i).toNat]).toNat_lt
      simp only [List.mem_cons, List.not_mem_nil, or_false] at hf
      rcases hf with rfl | rfl
      · rw [den_var, hx']; omega
      · rw [den_addC a1.one, den_neg, den_var, hx']; omega
def bndK (ev : Operand → Option AV) : Option Operand → Option (Option Poly)
  | none => some none
  | some x => match ev x with
    | some (.i _ p) => some (some p)
    | _ => none
theorem bndK_ok {n : Nat} {e : Env} {ev : Operand → Option AV} {cev : Operand → Option V} (E : EvOk n e ev cev) {o : Option Operand} {p : Option Poly} (h : bndK ev o = some p) : ∀ e', Agr n e e' → bnd cev o = some (p.map fun p => p.den e'.i) := by
  intro e' ha
  cases o with
  | none => simp [bndK] at h; subst h; rfl
  | some x =>
    simp only [bndK] at h
    split at h <;> first | (cases h; done) | skip
    rename_i k p' hp
    cases h
    simp only [bnd, E e' ha x _ hp, AV.den]; rfl
end Go.Mx.Az

namespace Go.Mx.Az
theorem bnds_ok {len top : Nat} {lo hi mx : Option Int} {l h : Int} (hl : lo.getD 0 = l) (hh : hi.getD len = h) (h0 : 0 ≤ l) (h1 : l ≤ h) (h2 : h ≤ top) (h3 : ∀ m, mx = some m → h ≤ m ∧ m ≤ top) (h4 : hi = none → mx = none ∧ len ≤ top) :
    bnds len top lo hi mx = some (l.toNat, h.toNat, (mx.map Int.toNat).getD top) := by
  unfold bnds
  cases mx with
  | none =>
    cases hi with
    | none =>
      simp only [Option.getD_none] at hh
      simp only [Option.isNone_none, if_true]
      cases lo with
      | none => simp only [Option.getD_none] at hl; subst hl; rw [← hh]; rfl
      | some l' =>
        simp only [Option.getD_some] at hl; subst hl
        simp only; rw [if_pos ⟨h0, by omega⟩, ← hh]; rfl
    | some h' =>
      simp only [Option.getD_some] at hh; subst hh
      simp only
      rw [if_pos ⟨by omega, by omega⟩]; simp only
      cases lo with
      | none => simp only [Option.getD_none] at hl; subst hl; rfl
      | some l' =>
        simp only [Option.getD_some] at hl; subst hl
        simp only; rw [if_pos ⟨h0, by omega⟩]; rfl
  | some m =>
    obtain ⟨m1, m2⟩ := h3 m rfl
    cases hi with
    | none => exact absurd (h4 rfl).1 (by simp)
    | some h' =>
      simp only [Option.getD_some] at hh; subst hh
      simp only
      rw [if_pos ⟨by omega, by omega⟩]; simp only
      rw [if_pos ⟨by omega, by omega⟩]; simp only
      cases lo with
      | none => simp only [Option.getD_none] at hl; subst hl; rfl
      | some l' =>
        simp only [Option.getD_some] at hl; subst hl
        simp only; rw [if_pos ⟨h0, by omega⟩]; rfl
theorem slice_mid {tb : Nat → Option TI} {t e1 b o n z : Nat} {cap : Option Nat} {ti te : TI} (ht : tb t = some ti) (hd : ti.d = .slice e1) (hte : tb e1 = some te) (hz : te.size = z) {lo hi mx : Option Int} {l h : Int} (hl : lo.getD 0 = l) (hh : hi.getD n = h) (h0 : 0 ≤ l) (h1 : l ≤ h) (h2 : h ≤ n) (h3 : ∀ m, mx = some m → h ≤ m ∧ m ≤ n) (h4 : hi = none → mx = none) (hcap : ∀ k, cap = some k → n ≤ k) (hlt : l < mx.getD n) :
    ∃ c', sliceA tb t (.sl b o n cap z) lo hi mx = some (.sl b (o + l.toNat * z) (h.toNat - l.toNat) c' z) ∧ (∀ k, c' = some k → h.toNat - l.toNat ≤ k) ∧ (mx = none → l = 0 → c' = cap) := by
  simp only [sliceA, ht, hd, hte, if_pos hz]
  cases cap with
  | some k =>
    have hk := hcap k rfl
    simp only
    rw [bnds_ok hl hh h0 h1 (by omega) (fun m hm => by have := h3 m hm; omega) (fun hm => ⟨h4 hm, hk⟩)]
    simp only
    have hm : (mx.map Int.toNat).getD k = k ∧ mx = none ∨ ∃ m, mx = some m ∧ (mx.map Int.toNat).getD k = m.toNat := by
      cases mx with
      | none => exact .inl ⟨rfl, rfl⟩
      | some m => exact .inr ⟨m, rfl, rfl⟩
    rcases hm with ⟨hm, hm2⟩ | ⟨m, hm, hm2⟩
    · subst hm2
      simp only [Option.getD_none] at hlt
      rw [hm, if_neg (by omega)]
      exact ⟨_, rfl, fun k' hk' => by cases hk'; omega, fun _ h => by subst h; simp⟩
    · subst hm
      have := h3 m rfl
      simp only [Option.getD_some] at hlt
      rw [hm2, if_neg (by omega)]
      exact ⟨_, rfl, fun k' hk' => by cases hk'; omega, fun h => by cases h⟩
  | none =>
    simp only
    cases mx with
    | none =>
      simp only [Option.getD_none] at hlt
      simp only
      rw [bnds_ok hl hh h0 h1 (by omega) (fun m hm => by cases hm) (fun hm => ⟨rfl, Nat.le_refl _⟩)]
      simp only
      rw [if_pos (by omega)]
      exact ⟨_, rfl, fun k' hk' => (by cases hk'), fun _ _ => rfl⟩
    | some m =>
      have := h3 m rfl
      simp only [Option.getD_some] at hlt
      simp only
      rw [bnds_ok hl hh h0 h1 (by omega) (fun m hm => h3 m hm) (fun hm => ⟨h4 hm, Nat.le_refl _⟩)]
      simp only [Option.map_some, Option.getD_some]
      rw [if_neg (by omega)]
      exact ⟨_, rfl, fun k' hk' => by cases hk'; omega, fun h => by cases h⟩
theorem slice_end {tb : Nat → Option TI} {t e1 b o n z : Nat} {cap : Option Nat} {ti te : TI} (ht : tb t = some ti) (hd : ti.d = .slice e1) (hte : tb e1 = some te) (hz : te.size = z) {lo hi mx : Option Int} {l : Int} (hl : lo.getD 0 = l) (hh : hi.getD n = l) (h0 : 0 ≤ l) (h2 : l ≤ n) (h3 : ∀ m, mx = some m → l ≤ m ∧ m ≤ n) (h4 : hi = none → mx = none) (hcap : ∀ k, cap = some k → n ≤ k) :
    ∃ v, sliceA tb t (.sl b o n cap z) lo hi mx = some v ∧ emptyV b v = v ∧ vbeq v v = true := by
  simp only [sliceA, ht, hd, hte, if_pos hz]
  cases cap with
  | some k =>
    have hk := hcap k rfl
    simp only
    rw [bnds_ok hl hh h0 (Int.le_refl _) (by omega) (fun m hm => by have := h3 m hm; omega) (fun hm => ⟨h4 hm, hk⟩)]
    simp only
    split <;> exact ⟨_, rfl, by simp [emptyV], by simp [vbeq]⟩
  | none =>
    simp only
    cases mx with
    | none =>
      simp only
      rw [bnds_ok hl hh h0 (Int.le_refl _) (by omega) (fun m hm => by cases hm) (fun hm => ⟨rfl, Nat.le_refl _⟩)]
      simp only
      split <;> exact ⟨_, rfl, by simp [emptyV], by simp [vbeq]⟩
    | some m =>
      simp only
      rw [bnds_ok hl hh h0 (Int.le_refl _) (by omega) (fun m hm => h3 m hm) (fun hm => ⟨h4 hm, Nat.le_refl _⟩)]
      simp only [Option.map_some, Option.getD_some]
      split <;> exact ⟨_, rfl, by simp [emptyV], by simp [vbeq]⟩
def hasK (κ : Nat) (len : Poly) : List (Nat × Poly) → Bool
  | [] => false
  | (k, p) :: r => (Nat.beq k κ && beqP p len) || hasK κ len r
theorem hasK_in {κ : Nat} {len : Poly} : ∀ {l : List (Nat × Poly)}, hasK κ len l = true → (κ, len) ∈ l
  | [], h => by simp [hasK] at h
  | (k, p) :: r, h => by
    simp only [hasK, Bool.or_eq_true, Bool.and_eq_true] at h
    rcases h with h | h
    · rw [Nat.eq_of_beq_eq_true h.1, beqP_eq h.2]; simp
    · exact List.mem_cons_of_mem _ (hasK_in h)
def addKs (A : AS) (β κ κ' : Nat) (len h : Poly) : List (Nat × HB) := match look A.H β with
  | some (.row c et el m ks) => bif hasK κ len ks then (β, .row c et el m ((κ', h) :: ks)) :: delH β A.H else A.H
  | _ => A.H
def sliceK (C : Cfg) (t : Nat) (a : AV) (lo hi mx : Option Poly) (A : AS) (K : Ks) (hs : HS) : Option HS :=
  match C.tb t with
  | none => none
  | some ti => match ti.d, a with
    | .slice e, .k v => (match C.tb e with
      | some _ => bif vbeq v .nils && (hi.isSome || mx.isNone) then (match pvs C A ([lo, hi, mx].flatMap fun x => match x with | none => [] | some p => [p, negP p]) hs with
        | some hs => K A (.k .nils) hs
        | none => none) else none
      | none => none)
    | .slice e, .sl c β off len κ z => (match C.tb e with
      | some te => bif Nat.beq te.size z && (hi.isSome || mx.isNone) && Nat.blt c A.n then
          let l := lo.getD []
          let h := hi.getD len
          (match pvs C A ([l, subP h l, subP len h] ++ (match c with | 0 => [] | c => [subP (smul BIG (varP c)) len]) ++ (match mx with | none => [] | some m => [subP m h, subP len m])) hs with
           | none => none
           | some hs => match nnK C A off hs with
             | none => none
             | some hs => branch C A (addC (subP (mx.getD len) l) (-1)) (fun b A hs => match b with
               | true => K { A with n := A.n + 1, H := match lo, off, mx with | none, [], none => addKs A β κ A.n len h | _, _, _ => A.H } (.sl c β (addP off (smul (z : Int) l)) (subP h l) A.n z) hs
               | false => match c with
                 | 0 => K { A with n := A.n + 1 } (.es β A.n) hs
                 | c => branchZ C A (varP c) (fun b A hs => match b with
                   | false => K { A with n := A.n + 1 } (.es β A.n) hs
                   | true => K A (.k .nils) hs) hs) hs) else none
      | none => none)
    | .string, a => (match lenOf a, mx with
      | some p, none =>
        let l := lo.getD []
        let h := hi.getD p
        (match pvs C A [l, subP h l, subP p h] hs with
         | some hs => K (A.new fun n => [subP (varP n) (subP h l), subP (subP h l) (varP n)]) (.s A.n) hs
         | none => none)
      | _, _ => none)
    | _, _ => none
theorem slice_ok {C : Cfg} (hC : CfgOk C) {t : Nat} {a : AV} {lo hi mx : Option Poly} {h0 : H0} {A : AS} {fr : List (Nat × V)} {h : Hp} {e : Env} (S : Sat h0 A ⟨fr, [], h⟩ e) {x : V} {l' h' m' : Option Int} (hx : ∀ e', Agr A.n e e' → a.den e' = x) (hl : ∀ e', Agr A.n e e' → lo.map (fun p => p.den e'.i) = l') (hh : ∀ e', Agr A.n e e' → hi.map (fun p => p.den e'.i) = h') (hm : ∀ e', Agr A.n e e' → mx.map (fun p => p.den e'.i) = m') {K : Ks} {q q' : HS} (hk : sliceK C t a lo hi mx A K q = some q') :
    ∃ v, sliceA C.tb t x l' h' m' = some v ∧ Out h0 A e K fr v h := by
  have S0 := S.here.1
  have hxe := hx e (Agr.refl _ _)
  have hle := hl e (Agr.refl _ _)
  have hhe := hh e (Agr.refl _ _)
  have hme := hm e (Agr.refl _ _)
  unfold sliceK at hk
  split at hk
  · cases hk
  rename_i ti ht
  split at hk <;> first | (cases hk; done) | skip
  ·
    rename_i e1 v hd
    split at hk <;> first | (cases hk; done) | skip
    rename_i te hte
    cases hb : (vbeq v .nils && (hi.isSome || mx.isNone)) <;> rw [hb] at hk <;> simp only [cond_true, cond_false] at hk
    · cases hk
    simp only [Bool.and_eq_true, Bool.or_eq_true] at hb
    split at hk <;> first | (cases hk; done) | skip
    rename_i q1 h1
    have z : ∀ p, (lo = some p ∨ hi = some p ∨ mx = some p) → p.den e.i = 0 := fun p hp => by
      have a1 := pvs_ok hC h1 S0 p (by simp only [List.mem_flatMap]; rcases hp with rfl | rfl | rfl <;> exact ⟨some p, by simp, by simp⟩)
      have a2 := pvs_ok hC h1 S0 (negP p) (by simp only [List.mem_flatMap]; rcases hp with rfl | rfl | rfl <;> exact ⟨some p, by simp, by simp⟩)
      rw [den_neg] at a2; omega
    have z1 : l' = none ∨ l' = some 0 := by rw [← hle]; cases lo with
      | none => exact .inl rfl
      | some p => exact .inr (by simp [z p (.inl rfl)])
    have z2 : h' = none ∨ h' = some 0 := by rw [← hhe]; cases hi with
      | none => exact .inl rfl
      | some p => exact .inr (by simp [z p (.inr (.inl rfl))])
    have z3 : m' = none ∨ m' = some 0 := by rw [← hme]; cases mx with
      | none => exact .inl rfl
      | some p => exact .inr (by simp [z p (.inr (.inr rfl))])
    have z4 : h' = none → m' = none := fun hh2 => by
      rw [← hhe] at hh2; rw [← hme]
      have : hi = none := by simpa using hh2
      rcases hb.2 with hb2 | hb2
      · rw [this] at hb2; cases hb2
      · cases mx <;> simp at hb2 ⊢
    refine ⟨.nils, ?_, Out.same S (fun e' ha => by simp [AV.den]) hk⟩
    rw [← hxe]; simp only [AV.den, veq_of hb.1, sliceA, ht, hd, hte]
    rw [bnds_ok (l := 0) (h := 0) (by rcases z1 with z | z <;> rw [z] <;> rfl) (by rcases z2 with z | z <;> rw [z] <;> rfl) (by omega) (by omega) (by omega) (fun m hm => by rcases z3 with z | z <;> rw [z] at hm <;> cases hm; omega) (fun hh2 => ⟨z4 hh2, Nat.le_refl _⟩)]
  ·
    rename_i e1 c β off len κ z hd
    split at hk <;> first | (cases hk; done) | skip
    rename_i te hte
    cases hb : (Nat.beq te.size z && (hi.isSome || mx.isNone) && Nat.blt c A.n) <;> rw [hb] at hk <;> simp only [cond_true, cond_false] at hk
    · cases hk
    simp only [Bool.and_eq_true, Bool.or_eq_true] at hb
    obtain ⟨⟨b1, b2⟩, b3⟩ := hb
    have hz := Nat.eq_of_beq_eq_true b1
    have hcn : c < A.n := Nat.le_of_ble_eq_true b3
    split at hk <;> first | (cases hk; done) | skip
    rename_i q1 h1
    split at hk <;> first | (cases hk; done) | skip
    rename_i q2 h2
    have fa : ∀ e', Agr A.n e e' → 0 ≤ (lo.getD []).den e'.i ∧ (lo.getD []).den e'.i ≤ (hi.getD len).den e'.i ∧ (hi.getD len).den e'.i ≤ len.den e'.i ∧ (∀ m, mx = some m → (hi.getD len).den e'.i ≤ m.den e'.i ∧ m.den e'.i ≤ len.den e'.i) ∧ 0 ≤ off.den e'.i ∧ (e'.i c = 0 → len.den e'.i = 0) := fun e' ha => by
      have S1 := S.up ha
      have a1 := pvs_ok hC h1 S1 (lo.getD []) (by simp)
      have a2 := pvs_ok hC h1 S1 (subP (hi.getD len) (lo.getD [])) (by simp)
      have a3 := pvs_ok hC h1 S1 (subP len (hi.getD len)) (by simp)
      have a5 := nnK_ok hC h2 S1
      rw [den_sub] at a2 a3
      simp only at a1 a2 a3 a5
      refine ⟨a1, by omega, by omega, fun m hmm => ?_, a5, fun hc => ?_⟩
      · have c1 := pvs_ok hC h1 S1 (subP m (hi.getD len)) (by rw [hmm]; simp)
        have c2 := pvs_ok hC h1 S1 (subP len m) (by rw [hmm]; simp)
        rw [den_sub] at c1 c2
        simp only at c1 c2
        exact ⟨by omega, by omega⟩
      · cases c with
        | zero => rw [S1.one] at hc; cases hc
        | succ c =>
          have c1 := pvs_ok hC h1 S1 (subP (smul BIG (varP (c + 1))) len) (by simp)
          rw [den_sub, den_smul, den_var] at c1
          simp only at c1 hc
          rw [hc] at c1; omega
    have gl : ∀ e', Agr A.n e e' → l'.getD 0 = (lo.getD []).den e'.i := fun e' ha => by rw [← hl e' ha]; cases lo <;> rfl
    have gh : ∀ e', Agr A.n e e' → h'.getD (len.den e'.i).toNat = (hi.getD len).den e'.i := fun e' ha => by
      rw [← hh e' ha]; cases hi with
      | none => simp only [Option.map_none, Option.getD_none]; have := fa e' ha; simp only [Option.getD_none] at this; omega
      | some p => rfl
    have gm : ∀ e', Agr A.n e e' → ∀ m, m' = some m → (hi.getD len).den e'.i ≤ m ∧ m ≤ ((len.den e'.i).toNat : Int) := fun e' ha m hmm => by
      rw [← hm e' ha] at hmm
      cases hmx : mx with
      | none => rw [hmx] at hmm; cases hmm
      | some p =>
        rw [hmx] at hmm; simp only [Option.map_some, Option.some.injEq] at hmm; subst hmm
        have := (fa e' ha).2.2.2.1 p hmx; omega
    have g4 : h' = none → m' = none := fun hh2 => by
      rw [← hhe] at hh2; rw [← hme]
      have : hi = none := by simpa using hh2
      rcases b2 with hb2 | hb2
      · rw [this] at hb2; cases hb2
      · cases mx <;> simp at hb2 ⊢
    have gtop : ∀ e', Agr A.n e e' → (mx.getD len).den e'.i = m'.getD (len.den e'.i).toNat := fun e' ha => by
      rw [← hm e' ha]; cases mx with
      | none => simp only [Option.map_none, Option.getD_none]; have := fa e' ha; omega
      | some p => rfl
    have gcap : ∀ e', Agr A.n e e' → ∀ k, ((e'.c κ).map fun k => (len.den e'.i).toNat + k) = some k → (len.den e'.i).toNat ≤ k := fun e' ha k hk => by
      cases hc : e'.c κ with
      | none => rw [hc] at hk; cases hk
      | some s => rw [hc] at hk; simp at hk; omega
    have mid : e.i c ≠ 0 → (lo.getD []).den e.i < (mx.getD len).den e.i → ∃ c', sliceA C.tb t x l' h' m' = some (.sl (e.b β) (e.o β + (off.den e.i).toNat + ((lo.getD []).den e.i).toNat * z) (((hi.getD len).den e.i).toNat - ((lo.getD []).den e.i).toNat) c' z) ∧ (∀ k, c' = some k → ((hi.getD len).den e.i).toNat - ((lo.getD []).den e.i).toNat ≤ k) ∧ (m' = none → (lo.getD []).den e.i = 0 → c' = (e.c κ).map fun k => (len.den e.i).toNat + k) := fun hc hlt => by
      obtain ⟨f1, f2, f3, f4, f5, f6⟩ := fa e (Agr.refl _ _)
      rw [← hxe]; simp only [AV.den, if_neg hc]
      exact slice_mid ht hd hte hz (gl e (Agr.refl _ _)) (gh e (Agr.refl _ _)) f1 f2 (by omega) (gm e (Agr.refl _ _)) g4 (gcap e (Agr.refl _ _)) (by rw [← gtop e (Agr.refl _ _)]; exact hlt)
    have fin : e.i c ≠ 0 → ¬ (lo.getD []).den e.i < (mx.getD len).den e.i → ∃ v, sliceA C.tb t x l' h' m' = some v ∧ emptyV (e.b β) v = v ∧ vbeq v v = true := fun hc hlt => by
      obtain ⟨f1, f2, f3, f4, f5, f6⟩ := fa e (Agr.refl _ _)
      rw [← hxe]; simp only [AV.den, if_neg hc]
      have hge : (hi.getD len).den e.i = (lo.getD []).den e.i := by
        cases hmx : mx with
        | none => rw [hmx] at hlt; simp only [Option.getD_none] at hlt; omega
        | some m => have := f4 m hmx; rw [hmx] at hlt; simp only [Option.getD_some] at hlt; omega
      exact slice_end ht hd hte hz (gl e (Agr.refl _ _)) (by rw [gh e (Agr.refl _ _), hge]) f1 (by omega) (fun m hmm => by rw [← hge]; exact gm e (Agr.refl _ _) m hmm) g4 (gcap e (Agr.refl _ _))
    have nilr : e.i c = 0 → sliceA C.tb t x l' h' m' = some .nils := fun hc => by
      obtain ⟨f1, f2, f3, f4, f5, f6⟩ := fa e (Agr.refl _ _)
      have h6 := f6 hc
      rw [← hxe]; simp only [AV.den, if_pos hc, sliceA, ht, hd, hte]
      have g5 := gh e (Agr.refl _ _)
      rw [h6] at g5
      rw [bnds_ok (l := 0) (h := 0) (by rw [gl e (Agr.refl _ _)]; omega) (by have : (((0 : Int).toNat : Nat) : Int) = ((0 : Nat) : Int) := rfl; rw [← this, g5]; omega) (by omega) (by omega) (by omega) (fun m hmm => by have := gm e (Agr.refl _ _) m hmm; rw [h6] at this; omega) (fun hh2 => ⟨g4 hh2, Nat.le_refl _⟩)]
    have stE : ∀ {A1 : AS}, Sat h0 A1 ⟨fr, [], h⟩ e → More A A1 → ∀ v, emptyV (e.b β) v = v → vbeq v v = true → (∀ e', Agr A.n e e' → e'.b β = e.b β) → ∀ {q q'}, K { A1 with n := A1.n + 1 } (.es β A1.n) q = some q' → Out h0 A e K fr v h := fun {A1} S1 M1 v hv1 hv2 hbs {q q'} hk => by
      refine ⟨_, _, _, q, q', hk, Le.set 0 v 0 0 none, by simp only [M1.n]; omega, ?_, fun e' ha => ?_⟩
      · have := S1.fresh 0 v 0 0 none hv2
        rw [M1.n] at this ⊢; exact this
      · simp only [AV.den]
        have hA : Agr A.n e e' := (e.set_agr A.n _ _ _ _ _ _).trans ha (by simp only [M1.n]; omega)
        rw [hbs e' hA, M1.n, ha.v A.n (by simp only [M1.n]; omega)]
        simp only [Env.set, if_true]; exact hv1
    have stc : ∀ e', Agr A.n e e' → e'.i c = e.i c := fun e' ha => ha.i c hcn
    have stl : ∀ e', Agr A.n e e' → (lo.getD []).den e'.i = (lo.getD []).den e.i := fun e' ha => by rw [← gl e' ha, gl e (Agr.refl _ _)]
    have stn : ∀ e', Agr A.n e e' → len.den e'.i = len.den e.i := fun e' ha => by
      by_cases hc : e.i c = 0
      · rw [(fa e (Agr.refl _ _)).2.2.2.2.2 hc, (fa e' ha).2.2.2.2.2 (by rw [stc e' ha]; exact hc)]
      · have h3 := hx e' ha
        rw [← hxe] at h3
        simp only [AV.den, if_neg hc, if_neg (show ¬ e'.i c = 0 by rw [stc e' ha]; exact hc), V.sl.injEq] at h3
        have := fa e' ha; have := fa e (Agr.refl _ _); omega
    have sth : ∀ e', Agr A.n e e' → (hi.getD len).den e'.i = (hi.getD len).den e.i := fun e' ha => by
      have h3 := hh e' ha; rw [← hhe] at h3
      cases hi with
      | none => simp only [Option.getD_none]; exact stn e' ha
      | some p => simpa using h3
    have stt : ∀ e', Agr A.n e e' → (mx.getD len).den e'.i = (mx.getD len).den e.i := fun e' ha => by
      have h3 := hm e' ha; rw [← hme] at h3
      cases mx with
      | none => simp only [Option.getD_none]; exact stn e' ha
      | some p => simpa using h3
    have ste : e.i c ≠ 0 → ∀ e', Agr A.n e e' → e'.b β = e.b β ∧ e'.o β + (off.den e'.i).toNat = e.o β + (off.den e.i).toNat ∧ ((e'.c κ).map fun k => (len.den e.i).toNat + k) = ((e.c κ).map fun k => (len.den e.i).toNat + k) := fun hc e' ha => by
      have h3 := hx e' ha
      rw [← hxe] at h3
      simp only [AV.den, if_neg hc, if_neg (show ¬ e'.i c = 0 by rw [stc e' ha]; exact hc), V.sl.injEq, stn e' ha] at h3
      exact ⟨h3.1, h3.2.1, h3.2.2.2.1⟩
    obtain ⟨A1, q3, q4, k1, S1, M1⟩ := branch_ok hC S (t := decide ((lo.getD []).den e.i < (mx.getD len).den e.i)) (fun e' ha hg a1 => by
      rw [den_addC a1.one, den_sub, stl e' ha, stt e' ha]; exact decide_eq_decide.2 (by omega)) hk
    by_cases hlt : (lo.getD []).den e.i < (mx.getD len).den e.i
    · have hc : e.i c ≠ 0 := fun hc => by
        have f := fa e (Agr.refl _ _)
        have h6 := f.2.2.2.2.2 hc
        cases hmx : mx with
        | none => rw [hmx] at hlt; simp only [Option.getD_none] at hlt; omega
        | some m => have := f.2.2.2.1 m hmx; rw [hmx] at hlt; simp only [Option.getD_some] at hlt; omega
      simp only [hlt, decide_true] at k1
      obtain ⟨c', r1, r2, r3⟩ := mid hc hlt
      have f := fa e (Agr.refl _ _)
      refine ⟨_, r1, _, _, _, q3, q4, k1, Le.set 0 .nilp 0 0 (c'.map fun k => k - (((hi.getD len).den e.i).toNat - ((lo.getD []).den e.i).toNat)), by simp only [M1.n]; omega, ?_, fun e' ha => ?_⟩
      · have S2 := S1.fresh 0 .nilp 0 0 (c'.map fun k => k - (((hi.getD len).den e.i).toNat - ((lo.getD []).den e.i).toNat)) rfl
        rw [M1.n] at S2 ⊢
        split
        · have hcc := r3 (by rw [← hme]; rfl) rfl
          refine S2.setHeap rfl rfl fun e' ha hg a1 => ?_
          simp only [addKs]
          split
          · rename_i c2 et el m ks hlk
            cases hhk : hasK κ len ks <;> simp only [cond_true, cond_false]
            · exact a1
            · have hA : Agr A.n e e' := (e.set_agr A.n _ _ _ _ _ _).trans ha (Nat.le_succ _)
              have hent := a1.ent _ (look_in hlk)
              have hnew : HbOk h0 h e' β (.row c2 et el m ((A.n, hi.getD len) :: ks)) := by
                intro hc2
                obtain ⟨o1, o2, o3, o4, o5, o6, o7⟩ := hent hc2
                refine ⟨o1, o2, o3, o4, o5, fun p hp => ?_, o7⟩
                rcases List.mem_cons.1 hp with rfl | hp
                · simp only
                  have fe := fa e' hA
                  have h7 := o6 _ (hasK_in hhk)
                  have h8 := sth e' hA; have h9 := stn e' hA
                  simp only at h7
                  rw [ha.c A.n (Nat.lt_succ_self _)]
                  simp only [Env.set, if_true]
                  rw [hcc, ← (ste hc e' hA).2.2]
                  simp only [Option.getD_none, Poly.den] at fe f ⊢
                  cases hk2 : e'.c κ with
                  | none => rw [hk2] at h7; simp only [Option.map_none, Option.getD_none] at h7 ⊢; omega
                  | some s => rw [hk2] at h7; simp only [Option.map_some, Option.getD_some] at h7 ⊢; omega
                · exact o6 p hp
              refine ⟨a1.one, a1.pos, a1.fs, a1.pr, a1.ext, a1.g, fun y hy => ?_, ?_, a1.mem, a1.qf, a1.cz, a1.ld⟩
              · rcases List.mem_cons.1 hy with rfl | hy
                · exact hnew
                · exact a1.ent y (delH_mem hy).1
              · refine List.pairwise_cons.2 ⟨fun y hy ex ey e2 => ?_, a1.dis.sublist (delH_sub _)⟩
                obtain ⟨m1, m2⟩ := delH_mem hy
                exact a1.ne (look_in hlk) m1 m2 ex ey e2.symm
          · exact a1
        · exact S2
      · have hA : Agr A.n e e' := (e.set_agr A.n _ _ _ _ _ _).trans ha (by simp only [M1.n]; omega)
        have hcc : e'.c A1.n = c'.map fun k => k - (((hi.getD len).den e.i).toNat - ((lo.getD []).den e.i).toNat) := by rw [M1.n, ha.c A.n (by simp only [M1.n]; omega)]; simp [Env.set]
        have fe := fa e' hA
        simp only [AV.den]
        rw [if_neg (by rw [stc e' hA]; exact hc), den_add, den_smul, toNat_row fe.2.2.2.2.1 fe.1, den_sub, hcc, (ste hc e' hA).1, ← Nat.add_assoc, (ste hc e' hA).2.1, stl e' hA, sth e' hA]
        have e9 : ((hi.getD len).den e.i - (lo.getD []).den e.i).toNat = ((hi.getD len).den e.i).toNat - ((lo.getD []).den e.i).toNat := by omega
        rw [e9]
        congr 1
        cases c' with
        | none => rfl
        | some k => simp only [Option.map_some]; congr 1; have := r2 k rfl; omega
    · simp only [hlt, decide_false] at k1
      by_cases hc : e.i c = 0
      · refine ⟨_, nilr hc, ?_⟩
        split at k1
        · rw [S0.one] at hc; cases hc
        · rename_i c0
          obtain ⟨A2, q5, q6, k2, S2, M2⟩ := branchZ_ok hC S1 (t := true) (fun e' ha hg a1 => by
            rw [den_var, stc e' (by rw [M1.n] at ha; exact ha), hc]; rfl) k1
          exact Out.more (M1.trans M2) (Out.same S2 (fun e' ha => by simp [AV.den]) k2)
      · obtain ⟨v, r1, r2, r3⟩ := fin hc hlt
        refine ⟨v, r1, ?_⟩
        split at k1
        · exact stE S1 M1 v r2 r3 (fun e' ha => (ste hc e' ha).1) k1
        · rename_i c0
          obtain ⟨A2, q5, q6, k2, S2, M2⟩ := branchZ_ok hC S1 (t := false) (fun e' ha hg a1 => by
            rw [den_var, stc e' (by rw [M1.n] at ha; exact ha)]; exact decide_eq_false hc) k1
          exact stE S2 (M1.trans M2) v r2 r3 (fun e' ha => (ste hc e' ha).1) k2
  ·
    rename_i hd
    split at hk <;> first | (cases hk; done) | skip
    rename_i p hp
    simp only at hk
    split at hk <;> first | (cases hk; done) | skip
    rename_i q1 h1
    have mn : m' = none := by rw [← hme]; rfl
    have fa : ∀ e', Agr A.n e e' → ∃ w, x = .s w ∧ (w.length : Int) = p.den e'.i ∧ 0 ≤ (lo.getD []).den e'.i ∧ (lo.getD []).den e'.i ≤ (hi.getD p).den e'.i ∧ (hi.getD p).den e'.i ≤ p.den e'.i := fun e' ha => by
      have S1 := S.up ha
      have a1 := pvs_ok hC h1 S1 (lo.getD []) (by simp)
      have a2 := pvs_ok hC h1 S1 (subP (hi.getD p) (lo.getD [])) (by simp)
      have a3 := pvs_ok hC h1 S1 (subP p (hi.getD p)) (by simp)
      rw [den_sub] at a2 a3
      simp only at a1 a2 a3
      obtain ⟨w, w1, w2⟩ := lenOf_ok (e := e') (S.nums ha).1 hp (by omega)
      exact ⟨w, by rw [← hx e' ha, w1], w2, a1, by omega, by omega⟩
    obtain ⟨w, w1, w2, w3, w4, w5⟩ := fa e (Agr.refl _ _)
    have gl : ∀ e', Agr A.n e e' → l'.getD 0 = (lo.getD []).den e'.i := fun e' ha => by rw [← hl e' ha]; cases lo <;> rfl
    have gh : ∀ e', Agr A.n e e' → h'.getD w.length = (hi.getD p).den e'.i := fun e' ha => by
      obtain ⟨w', w1', w2', _⟩ := fa e' ha
      rw [w1] at w1'; cases w1'
      rw [← hh e' ha]; cases hi with
      | none => simp only [Option.map_none, Option.getD_none]; exact w2'
      | some p => rfl
    have hb := bnds_ok (len := w.length) (top := w.length) (mx := none) (gl e (Agr.refl _ _)) (gh e (Agr.refl _ _)) w3 w4 (by omega) (fun m hm => by cases hm) (fun _ => ⟨rfl, Nat.le_refl _⟩)
    rw [w1, mn]
    simp only [sliceA, ht, hd, hb]
    simp only [Option.isSome_none, Bool.false_eq_true, if_false]
    refine ⟨_, rfl, ?_⟩
    obtain ⟨r, hr⟩ : ∃ r : List UInt8, (w.drop ((lo.getD []).den e.i).toNat).take (((hi.getD p).den e.i).toNat - ((lo.getD []).den e.i).toNat) = r := ⟨_, rfl⟩
    have hrl : (r.length : Int) = (hi.getD p).den e.i - (lo.getD []).den e.i := by rw [← hr, List.length_take, List.length_drop]; omega
    rw [hr]
    refine ⟨_, _, _, q1, q', hk, Le.set r.length .nilp 0 0 none r, Nat.le_succ _, ?_, fun e' ha => ?_⟩
    · refine (S.fresh r.length .nilp 0 0 none rfl r).addF1 _ fun e' ha hg a1 f hf => ?_
      have hA : Agr A.n e e' := (e.set_agr A.n _ _ _ _ _ r).trans ha (Nat.le_succ _)
      have hv : e'.i A.n = r.length := by rw [ha.i _ (Nat.lt_succ_self _)]; simp [Env.set]
      have e1 : (lo.getD []).den e'.i = (lo.getD []).den e.i := by rw [← gl e' hA, gl e (Agr.refl _ _)]
      have e2 : (hi.getD p).den e'.i = (hi.getD p).den e.i := by rw [← gh e' hA, gh e (Agr.refl _ _)]
      simp only [List.mem_cons, List.not_mem_nil, or_false] at hf
      rcases hf with rfl | rfl
      · rw [den_sub, den_sub, den_var, hv, e1, e2]; omega
      · rw [den_sub, den_sub, den_var, hv, e1, e2]; omega
    · simp only [AV.den, ha.i _ (Nat.lt_succ_self _), ha.s _ (Nat.lt_succ_self _)]
      simp only [Env.set, if_true, Int.toNat_natCast, fit_self]
end Go.Mx.Az

namespace Go.Mx.Az
theorem SlOk.one {G : Nat → Option SB} {l : SL} {v : V} (h : SlOk G l v) : v.one = true := by
  cases l with
  | int k lo hi => obtain ⟨n, rfl, _⟩ := h; rfl
  | bool => obtain ⟨t, rfl⟩ := h; rfl
  | str => obtain ⟨t, rfl⟩ := h; rfl
  | sl r e => rcases h with rfl | ⟨b, o, n, c, t, m, rfl, _⟩ <;> rfl
theorem SatH.kill {h0 : H0} {A : AS} {h : Hp} {e : Env} (S : SatH h0 A h e) {β : Nat} {k0 : HB} (hl : look A.H β = some k0) (hx : excl e k0) (ob : Ob) : SatH h0 { A with H := delH β A.H, L := [] } (h.set (e.b β) ob) e := by
  have hm := look_in hl
  obtain ⟨g1, g2, g3⟩ := excl_ge (S.ent _ hm) hx
  simp only at g1 g2 g3
  have hg : ∀ b, b ≠ e.b β → (h.set (e.b β) ob).get b = h.get b := fun b hb => Hp.get_set_ne _ _ hb
  refine ⟨S.one, S.pos, S.fs, S.pr, S.ext.set g1 _, S.g.same (by simp) (fun b t hb => hg b fun e2 => by rw [e2] at hb; rw [g2] at hb; cases hb), ?_, S.dis.sublist (delH_sub _), S.mem, S.qf, S.cz, fun _ hx => nomatch hx⟩
  intro x hx'
  obtain ⟨m1, m2⟩ := delH_mem hx'
  refine (S.ent x m1).same (by simp) fun hh => hg _ ?_
  rcases hh with hh | hh
  · exact S.ne hm m1 m2 hx hh
  · omega
theorem SatH.write' {h0 : H0} {A : AS} {h : Hp} {e : Env} (S : SatH h0 A h e) {β β1 : Nat} {k0 k1 : HB} (hl : look A.H β = some k0) (hx : excl e k0) (hb : e.b β1 = e.b β) (ob : Ob) (hk : HbOk h0 (h.set (e.b β) ob) e β1 k1) : SatH h0 { A with H := (β1, k1) :: delH β A.H, L := [] } (h.set (e.b β) ob) e := by
  have K := S.kill hl hx ob
  refine ⟨K.one, K.pos, K.fs, K.pr, K.ext, K.g, fun x hx' => (List.mem_cons.1 hx').elim (fun e1 => by subst e1; exact hk) (K.ent x), List.pairwise_cons.2 ⟨fun y hy _ ey e2 => ?_, K.dis⟩, K.mem, K.qf, K.cz, K.ld⟩
  obtain ⟨m1, m2⟩ := delH_mem hy
  simp only at e2
  rw [hb] at e2
  exact S.ne (look_in hl) m1 m2 hx ey e2.symm
structure XsOk (e : Env) (el : List AL) (xs : List V) (m : Nat) : Prop where
  len : xs.length = m * el.length
  ok : ∀ (i j : Nat) l v, i < m → el[j]? = some l → xs[i * el.length + j]? = some v → SlOk e.G (l.den e.i) v
inductive SrcK where
  | cells (k : Nat) (as : List AV)
  | rows (el : List AL) (len : Poly)
def srcRows (C : Cfg) (A : AS) (z c' c2 : Nat) (off len m : Poly) (el : List AL) (hs : HS) : Option (SrcK × HS) :=
  match divZ z off with
  | some (io, 0) => bif (Nat.beq c2 0 || Nat.beq c2 c') && Nat.beq el.length z && Nat.blt 0 z then
      (match pvs C A ([io, len, subP (subP m io) len] ++ (match c' with | 0 => [] | c => [subP (smul BIG (varP c)) len])) hs with
       | some hs => some (.rows el len, hs)
       | none => none) else none
  | _ => none
def srcOf (C : Cfg) (A : AS) (z : Nat) (x : AV) (hs : HS) : Option (SrcK × HS) :=
  match x with
  | .sl c' β off len _ z' => bif Nat.beq z' z then (match look A.H β with
    | some (.exact _ _ cells) => (match c', asC off, asC len with
      | 0, some o, some n => bif isNn o && isNn n && Nat.ble (o.toNat + n.toNat * z) cells.length then some (.cells n.toNat ((cells.drop o.toNat).take (n.toNat * z)), hs) else none
      | _, _, _ => none)
    | some (.row c2 _ el m _) => srcRows C A z c' c2 off len m el hs
    | some (.typ c2 _ el m) => srcRows C A z c' c2 off len m el hs
    | _ => none) else none
  | .es _ _ => some (.cells 0 [], hs)
  | _ => none
theorem srcA_cells {tb : Nat → Option TI} {h : Hp} {xT : Nat} {xi te : TI} {e1 : Nat} (hx : tb xT = some xi) (hd : xi.d = .slice e1) {b o n : Nat} {cap : Option Nat} {z ty : Nat} {cs : List V} {rw : Bool} (hz : z = te.size) (hb : h.get b = some (.blk ty cs rw)) (hl : o + n * z ≤ cs.length) : srcA tb h xT te (.sl b o n cap z) = some (n, (cs.drop o).take (n * z)) := by
  by_cases hn : n = 0
  · subst hn; simp [srcA, hx, hd]
  · simp only [srcA, hx, hd, if_neg hn, if_pos hz, hb, if_pos hl]
theorem src_rows {h0 : H0} {h : Hp} {tb : Nat → Option TI} {xT : Nat} {xi te : TI} {e1 : Nat} (hxt : tb xT = some xi) (hd : xi.d = .slice e1) {e : Env} {b o off n m z : Nat} {cap : Option Nat} {ty : Nat} {cs : List V} {rw : Bool} {el : List AL} (hz : z = te.size) (hel : el.length = z) (hz0 : 0 < z) (hb : h.get b = some (.blk ty cs rw)) (hle : o + m * z ≤ cs.length) {io : Nat} (hoff : off = io * z) (hn : io + n ≤ m)
    (hok : ∀ (i j : Nat) l v, i < m → el[j]? = some l → cs[o + (i * z + j)]? = some v → SlOk e.G (l.den e.i) v) :
    ∃ xs, srcA tb h xT te (.sl b (o + off) n cap z) = some (n, xs) ∧ XsOk e el xs n := by
  have h1 : (io + n) * z ≤ m * z := Nat.mul_le_mul_right z hn
  rw [Nat.add_mul] at h1
  refine ⟨_, srcA_cells hxt hd hz hb (by omega), ⟨by rw [List.length_take, List.length_drop, hel]; omega, fun i j l v hi hj hv => ?_⟩⟩
  have hjl := (List.getElem?_eq_some_iff.1 hj).1
  rw [List.getElem?_take, List.getElem?_drop] at hv
  split at hv <;> first | (cases hv; done) | skip
  refine hok (io + i) j l v (by omega) hj ?_
  rw [← hv, hoff, hel, Nat.add_mul]; congr 1; omega
def SrcOk (n : Nat) (e : Env) (z m : Nat) (xs : List V) : SrcK → Prop
  | .cells k as => m = k ∧ ∀ e', Agr n e e' → AVs.den e' as = xs
  | .rows el len => el.length = z ∧ 0 < z ∧ ∀ e', Agr n e e' → len.den e'.i = m ∧ XsOk { e' with G := e.G } el xs m
theorem srcOf_ok {C : Cfg} (hC : CfgOk C) {h0 : H0} {A : AS} {fr : List (Nat × V)} {h : Hp} {e : Env} (S : Sat h0 A ⟨fr, [], h⟩ e) {xT : Nat} {xi te : TI} {e1 : Nat} (hxt : C.tb xT = some xi) (hd : xi.d = .slice e1) {a : AV} {x : V} (hx : ∀ e', Agr A.n e e' → a.den e' = x) {src : SrcK} {q q' : HS} (hk : srcOf C A te.size a q = some (src, q')) :
    ∃ m xs, srcA C.tb h xT te x = some (m, xs) ∧ xs.length = m * te.size ∧ SrcOk A.n e te.size m xs src := by
  unfold srcOf at hk
  split at hk <;> first | (cases hk; done) | skip
  rotate_left
  · rename_i b1 n1
    simp only [Option.some.injEq, Prod.mk.injEq] at hk
    obtain ⟨rfl, rfl⟩ := hk
    refine ⟨0, [], ?_, by simp, rfl, fun e' _ => by simp [AVs.den]⟩
    rw [← hx e (Agr.refl _ _)]
    simp only [AV.den]
    rcases emptyV_cases (e.b b1) (e.v n1) with ⟨b', o, c, z, hv⟩ | ⟨z, hv⟩ <;> rw [hv] <;> simp [srcA, hxt, hd]
  rename_i c' β off len κ z'
  cases hz : Nat.beq z' te.size <;> rw [hz] at hk <;> simp only [cond_true, cond_false] at hk
  · cases hk
  have hz := Nat.eq_of_beq_eq_true hz
  have S0 := S.here.1
  have rows : ∀ {c2 : Nat} {m : Poly} {el : List AL}, (∀ e', Agr A.n e e' → e'.i c2 ≠ 0 → 0 ≤ m.den e'.i ∧ ∃ ty cs rw, h.get (e'.b β) = some (.blk ty cs rw) ∧ e'.o β + (m.den e'.i).toNat * el.length ≤ cs.length ∧ ∀ (i j : Nat) l v, i < (m.den e'.i).toNat → el[j]? = some l → cs[e'.o β + (i * el.length + j)]? = some v → SlOk e.G (l.den e'.i) v) →
      srcRows C A te.size c' c2 off len m el q = some (src, q') → ∃ m xs, srcA C.tb h xT te x = some (m, xs) ∧ xs.length = m * te.size ∧ SrcOk A.n e te.size m xs src := by
    intro c2 m el hent hk
    unfold srcRows at hk
    split at hk <;> first | (cases hk; done) | skip
    rename_i io hdv
    cases hb : ((Nat.beq c2 0 || Nat.beq c2 c') && Nat.beq el.length te.size && Nat.blt 0 te.size) <;> rw [hb] at hk <;> simp only [cond_true, cond_false] at hk
    · cases hk
    simp only [Bool.and_eq_true, Bool.or_eq_true] at hb
    obtain ⟨⟨b1, b2⟩, b3⟩ := hb
    have b2 := Nat.eq_of_beq_eq_true b2
    have b3 : 0 < te.size := Nat.le_of_ble_eq_true b3
    split at hk <;> first | (cases hk; done) | skip
    rename_i q1 h1
    simp only [Option.some.injEq, Prod.mk.injEq] at hk
    obtain ⟨rfl, rfl⟩ := hk
    have fa : ∀ e', Agr A.n e e' → ∃ xs, srcA C.tb h xT te x = some ((len.den e'.i).toNat, xs) ∧ XsOk { e' with G := e.G } el xs (len.den e'.i).toNat ∧ 0 ≤ len.den e'.i := fun e' ha => by
      have S1 := S.up ha
      have a1 := pvs_ok hC h1 S1 io (by simp)
      have a2 := pvs_ok hC h1 S1 len (by simp)
      have a3 := pvs_ok hC h1 S1 (subP (subP m io) len) (by simp)
      rw [den_sub, den_sub] at a3
      have a4 := (divZ_ok S1.one b3 hdv).1
      simp only at a1 a2 a3 a4
      rw [← hx e' ha]
      simp only [AV.den]
      by_cases hc : e'.i c' = 0
      · have hlen : len.den e'.i = 0 := by
          cases c' with
          | zero => have := S1.one; simp only at this; rw [this] at hc; cases hc
          | succ c =>
            have c1 := pvs_ok hC h1 S1 (subP (smul BIG (varP (c + 1))) len) (by simp)
            rw [den_sub, den_smul, den_var] at c1
            simp only at c1
            rw [hc] at c1; omega
        refine ⟨[], ?_, ⟨by rw [hlen]; simp, fun i j l v hi => by rw [hlen] at hi; simp at hi⟩, a2⟩
        rw [if_pos hc, hlen]; simp [srcA, hxt, hd]
      · rw [if_neg hc]
        have hc2 : e'.i c2 ≠ 0 := by
          rcases b1 with b1 | b1
          · rw [Nat.eq_of_beq_eq_true b1]; have := S1.one; simp only at this; rw [this]; omega
          · rw [Nat.eq_of_beq_eq_true b1]; exact hc
        obtain ⟨m0, ty, cs, rw', g1, g2, g3⟩ := hent e' ha hc2
        have hoff : (off.den e'.i).toNat = (io.den e'.i).toNat * z' := by
          have : (((io.den e'.i).toNat * z' : Nat) : Int) = te.size * io.den e'.i := by rw [Int.natCast_mul, Int.toNat_of_nonneg a1, hz, Int.mul_comm]
          omega
        obtain ⟨xs, r1, r2⟩ := src_rows (h0 := h0) (e := { e' with G := e.G }) hxt hd (cap := (e'.c κ).map fun k => (len.den e'.i).toNat + k) hz (b2.trans hz.symm) (by omega) g1 (by rw [← b2.trans hz.symm]; exact g2) hoff (n := (len.den e'.i).toNat) (by omega) (by rw [← b2.trans hz.symm]; exact g3)
        exact ⟨xs, r1, r2, a2⟩
    obtain ⟨xs, r1, r2, r3⟩ := fa e (Agr.refl _ _)
    refine ⟨_, xs, r1, by rw [r2.len, b2], b2, b3, fun e' ha => ?_⟩
    obtain ⟨xs', s1, s2, s3⟩ := fa e' ha
    rw [r1] at s1
    simp only [Option.some.injEq, Prod.mk.injEq] at s1
    obtain ⟨s4, s5⟩ := s1
    subst s5
    exact ⟨by omega, by rw [s4]; exact s2⟩
  split at hk <;> first | (cases hk; done) | skip
  ·
    rename_i ro ty cells hlk
    split at hk <;> first | (cases hk; done) | skip
    rename_i o n ho hn
    cases hb : (isNn o && isNn n && Nat.ble (o.toNat + n.toNat * te.size) cells.length) <;> rw [hb] at hk <;> simp only [cond_true, cond_false] at hk
    · cases hk
    simp only [Bool.and_eq_true] at hb
    have b3 := Nat.le_of_ble_eq_true hb.2
    simp only [Option.some.injEq, Prod.mk.injEq] at hk
    obtain ⟨rfl, rfl⟩ := hk
    have fa : ∀ e', Agr A.n e e' → srcA C.tb h xT te x = some (n.toNat, AVs.den e' ((cells.drop o.toNat).take (n.toNat * te.size))) := fun e' ha => by
      have S1 := S.up ha
      obtain ⟨o1, o2, rw', o3, _⟩ := S1.ent _ (look_in hlk)
      simp only at o1 o2 o3
      rw [← hx e' ha]; simp only [AV.den]
      have one := (S.nums ha).1
      rw [if_neg (by rw [one]; omega), asC_den one ho, asC_den one hn, o1, Nat.zero_add]
      have o3' : h.get (e'.b β) = some (.blk ty (AVs.den e' cells) rw') := by rw [o3, AVs.den_G]
      rw [srcA_cells hxt hd hz o3' (by rw [AVs.length, hz]; exact b3), AVs.take, AVs.drop, hz]
    refine ⟨_, _, fa e (Agr.refl _ _), by rw [AVs.length, List.length_take, List.length_drop]; omega, rfl, fun e' ha => ?_⟩
    have := fa e' ha
    rw [fa e (Agr.refl _ _)] at this
    simp only [Option.some.injEq, Prod.mk.injEq, true_and] at this
    exact this.symm
  ·
    rename_i c2 et el m ks hlk
    refine rows (fun e' ha hc2 => ?_) hk
    obtain ⟨r1, r2, r3, r4, r5, _, ty, cs, r6, r7, r8, r9⟩ := (S.up ha).ent _ (look_in hlk) hc2
    simp only at r1 r7 r9
    exact ⟨r5, ty, cs, true, r7, by rw [r1, r8]; simp, fun i j l v a b c => r9 i j l v a b (by rw [r1, Nat.zero_add] at c; exact c)⟩
  · rename_i c2 r el m hlk
    refine rows (fun e' ha hc2 => ?_) hk
    obtain ⟨r1, t, r2, r3, r4, r5⟩ := (S.up ha).ent _ (look_in hlk) hc2
    simp only at r2 r4 r5
    obtain ⟨g1, g2, g3, g4, ty, cs, rw', g5, g6, g7, g8⟩ := S0.g _ _ r2
    refine ⟨r1, ty, cs, rw', g5, by rw [g7]; exact r4, fun i j l v a b c => ?_⟩
    have := r5 i j l a b
    rw [Nat.add_assoc] at this
    exact g8 _ _ v this c
end Go.Mx.Az

namespace Go.Mx.Az
abbrev Chk := List AL → AS → Kq → HS → Option HS
def ChkOk (h0 : H0) (fr : List (Nat × V)) (h : Hp) (n : Nat) (e : Env) (chk : Chk) (z : Nat) (xs : List V) (m : Nat) : Prop :=
  ∀ {el : List AL} {A1 : AS} {e1 : Env} {K : Kq} {q q' : HS}, Sat h0 A1 ⟨fr, [], h⟩ e1 → Le n e e1 → n = A1.n → el.length = z → chk el A1 K q = some q' →
    ∃ A' e' q1 q2, K A' q1 = some q2 ∧ Went h0 A1 e1 fr h A' e' ∧ ∀ e2, Agr A'.n e' e2 → XsOk { e2 with G := e'.G } el xs m
def chkCells (C : Cfg) (k : Nat) (as : List AV) : Chk := fun el A K hs => leafsK C A (repAL k el) as K hs
def chkRows (el' : List AL) : Chk := fun el A K hs => bif ALs.beq el el' then K A hs else none
theorem chkCells_ok {C : Cfg} (hC : CfgOk C) {h0 : H0} {fr : List (Nat × V)} {h : Hp} {n : Nat} {e : Env} {z m k : Nat} {xs : List V} {as : List AV} (hs : SrcOk n e z m xs (.cells k as)) (hl : xs.length = m * z) : ChkOk h0 fr h n e (chkCells C k as) z xs m := by
  intro el A1 e1 K q q' S hle hn hel hk
  obtain ⟨rfl, hs⟩ := hs
  obtain ⟨A', e', q1, q2, h1, W, hlen, L⟩ := leafsK_ok hC S hk
  refine ⟨A', e', q1, q2, h1, W, fun e2 ha => ⟨by rw [hl, hel], fun i j l v hi hj hv => ?_⟩⟩
  have hA : Agr n e e2 := (hle.trans W.le (by omega)).agr.trans ha (by rw [hn, W.n]; exact Nat.le_refl _)
  rw [← hs e2 hA, AVs.get] at hv
  obtain ⟨a, ha', rfl⟩ := Option.map_eq_some_iff.1 hv
  have hjl := (List.getElem?_eq_some_iff.1 hj).1
  exact L e2 ha (i * el.length + j) l a (by rw [repAL_get _ _ _ _ hi hjl]; exact hj) ha'
theorem XsOk.mono {e e' : Env} {el : List AL} {xs : List V} {m : Nat} (X : XsOk e el xs m) (hi : e'.i = e.i) (hG : ∀ b t, e.G b = some t → e'.G b = some t) : XsOk e' el xs m :=
  ⟨X.len, fun i j l v a b c => by rw [hi]; exact (X.ok i j l v a b c).mono hG⟩
theorem chkRows_ok {h0 : H0} {fr : List (Nat × V)} {h : Hp} {n : Nat} {e : Env} {z m : Nat} {xs : List V} {el' : List AL} {len : Poly} (hs : SrcOk n e z m xs (.rows el' len)) : ChkOk h0 fr h n e (chkRows el') z xs m := by
  intro el A1 e1 K q q' S hle hn hel hk
  unfold chkRows at hk
  cases hb : ALs.beq el el' <;> rw [hb] at hk <;> simp only [cond_true, cond_false] at hk
  · cases hk
  have hb := ALs.beq_eq hb; subst hb
  refine ⟨A1, e1, q, q', hk, ⟨Le.refl _ _, rfl, S⟩, fun e2 ha => ?_⟩
  exact (hs.2.2 e2 (hle.agr.trans ha (by omega))).2.mono rfl hle.G
def fitP (te : TI) (n : Poly) : List Poly := [addC (smul (-(te.bytes : Int)) n) 140737488355328, addC (negP n) 9223372036854775807]
theorem fitP_ok {e : Nat → Int} (h1 : e 0 = 1) {te : TI} {p : Poly} {n : Nat} (hp : p.den e = n) (h : ∀ x ∈ fitP te p, 0 ≤ x.den e) : fitsA te n = true := by
  have a1 := h (addC (smul (-(te.bytes : Int)) p) 140737488355328) (by simp [fitP])
  have a2 := h (addC (negP p) 9223372036854775807) (by simp [fitP])
  rw [den_addC h1, den_smul, hp] at a1
  rw [den_addC h1, den_neg, hp] at a2
  have e1 : -(te.bytes : Int) * n = -(n * te.bytes) := by rw [Int.neg_mul, Int.mul_comm]
  have e2 : ((n * te.bytes : Nat) : Int) = n * te.bytes := Int.natCast_mul _ _
  simp only [fitsA, Bool.and_eq_true, decide_eq_true_eq]
  omega
def bndI (n : Nat) : Int := bif Nat.beq n 0 then BIG else zig n
def destK (C : Cfg) (e : Nat) (te : TI) (s : AV) (m : Poly) (chk : Chk) (A : AS) (K : Ks) (hs : HS) : Option HS :=
  match s with
  | .k v => bif vbeq v .nils then (match C.el A e 1 hs with
    | some (some el, hs) => bif Nat.beq el.length te.size then chk el A (fun A hs => match pvs C A (fitP te m) hs with
        | some hs => K (A.newB (.row 0 e el m [(A.n, m)]) fun _ => []) (.sl 0 A.n [] m A.n te.size) hs
        | none => none) hs else none
    | _ => none) else none
  | .sl c β off len κ z => (match off, look A.H β with
    | [], some (.row c2 _ el _ _) => bif Nat.beq z te.size && Nat.beq el.length te.size && (Nat.beq c2 0 || Nat.beq c2 c) && Nat.blt c A.n then
        chk el A (fun A hs => match look A.H β with
          | some (.row c3 e3 el3 mm ks) => bif Nat.beq c2 c3 && Nat.beq e e3 && ALs.beq el el3 && hasK κ len ks then
              (match C.qm A ⟨0, 0, 1, mm, addP len m, constP 1, []⟩ hs with
              | some (bn, hs) => (match pvs C A (len :: fitP te (addP len m) ++ [addC (negP mm) (bndI bn), addC (negP (addP len m)) (bndI bn)] ++ (match c with | 0 => [] | c => [subP (smul BIG (varP c)) len])) hs with
               | some hs => K { A with n := A.n + 2, F := [subP (varP (A.n + 1)) (addP len m), addC (negP (varP (A.n + 1))) (bndI bn)] ++ A.F, H := (A.n, .row 0 e el (varP (A.n + 1)) [(A.n, addP len m)]) :: delH β A.H, L := [] } (.sl 0 A.n [] (addP len m) A.n te.size) hs
               | none => none)
              | none => none) else none
          | _ => none) hs else none
    | _, _ => none)
  | _ => none
theorem dest_ok {C : Cfg} (hC : CfgOk C) {h0 : H0} {A : AS} {fr : List (Nat × V)} {h : Hp} {e : Env} (S : Sat h0 A ⟨fr, [], h⟩ e) {et : Nat} {te : TI} (hz0 : 0 < te.size) {s : AV} {y : V} (hy : ∀ e', Agr A.n e e' → s.den e' = y) {m : Poly} {mN : Nat} (hm : ∀ e', Agr A.n e e' → m.den e'.i = mN) (hm1 : 1 ≤ mN) {xs : List V} (hxl : xs.length = mN * te.size) {chk : Chk} (hchk : ChkOk h0 fr h A.n e chk te.size xs mN) {K : Ks} {q q' : HS} (hk : destK C et te s m chk A K q = some q') :
    ∃ v h', appendB h et te y mN xs = some (v, h') ∧ Out h0 A e K fr v h' := by
  unfold destK at hk
  have hye := hy e (Agr.refl _ _)
  split at hk <;> first | (cases hk; done) | skip
  ·
    rename_i v
    cases hb : vbeq v .nils <;> rw [hb] at hk <;> simp only [cond_true, cond_false] at hk
    · cases hk
    have hv := veq_of hb; subst hv
    split at hk <;> first | (cases hk; done) | skip
    rename_i el q1 _
    cases hb : Nat.beq el.length te.size <;> rw [hb] at hk <;> simp only [cond_true, cond_false] at hk
    · cases hk
    have hel := Nat.eq_of_beq_eq_true hb
    obtain ⟨A1, e1, q2, q3, h1, W, X⟩ := hchk S (Le.refl _ _) rfl hel hk
    split at h1 <;> first | (cases h1; done) | skip
    rename_i q4 h4
    have S1 := W.s.here.1
    have hA1 : ∀ e', Agr A1.n e1 e' → Agr A.n e e' := fun e' ha => W.le.agr.trans ha (by rw [W.n]; exact Nat.le_refl _)
    have hfit : fitsA te mN = true := fitP_ok S1.one (hm e1 (hA1 _ (Agr.refl _ _))) (pvs_ok hC h4 S1)
    rw [← hye]
    simp only [AV.den, appendB, growA, if_pos hfit]
    refine ⟨_, _, rfl, Out.step W.le (by rw [W.n]; exact Nat.le_refl _) ⟨_, _, _, q4, q3, h1, Le.set _ _ _ _ _, Nat.le_succ _, W.s.newB _ 0 none (fun e' _ _ _ _ => FOk.nil _) (fun e' ha hg _ hbb ho hcc a1 => ?_), fun e' ha => ?_⟩⟩
    · intro _
      rw [hbb, hm e' (hA1 e' ha)]
      have hX := X e' ha
      refine ⟨ho, by simp, a1.ext.n, a1.freeG, by omega, fun p hp => ?_, _, _, ?_, Hp.get_push_self _ _, by rw [hX.len]; simp, fun i j l v hi hj hv => ?_⟩
      · simp only [List.mem_singleton] at hp
        subst hp
        simp only
        rw [hcc, hm e' (hA1 e' ha), Option.getD_none]; omega
      · omega
      · have := hX.ok i j l v (by omega) hj hv
        rw [hg]; exact this
    · have hA : Agr A1.n e1 e' := (e1.set_agr _ _ _ _ _ _).trans ha (Nat.le_succ _)
      have one := (W.s.nums hA).1
      simp only [AV.den, Poly.den]
      rw [if_neg (by rw [one]; omega), ha.b _ (Nat.lt_succ_self _), ha.o _ (Nat.lt_succ_self _), ha.c _ (Nat.lt_succ_self _), hm e' (hA1 e' hA)]
      simp [Env.set]
  ·
    rename_i c β off len κ z
    split at hk <;> first | (cases hk; done) | skip
    rename_i c2 e2 el mm0 ks0 hlk0
    cases hb : (Nat.beq z te.size && Nat.beq el.length te.size && (Nat.beq c2 0 || Nat.beq c2 c) && Nat.blt c A.n) <;> rw [hb] at hk <;> simp only [cond_true, cond_false] at hk
    · cases hk
    simp only [Bool.and_eq_true, Bool.or_eq_true] at hb
    obtain ⟨⟨⟨b1, b2⟩, b3⟩, b4⟩ := hb
    have b1 := Nat.eq_of_beq_eq_true b1
    have hel := Nat.eq_of_beq_eq_true b2
    have hcn : c < A.n := Nat.le_of_ble_eq_true b4
    subst b1
    obtain ⟨A1, e1, q2, q3, h1, W, X⟩ := hchk S (Le.refl _ _) rfl hel hk
    split at h1 <;> first | (cases h1; done) | skip
    rename_i c3 e3 el3 mm ks hlk
    cases hb : (Nat.beq c2 c3 && Nat.beq et e3 && ALs.beq el el3 && hasK κ len ks) <;> rw [hb] at h1 <;> simp only [cond_true, cond_false] at h1
    · cases h1
    simp only [Bool.and_eq_true] at hb
    obtain ⟨⟨⟨d1, d2⟩, d3⟩, d4⟩ := hb
    have d1 := Nat.eq_of_beq_eq_true d1; have d2 := Nat.eq_of_beq_eq_true d2; have d3 := ALs.beq_eq d3; have d4 := hasK_in d4
    subst d1; subst d2; subst d3
    split at h1 <;> first | (cases h1; done) | skip
    rename_i bnn q0 _
    split at h1 <;> first | (cases h1; done) | skip
    rename_i q4 h4
    obtain ⟨BI, hBI⟩ : ∃ BI, bndI bnn = BI := ⟨_, rfl⟩
    rw [hBI] at h1 h4
    have hA1 : ∀ e', Agr A1.n e1 e' → Agr A.n e e' := fun e' ha => W.le.agr.trans ha (by rw [W.n]; exact Nat.le_refl _)
    have hcc : ∀ e', Agr A1.n e1 e' → e'.i c = e1.i c := fun e' ha => ha.i c (by rw [← W.n]; exact hcn)
    have fa : ∀ e', Agr A1.n e1 e' → 0 ≤ len.den e'.i ∧ (e'.i c = 0 → len.den e'.i = 0) := fun e' ha => by
      have S2 := W.s.up ha
      have a1 := pvs_ok hC h4 S2 len (by simp)
      refine ⟨a1, fun hc0 => ?_⟩
      cases c with
      | zero => have := S2.one; simp only at this; rw [this] at hc0; cases hc0
      | succ c =>
        have c1 := pvs_ok hC h4 S2 (subP (smul BIG (varP (c + 1))) len) (by simp)
        rw [den_sub, den_smul, den_var] at c1
        simp only at c1 a1
        rw [hc0] at c1; omega
    have S1 := W.s.here.1
    have f1 := fa e1 (Agr.refl _ _)
    have hm' := hm e1 (hA1 _ (Agr.refl _ _))
    have hy1 := hy e1 (hA1 _ (Agr.refl _ _))
    obtain ⟨L, hL⟩ : ∃ L : Nat, len.den e1.i = L := ⟨_, (Int.toNat_of_nonneg f1.1).symm⟩
    have hsum : (addP len m).den e1.i = ((L + mN : Nat) : Int) := by rw [den_add, hL, hm', Int.natCast_add]
    have hfit : fitsA te (L + mN) = true := fitP_ok S1.one hsum (fun x hx => pvs_ok hC h4 S1 x (by
      simp only [List.cons_append, List.mem_cons, List.mem_append]; exact .inr (.inl (.inl hx))))
    have big1 : ((L + mN : Nat) : Int) ≤ BI := by
      have := pvs_ok hC h4 S1 (addC (negP (addP len m)) BI) (by simp)
      rw [den_addC S1.one, den_neg, hsum] at this; omega
    have big2 : (((mm.den e1.i).toNat : Nat) : Int) ≤ BI := by
      have := pvs_ok hC h4 S1 (addC (negP mm) BI) (by simp)
      rw [den_addC S1.one, den_neg] at this
      omega
    have stL : ∀ e', Agr A1.n e1 e' → len.den e'.i = L := fun e' ha => by
      have g := fa e' ha
      by_cases hc0 : e1.i c = 0
      · rw [g.2 (by rw [hcc e' ha]; exact hc0), ← hL, f1.2 hc0]
      · have h5 := hy e' (hA1 e' ha)
        rw [← hy1] at h5
        simp only [AV.den, if_neg hc0, if_neg (show ¬ e'.i c = 0 by rw [hcc e' ha]; exact hc0), V.sl.injEq] at h5
        omega
    have stS : ∀ e', Agr A1.n e1 e' → (addP len m).den e'.i = ((L + mN : Nat) : Int) := fun e' ha => by rw [den_add, stL e' ha, hm e' (hA1 e' ha), Int.natCast_add]
    have fin : ∀ {bn M : Nat} {cp : Option Nat} {hn : Hp}, L + mN ≤ M → (M : Int) ≤ BI →
        (∀ e', Agr A1.n e1 e' → e'.G = e1.G → SatH h0 A1 h e' → ∀ {n : Nat} {p : Poly}, e'.b n = bn → e'.o n = 0 → (e'.c n = cp.map fun k => k - (L + mN)) → p.den e'.i = M → SatH h0 { A1 with H := (n, .row 0 et el p [(n, addP len m)]) :: delH β A1.H, L := [] } hn e') → (∀ k, cp = some k → L + mN ≤ k) →
        Out h0 A e K fr (.sl bn 0 (L + mN) cp te.size) hn := by
      intro bn M cp hn hM hMB H hcp
      refine Out.step (A1 := A1) (e1 := e1) W.le (by rw [W.n]; exact Nat.le_refl _) ?_
      have g1 := W.s.fresh 0 .nilp bn 0 (cp.map fun k => k - (L + mN)) rfl
      have g2 := g1.fresh M .nilp 0 0 none rfl
      simp only at g2
      have a1 : Agr A1.n e1 (e1.set A1.n 0 .nilp bn 0 (cp.map fun k => k - (L + mN))) := e1.set_agr _ _ _ _ _ _
      have a2 := a1.trans (Env.set_agr (e1.set A1.n 0 .nilp bn 0 (cp.map fun k => k - (L + mN))) (A1.n + 1) M .nilp 0 0 none) (Nat.le_succ _)
      have vals : ∀ e', Agr (A1.n + 2) ((e1.set A1.n 0 .nilp bn 0 (cp.map fun k => k - (L + mN))).set (A1.n + 1) M .nilp 0 0 none) e' → e'.b A1.n = bn ∧ e'.o A1.n = 0 ∧ (e'.c A1.n = cp.map fun k => k - (L + mN)) ∧ e'.i (A1.n + 1) = M := by
        intro e' ha
        have n1 : A1.n ≠ A1.n + 1 := by omega
        refine ⟨?_, ?_, ?_, ?_⟩
        · rw [ha.b _ (by omega)]; simp [Env.set, n1]
        · rw [ha.o _ (by omega)]; simp [Env.set, n1]
        · rw [ha.c _ (by omega)]; simp [Env.set, n1]
        · rw [ha.i _ (by omega)]; simp [Env.set, n1]
      refine ⟨_, _, _, q4, q3, h1, ⟨a2, fun _ _ h => h⟩, by simp only; omega, ⟨rfl, g2.vb, fun e' ha hg => ?_⟩, fun e' ha => ?_⟩
      · have hA : Agr A1.n e1 e' := a2.trans ha (show A1.n ≤ A1.n + 2 by omega)
        obtain ⟨v1, v2, v3, v4⟩ := vals e' ha
        obtain ⟨c1, c2⟩ := g2.all e' ha hg
        have c3 := H e' hA hg (by obtain ⟨x1, x2⟩ := W.s.all e' hA hg; exact x1) (p := varP (A1.n + 1)) v1 v2 v3 (by rw [den_var]; exact v4)
        refine ⟨?_, c2⟩
        refine (c3.n (show 0 < A1.n + 2 by omega)).addF fun f hf => ?_
        simp only [List.mem_cons, List.not_mem_nil, or_false] at hf
        rcases hf with hf | hf <;> subst hf
        · rw [den_sub, den_var, v4, stS e' hA]; omega
        · rw [den_addC (W.s.nums hA).1, den_neg, den_var, v4]; omega
      · have hA : Agr A1.n e1 e' := a2.trans ha (show A1.n ≤ A1.n + 2 by omega)
        obtain ⟨v1, v2, v3, v4⟩ := vals e' ha
        have one := (W.s.nums hA).1
        simp only [AV.den, Poly.den]
        rw [if_neg (by rw [one]; omega), v1, v2, v3, stS e' hA]
        simp only [Int.toNat_zero, Nat.add_zero, Int.toNat_natCast]
        congr 1
        cases cp with
        | none => rfl
        | some k => simp only [Option.map_some]; congr 1; have := hcp k rfl; omega
    by_cases hc0 : e1.i c = 0
    ·
      have hL0 : L = 0 := by have := f1.2 hc0; omega
      subst hL0
      have hyn : y = .nils := by rw [← hy1]; simp only [AV.den, if_pos hc0]
      rw [hyn]
      rw [Nat.zero_add] at hfit fin big1
      simp only [appendB, growA, if_pos hfit]
      refine ⟨_, _, rfl, fin (Nat.le_refl _) big1 (fun e' ha hg a1 n p v1 v2 v3 v4 => ?_) (fun k hk => by cases hk)⟩
      refine SatH.push (A := { A1 with H := delH β A1.H }) (a1.forget β) v1 fun _ => ?_
      have hX := X e' ha
      rw [v1, v4]
      refine ⟨v2, by simp, a1.ext.n, a1.freeG, by omega, fun p hp => ?_, _, _, by omega, Hp.get_push_self _ _, by rw [hX.len]; simp, fun i j l v hi hj hv => ?_⟩
      · simp only [List.mem_singleton] at hp
        subst hp
        simp only
        rw [v3, stS e' ha]; simp
      · rw [hg]; exact hX.ok i j l v (by omega) hj hv
    ·
      have hc2 : ∀ e', Agr A1.n e1 e' → e'.i 0 = 1 → e'.i c2 ≠ 0 := fun e' ha one => by
        rcases b3 with b3 | b3
        · rw [Nat.eq_of_beq_eq_true b3, one]; omega
        · rw [Nat.eq_of_beq_eq_true b3, hcc e' ha]; exact hc0
      obtain ⟨r1, r2, r3, r4, r5, r6, ty, cs, r7, r8, r9, r10⟩ := S1.ent _ (look_in hlk) (hc2 e1 (Agr.refl _ _) S1.one)
      simp only at r1 r2 r3 r4 r6 r8 r10
      have hyv : y = .sl (e1.b β) 0 L ((e1.c κ).map fun k => L + k) te.size := by
        rw [← hy1]; simp only [AV.den, if_neg hc0, Poly.den, r1]; rw [hL]; simp
      have stb : ∀ e', Agr A1.n e1 e' → e'.b β = e1.b β := fun e' ha => by
        have h5 := hy e' (hA1 e' ha)
        rw [← hy1] at h5
        simp only [AV.den, if_neg hc0, if_neg (show ¬ e'.i c = 0 by rw [hcc e' ha]; exact hc0), V.sl.injEq] at h5
        exact h5.1
      have ent : ∀ e', Agr A1.n e1 e' → SatH h0 A1 h e' → e'.o β = 0 ∧ (mm.den e'.i).toNat * el.length = cs.length ∧ e'.G (e1.b β) = none ∧ excl e' (.row c2 et el mm ks) ∧ (∀ (i j : Nat) l v, i < (mm.den e'.i).toNat → el[j]? = some l → cs[i * el.length + j]? = some v → SlOk e'.G (l.den e'.i) v) := fun e' ha s2 => by
        obtain ⟨p1, p2, p3, p4, p5, p6, ty', cs', p7, p8, p9, p10⟩ := s2.ent _ (look_in hlk) (hc2 e' ha s2.one)
        simp only at p1 p4 p8 p10
        rw [stb e' ha] at p4 p8
        rw [r8] at p8; cases p8
        exact ⟨p1, p9.symm, p4, hc2 e' ha s2.one, p10⟩
      have e0 := ent e1 (Agr.refl _ _) S1
      rw [hyv]
      simp only [appendB, if_true, r8]
      have hrow : ∀ {e' : Env}, Agr A1.n e1 e' → e'.G = e1.G → SatH h0 A1 h e' → L * te.size ≤ cs.length → ∀ (i j : Nat) l v, i < L + mN → el[j]? = some l → (((cs.drop 0).take (L * te.size)) ++ xs)[i * el.length + j]? = some v → SlOk e'.G (l.den e'.i) v := by
        intro e' ha hg s2 hle i j l v hi hj hv
        have hjl := (List.getElem?_eq_some_iff.1 hj).1
        have hX := X e' ha
        have hen := ent e' ha s2
        have htl : ((cs.drop 0).take (L * te.size)).length = L * te.size := by rw [List.length_take, List.length_drop]; omega
        by_cases hiL : i < L
        · have h6 : (i + 1) * el.length ≤ L * el.length := Nat.mul_le_mul_right _ hiL
          rw [Nat.succ_mul] at h6
          rw [List.getElem?_append_left (by rw [htl, ← hel]; omega), List.getElem?_take, List.drop_zero] at hv
          split at hv <;> first | (cases hv; done) | skip
          refine hen.2.2.2.2 i j l v ?_ hj hv
          rcases Nat.lt_or_ge i (mm.den e'.i).toNat with h7 | h7
          · exact h7
          · have h8 := Nat.mul_le_mul_right el.length h7
            rw [hen.2.1] at h8
            have := (List.getElem?_eq_some_iff.1 hv).1
            omega
        · have h6 : i * el.length = L * el.length + (i - L) * el.length := by rw [← Nat.add_mul]; congr 1; omega
          rw [List.getElem?_append_right (by rw [htl, ← hel]; omega), htl, ← hel] at hv
          have h7 : i * el.length + j - L * el.length = (i - L) * el.length + j := by omega
          rw [h7] at hv
          rw [hg]; exact hX.ok (i - L) j l v (by omega) hj hv
      have inpl : ∀ {cp : Option Nat}, (L + mN) * te.size ≤ cs.length → (∀ e', Agr A1.n e1 e' → SatH h0 A1 h e' → ∀ k, cp = some k → L + mN ≤ k ∧ k ≤ (mm.den e'.i).toNat) → Out h0 A e K fr (.sl (e1.b β) 0 (L + mN) cp te.size) (h.set (e1.b β) (.blk ty (setAll cs (0 + L * te.size) xs) true)) := by
        intro cp hle hcp
        have hM : L + mN ≤ (mm.den e1.i).toNat := by
          rcases Nat.lt_or_ge (mm.den e1.i).toNat (L + mN) with h7 | h7
          · have h8 : ((mm.den e1.i).toNat + 1) * el.length ≤ (L + mN) * el.length := Nat.mul_le_mul_right _ h7
            rw [Nat.succ_mul, e0.2.1, hel] at h8; omega
          · exact h7
        have hxl' : L * te.size + xs.length ≤ cs.length := by rw [hxl, ← Nat.add_mul]; exact hle
        refine fin hM big2 (fun e' ha hg a1 n p v1 v2 v3 v4 => ?_) (fun k hk => (hcp e1 (Agr.refl _ _) S1 k hk).1)
        have hen := ent e' ha a1
        have hX := X e' ha
        have hmm : (mm.den e'.i).toNat = (mm.den e1.i).toNat := by
          have h8 := hen.2.1; rw [← e0.2.1] at h8
          exact Nat.eq_of_mul_eq_mul_right (by omega) h8
        have hw := a1.write' (β1 := n) (k1 := .row 0 et el p [(n, addP len m)]) hlk hen.2.2.2.1 (by rw [v1, stb e' ha]) (.blk ty (setAll cs (0 + L * te.size) xs) true) (fun _ => by
          rw [stb e' ha, v1, v4]
          refine ⟨v2, by simpa using r2, r3, hen.2.2.1, by omega, fun q hq => ?_, ty, _, r7, Hp.get_set_self _ _ _, ?_, fun i j l v hi hj hv => ?_⟩
          · simp only [List.mem_singleton] at hq
            subst hq
            simp only
            rw [v3, stS e' ha]
            cases hcp2 : cp with
            | none => simp only [Option.map_none, Option.getD_none]; omega
            | some k =>
              simp only [Option.map_some, Option.getD_some]
              have := hcp e' ha a1 k hcp2
              omega
          · rw [length_setAll, ← hen.2.1, hmm, Int.toNat_natCast]
          · rw [setAll_get _ _ _ _ (by omega)] at hv
            have hjl := (List.getElem?_eq_some_iff.1 hj).1
            split at hv
            · rename_i hr
              rw [Nat.zero_add, ← hel] at hr hv
              have hxl2 : xs.length = mN * el.length := by rw [hxl, hel]
              have hiL : L ≤ i := by
                rcases Nat.lt_or_ge i L with h7 | h7
                · have h8 : (i + 1) * el.length ≤ L * el.length := Nat.mul_le_mul_right _ h7
                  rw [Nat.succ_mul] at h8; omega
                · exact h7
              have h6 : i * el.length = L * el.length + (i - L) * el.length := by rw [← Nat.add_mul]; congr 1; omega
              have h7 : i * el.length + j - L * el.length = (i - L) * el.length + j := by omega
              rw [h7] at hv
              have hlt : i - L < mN := by
                rcases Nat.lt_or_ge (i - L) mN with h9 | h9
                · exact h9
                · have := Nat.mul_le_mul_right el.length h9; omega
              rw [hg]; exact hX.ok (i - L) j l v hlt hj hv
            · exact hen.2.2.2.2 i j l v (by rw [hmm]; omega) hj hv)
        rw [stb e' ha] at hw
        exact hw
      have grow : ∀ {h1 : Hp} {cs1 : List V}, L * te.size ≤ cs.length → cs1 = ((cs.drop 0).take (L * te.size)) ++ xs → (∀ e', Agr A1.n e1 e' → SatH h0 A1 h e' → SatH h0 { A1 with H := delH β A1.H, L := [] } h1 e') → Out h0 A e K fr (.sl h1.n 0 (L + mN) none te.size) (h1.push (.blk (2 * et + 1) cs1 true)) := by
        intro hh1 cs1 hle hcs H
        refine fin (Nat.le_refl _) big1 (fun e' ha hg a1 n p v1 v2 v3 v4 => ?_) (fun k hk => by cases hk)
        have s3 := H e' ha a1
        refine SatH.push (A := { A1 with H := delH β A1.H, L := [] }) s3 v1 fun _ => ?_
        rw [v1, v4]
        refine ⟨v2, by simp, s3.ext.n, s3.freeG, by omega, fun q hq => ?_, _, _, by omega, Hp.get_push_self _ _, ?_, fun i j l v hi hj hv => ?_⟩
        · simp only [List.mem_singleton] at hq
          subst hq
          simp only
          rw [v3, stS e' ha]; simp
        · rw [hcs, List.length_append, List.length_take, List.length_drop, hxl]
          have : (L + mN) * el.length = L * te.size + mN * te.size := by rw [hel, Nat.add_mul]
          simp only [Int.toNat_natCast]; omega
        · rw [hcs] at hv
          exact hrow ha hg a1 hle i j l v (by omega) hj hv
      have hLm := r6 _ d4
      simp only at hLm
      rw [hL, Int.toNat_natCast] at hLm
      have hLle : L * te.size ≤ cs.length := by
        rw [r9, hel]; exact Nat.mul_le_mul_right _ (by omega)
      cases hcap : e1.c κ with
      | some sp =>
        rw [hcap, Option.getD_some] at hLm
        simp only [Option.map_some]
        by_cases hfl : L + mN ≤ L + sp
        · have hle : 0 + (L + mN) * te.size ≤ cs.length := by
            rw [r9, hel, Nat.zero_add]; exact Nat.mul_le_mul_right _ (by omega)
          rw [if_pos hfl, if_pos ⟨trivial, hle⟩]
          refine ⟨_, _, rfl, inpl (by omega) fun e' ha s2 k hk => ?_⟩
          cases hk
          have hen := ent e' ha s2
          have hmm : (mm.den e'.i).toNat = (mm.den e1.i).toNat := by
            have h8 := hen.2.1; rw [← e0.2.1] at h8
            exact Nat.eq_of_mul_eq_mul_right (by omega) h8
          omega
        · rw [if_neg hfl]
          simp only [growA, if_pos hfit]
          exact ⟨_, _, rfl, grow hLle rfl fun e' ha s2 => (s2.forget β).noL⟩
      | none =>
        simp only [Option.map_none]
        by_cases hle : 0 + (L + mN) * te.size ≤ cs.length
        · rw [if_pos hle]
          exact ⟨_, _, rfl, inpl (by omega) fun e' ha s2 k hk => by cases hk⟩
        · rw [if_neg hle, if_pos ⟨trivial, r7⟩]
          simp only [growA, if_pos hfit]
          refine ⟨_, _, rfl, grow hLle rfl fun e' ha s2 => ?_⟩
          have := s2.kill hlk (ent e' ha s2).2.2.2.1 .dead
          rw [stb e' ha] at this; exact this
def slLikeA : AV → Bool
  | .k v => vbeq v .nils
  | .sl .. => true
  | .es _ _ => true
  | _ => false
theorem slLikeA_ok {a : AV} (h : slLikeA a = true) (e : Env) : sliceLike (a.den e) = true := by
  unfold slLikeA at h
  split at h <;> first | (cases h; done) | skip
  · rename_i v; simp only [AV.den, veq_of h]; rfl
  · simp only [AV.den]; split <;> rfl
  · rename_i b n
    simp only [AV.den]
    rcases emptyV_cases (e.b b) (e.v n) with ⟨b', o, c, z, hx⟩ | ⟨z, hx⟩ <;> rw [hx] <;> rfl
def appendK (C : Cfg) (sT xT : Nat) (s x : AV) (A : AS) (K : Ks) (hs : HS) : Option HS :=
  match C.tb sT, C.tb xT with
  | some si, some xi => (match si.d, xi.d with
    | .slice e, .slice _ => (match C.tb e with
      | some te => bif Nat.beq te.zero.length te.size && Nat.blt 0 te.size && slLikeA s then
          (bif isK .nils x then K A s hs else match srcOf C A te.size x hs with
            | some (.cells 0 _, hs) => K A s hs
            | some (.cells (k + 1) as, hs) => bif as.all oneA then destK C e te s (constP ((k + 1 : Nat) : Int)) (chkCells C (k + 1) as) A K hs else none
            | some (.rows el' len, hs) => branch C A (addC len (-1)) (fun b A hs => match b with
                | true => destK C e te s len (chkRows el') A K hs
                | false => K A s hs) hs
            | none => none) else none
      | none => none)
    | _, _ => none)
  | _, _ => none
theorem append_ok {C : Cfg} (hC : CfgOk C) {h0 : H0} {A : AS} {fr : List (Nat × V)} {h : Hp} {e : Env} (S : Sat h0 A ⟨fr, [], h⟩ e) {sT xT : Nat} {s a : AV} {y x : V} (hy : ∀ e', Agr A.n e e' → s.den e' = y) (hx : ∀ e', Agr A.n e e' → a.den e' = x) {K : Ks} {q q' : HS} (hk : appendK C sT xT s a A K q = some q') :
    ∃ v h', appendA C.tb h sT xT y x = some (v, h') ∧ Out h0 A e K fr v h' := by
  unfold appendK at hk
  split at hk <;> first | (cases hk; done) | skip
  rename_i si xi hsi hxi
  split at hk <;> first | (cases hk; done) | skip
  rename_i et e2 hd hd2
  split at hk <;> first | (cases hk; done) | skip
  rename_i te hte
  cases hb : (Nat.beq te.zero.length te.size && Nat.blt 0 te.size && slLikeA s) <;> rw [hb] at hk <;> simp only [cond_true, cond_false] at hk
  · cases hk
  simp only [Bool.and_eq_true] at hb
  have hz := Nat.eq_of_beq_eq_true hb.1.1
  have hz0 : 0 < te.size := Nat.le_of_ble_eq_true hb.1.2
  have hsl : sliceLike y = true := by rw [← hy e (Agr.refl _ _)]; exact slLikeA_ok hb.2 e
  simp only [appendA, hsi, hd, hte]
  rw [if_pos ⟨hz, hz0⟩]
  cases hn : isK .nils a <;> rw [hn] at hk <;> simp only [cond_true, cond_false] at hk
  · split at hk <;> first | (cases hk; done) | skip
    · rename_i as q1 hsrc
      obtain ⟨m, xs, s1, s2, s3⟩ := srcOf_ok hC S hxi hd2 hx hsrc
      have hm0 : m = 0 := s3.1
      rw [s1]; simp only
      rw [if_pos hm0, if_pos hsl]
      exact ⟨_, _, rfl, Out.same S hy hk⟩
    · rename_i k as q1 hsrc
      obtain ⟨m, xs, s1, s2, s3⟩ := srcOf_ok hC S hxi hd2 hx hsrc
      have hm0 : m = k + 1 := s3.1
      rw [s1]; simp only
      cases hal : as.all oneA <;> rw [hal] at hk <;> simp only [cond_true, cond_false] at hk
      · cases hk
      have hone : xs.all V.one = true := by
        rw [List.all_eq_true] at hal ⊢
        intro v hv
        rw [← s3.2 e (Agr.refl _ _), AVs.den_eq, List.mem_map] at hv
        obtain ⟨a0, ha0, rfl⟩ := hv
        exact oneA_ok (hal a0 ha0) e
      rw [if_neg (by omega), if_pos hone]
      exact dest_ok hC S hz0 hy (fun e' ha => by rw [den_const (S.nums ha).1, hm0]) (by omega) s2 (chkCells_ok hC s3 s2) hk
    · rename_i el' len q1 hsrc
      obtain ⟨m, xs, s1, s2, s3⟩ := srcOf_ok hC S hxi hd2 hx hsrc
      have hlen : ∀ e', Agr A.n e e' → len.den e'.i = m := fun e' ha => (s3.2.2 e' ha).1
      have hone : xs.all V.one = true := by
        have hX := (s3.2.2 e (Agr.refl _ _)).2
        rw [List.all_eq_true]
        intro v hv
        obtain ⟨k, hk, hvk⟩ := List.mem_iff_getElem.1 hv
        have hel := s3.1
        have hkl : k < m * el'.length := by rw [← hX.len]; exact hk
        have hlt : k % el'.length < el'.length := Nat.mod_lt _ (by omega)
        have e1 : k / el'.length * el'.length + k % el'.length = k := by have := Nat.div_add_mod k el'.length; rw [Nat.mul_comm] at this; exact this
        exact (hX.ok (k / el'.length) (k % el'.length) el'[k % el'.length] v ((Nat.div_lt_iff_lt_mul (by omega)).2 hkl) (List.getElem?_eq_getElem hlt) (by rw [e1, ← hvk]; exact List.getElem?_eq_getElem hk)).one
      rw [s1]; simp only
      obtain ⟨A1, q3, q4, k1, S1, M1⟩ := branch_ok hC S (t := decide (1 ≤ m)) (fun e' ha hg a1 => by
        rw [den_addC a1.one, hlen e' ha]; exact decide_eq_decide.2 (by omega)) hk
      by_cases hm1 : 1 ≤ m
      · rw [if_neg (by omega), if_pos hone]
        simp only [hm1, decide_true] at k1
        obtain ⟨v, h', r1, r2⟩ := dest_ok hC S1 hz0 (fun e' ha => hy e' (by rw [M1.n] at ha; exact ha)) (fun e' ha => hlen e' (by rw [M1.n] at ha; exact ha)) hm1 s2 (by rw [M1.n]; exact chkRows_ok s3) k1
        exact ⟨v, h', r1, Out.more M1 r2⟩
      · rw [if_pos (by omega), if_pos hsl]
        simp only [hm1, decide_false] at k1
        exact ⟨_, _, rfl, Out.more M1 (Out.same S1 (fun e' ha => hy e' (by rw [M1.n] at ha; exact ha)) k1)⟩
  · have := isK_eq hn; subst this
    have hxn : x = .nils := by rw [← hx e (Agr.refl _ _)]; simp [AV.den]
    rw [hxn]
    simp only [srcA, hxi, hd2, if_true, if_pos hsl]
    exact ⟨_, _, rfl, Out.same S hy hk⟩
def copyD (C : Cfg) (β : Nat) (off len slen : Poly) (z : Nat) (chk : Chk) (A : AS) (K : Ks) (hs : HS) : Option HS :=
  match divZ z off, look A.H β with
  | some (io, 0), some (.row 0 et el m _) => bif Nat.beq el.length z then
      chk el A (fun A hs => match look A.H β with
        | some (.row 0 et1 el1 m1 ks1) => bif Nat.beq et et1 && ALs.beq el el1 && beqP m m1 then
            (match pvs C A [io, len, subP (subP m io) len] hs with
             | some hs => branch C A (subP len slen) (fun b A hs => K { A with H := (β, .row 0 et el m ks1) :: delH β A.H, L := [] } (.i .i64 (bif b then slen else len)) hs) hs
             | none => none) else none
        | _ => none) hs else none
  | _, _ => none
def copyK (C : Cfg) (dT : Nat) (d x : AV) (A : AS) (K : Ks) (hs : HS) : Option HS :=
  match C.tb dT with
  | none => none
  | some di => match di.d with
    | .slice e => (match C.tb e, d with
      | some te, .sl 0 β off len _ z => bif Nat.beq z te.size && Nat.blt 0 te.size then (match srcOf C A te.size x hs with
          | some (.cells k as, hs) => bif as.all oneA then copyD C β off len (constP k) z (chkCells C k as) A K hs else none
          | some (.rows el' sl, hs) => copyD C β off len sl z (chkRows el') A K hs
          | none => none) else none
      | _, _ => none)
    | _ => none
theorem csrc_of_src {tb : Nat → Option TI} {h : Hp} {xT : Nat} {xi te : TI} {e1 : Nat} (hx : tb xT = some xi) (hd : xi.d = .slice e1) {x : V} {m n : Nat} {xs : List V} (hs : srcA tb h xT te x = some (m, xs)) : csrcA h te.size n x = some (min m n, xs.take (min m n * te.size)) := by
  simp only [srcA, hx, hd] at hs
  unfold csrcA
  split at hs <;> first | (cases hs; done) | skip
  · rename_i h1; cases h1
  · cases hs; simp
  · cases hs; simp
  · rename_i b o n1 c z _
    by_cases h0 : n1 = 0
    · rw [if_pos h0] at hs; cases hs; simp [h0]
    · rw [if_neg h0] at hs
      simp only [h0, if_false]
      split at hs <;> first | (cases hs; done) | skip
      rename_i hz
      subst hz
      simp only [if_true]
      split at hs <;> first | (cases hs; done) | skip
      rename_i ty cells rw' hg
      rw [hg]
      simp only
      split at hs <;> first | (cases hs; done) | skip
      rename_i hle
      cases hs
      rw [if_pos hle, List.take_take, Nat.min_eq_left (Nat.mul_le_mul_right _ (Nat.min_le_left _ _))]
  · rename_i h1; cases h1
theorem copyD_ok {C : Cfg} (hC : CfgOk C) {h0 : H0} {A : AS} {fr : List (Nat × V)} {h : Hp} {e : Env} (S : Sat h0 A ⟨fr, [], h⟩ e) {dT et0 κ β z mN : Nat} {di te : TI} (ht : C.tb dT = some di) (hd : di.d = .slice et0) (hte : C.tb et0 = some te) (hz : z = te.size) (hz0 : 0 < z)
    {off len slen : Poly} {y x : V} (hy : ∀ e', Agr A.n e e' → (AV.sl 0 β off len κ z).den e' = y) {xs : List V} (hx : srcA C.tb h dT te x = some (mN, xs)) (hxl : xs.length = mN * z) (hone : xs.all V.one = true) (hm : ∀ e', Agr A.n e e' → slen.den e'.i = mN)
    {chk : Chk} (hchk : ChkOk h0 fr h A.n e chk z xs mN) {K : Ks} {q q' : HS} (hk : copyD C β off len slen z chk A K q = some q') :
    ∃ v h', copyA C.tb h dT y x = some (v, h') ∧ Out h0 A e K fr v h' := by
  subst hz
  unfold copyD at hk
  split at hk <;> first | (cases hk; done) | skip
  rename_i io et el m ks0 hdv hlk
  cases hel : Nat.beq el.length te.size <;> rw [hel] at hk <;> simp only [cond_true, cond_false] at hk
  · cases hk
  have hel := Nat.eq_of_beq_eq_true hel
  obtain ⟨A1, e1, q1, q2, h1, W, X⟩ := hchk S (Le.refl _ _) rfl hel hk
  split at h1 <;> first | (cases h1; done) | skip
  rename_i et1 el1 m1 ks1 hlk1
  cases hb : (Nat.beq et et1 && ALs.beq el el1 && beqP m m1) <;> rw [hb] at h1 <;> simp only [cond_true, cond_false] at h1
  · cases h1
  simp only [Bool.and_eq_true] at hb
  have b1 := Nat.eq_of_beq_eq_true hb.1.1; have b2 := ALs.beq_eq hb.1.2; have b3 := beqP_eq hb.2
  subst b1; subst b2; subst b3
  split at h1 <;> first | (cases h1; done) | skip
  rename_i q3 hp
  have upA : ∀ {e'}, Agr A1.n e1 e' → Agr A.n e e' := fun ha => W.le.agr.trans ha (by rw [W.n]; exact Nat.le_refl _)
  have hA0 : Agr A.n e e := Agr.refl _ _
  have one : ∀ {e'}, Agr A.n e e' → e'.i 0 = 1 := fun ha => (S.nums ha).1
  have hyv : ∀ {e'}, Agr A.n e e' → y = .sl (e'.b β) (e'.o β + (off.den e'.i).toNat) (len.den e'.i).toNat ((e'.c κ).map fun k => (len.den e'.i).toNat + k) te.size := fun {e'} ha => by
    rw [← hy e' ha]; simp only [AV.den]; rw [if_neg (by rw [one ha]; omega)]
  have facts : ∀ {e'}, Agr A1.n e1 e' → 0 ≤ io.den e'.i ∧ 0 ≤ len.den e'.i ∧ len.den e'.i ≤ m.den e'.i - io.den e'.i ∧ (off.den e'.i).toNat = (io.den e'.i).toNat * te.size := fun {e'} ha => by
    have S1 := W.s.up ha
    have a1 := pvs_ok hC hp S1 io (by simp)
    have a2 := pvs_ok hC hp S1 len (by simp)
    have a3 := pvs_ok hC hp S1 (subP (subP m io) len) (by simp)
    rw [den_sub, den_sub] at a3
    have a4 := (divZ_ok S1.one hz0 hdv).1
    simp only at a1 a2 a3 a4
    refine ⟨a1, a2, by omega, ?_⟩
    have : (((io.den e'.i).toNat * te.size : Nat) : Int) = te.size * io.den e'.i := by rw [Int.natCast_mul, Int.toNat_of_nonneg a1, Int.mul_comm]
    omega
  have F1 := facts (Agr.refl _ _)
  have hA1 : Agr A.n e e1 := upA (Agr.refl _ _)
  have hst : ∀ {e'}, Agr A1.n e1 e' → e'.b β = e1.b β ∧ e'.o β + (off.den e'.i).toNat = e1.o β + (off.den e1.i).toNat ∧ len.den e'.i = len.den e1.i := fun {e'} ha => by
    have h2 := (hyv (upA ha)).symm.trans (hyv hA1)
    simp only [V.sl.injEq] at h2
    have := facts ha
    exact ⟨h2.1, h2.2.1, by omega⟩
  obtain ⟨A2, q4, q5, k2, S2, M2⟩ := branch_ok hC W.s (t := decide (mN ≤ (len.den e1.i).toNat)) (fun e' ha hg a1 => by
    rw [den_sub, hm e' (upA ha), (hst ha).2.2]
    exact decide_eq_decide.2 (by omega)) h1
  obtain ⟨p1, p2, p3, p4, p5, _, ty, cs, p6, p7, p8, p9⟩ := (W.s.here.1).ent _ (look_in hlk1) (by rw [one hA1]; omega)
  simp only at p1 p2 p3 p4 p7 p9
  have hcs := csrc_of_src ht hd hx (n := (len.den e1.i).toNat)
  have hkN : (min mN (len.den e1.i).toNat : Nat) * te.size ≤ mN * te.size := Nat.mul_le_mul_right _ (Nat.min_le_left _ _)
  have hxl' : (xs.take (min mN (len.den e1.i).toNat * te.size)).length = min mN (len.den e1.i).toNat * te.size := by rw [List.length_take, hxl]; omega
  have hone' : (xs.take (min mN (len.den e1.i).toNat * te.size)).all V.one = true := by
    rw [List.all_eq_true] at hone ⊢
    exact fun v hv => hone v (List.mem_of_mem_take hv)
  have hpos : e1.o β + (off.den e1.i).toNat = (io.den e1.i).toNat * el.length := by rw [p1, F1.2.2.2, hel]; omega
  have hfit : (io.den e1.i).toNat * el.length + min mN (len.den e1.i).toNat * te.size ≤ cs.length := by
    rw [p8, hel, ← Nat.add_mul]
    exact Nat.mul_le_mul_right _ (by omega)
  have hcopy : copyA C.tb h dT y x = some (.i .i64 (min mN (len.den e1.i).toNat : Nat), h.set (e1.b β) (.blk ty (setAll cs ((io.den e1.i).toNat * el.length) (xs.take (min mN (len.den e1.i).toNat * te.size))) true)) := by
    rw [hyv hA1]
    simp only [copyA, ht, hd, hte, if_true, hcs, p7, hpos]
    rw [if_pos ⟨hfit, hone'⟩]
  refine ⟨_, _, hcopy, _, _, e1, q4, q5, k2, W.le, by show A.n ≤ A2.n; rw [M2.n, W.n]; exact Nat.le_refl _, S2.setHeap rfl rfl fun e' ha hg s1 => ?_, fun e' ha => ?_⟩
  · have ha1 : Agr A1.n e1 e' := by rw [M2.n] at ha; exact ha
    have hlk2 : look A2.H β = some (.row 0 et el m ks1) := by rw [M2.H]; exact hlk1
    have hlive : excl e' (.row 0 et el m ks1) := by show e'.i 0 ≠ 0; rw [one (upA ha1)]; omega
    obtain ⟨r1, r2, r3, r4, r5, rks, ty', cs', r6, r7, r8, r9⟩ := s1.ent _ (look_in hlk2) hlive
    simp only at r1 r2 r3 r4 r7 r9
    have T1 := hst ha1
    have F2 := facts ha1
    rw [T1.1] at r7 r2 r3 r4
    rw [p7] at r7; cases r7
    refine s1.write hlk2 hlive rfl (fun b hb => Hp.get_set_ne _ _ (by rw [← T1.1]; exact hb)) fun _ => ?_
    rw [T1.1]
    refine ⟨r1, by simpa using r2, r3, r4, r5, rks, ty, _, r6, Hp.get_set_self _ _ _, by rw [length_setAll]; exact r8, fun i' j' l w hi' hl' hw' => ?_⟩
    have hio : (io.den e'.i).toNat = (io.den e1.i).toNat := by
      have h2 := T1.2.1
      rw [r1, p1, F2.2.2.2, F1.2.2.2] at h2
      simp only [Nat.zero_add] at h2
      exact Nat.eq_of_mul_eq_mul_right hz0 h2
    rw [setAll_get _ _ _ _ (by rw [hxl']; exact hfit)] at hw'
    split at hw'
    · rename_i hr
      rw [hxl', ← hel] at hr
      have hjl : j' < el.length := (List.getElem?_eq_some_iff.1 hl').1
      have hlo : (io.den e1.i).toNat ≤ i' := by
        rcases Nat.lt_or_ge i' (io.den e1.i).toNat with h3 | h3
        · have : (i' + 1) * el.length ≤ (io.den e1.i).toNat * el.length := Nat.mul_le_mul_right _ h3
          rw [Nat.succ_mul] at this; omega
        · exact h3
      obtain ⟨d, rfl⟩ := Nat.exists_eq_add_of_le hlo
      have hdlt : d < min mN (len.den e1.i).toNat := by
        rcases Nat.lt_or_ge d (min mN (len.den e1.i).toNat) with h3 | h3
        · exact h3
        · have : min mN (len.den e1.i).toNat * el.length ≤ d * el.length := Nat.mul_le_mul_right _ h3
          rw [Nat.add_mul] at hr; omega
      have e9 : ((io.den e1.i).toNat + d) * el.length + j' - (io.den e1.i).toNat * el.length = d * el.length + j' := by rw [Nat.add_mul]; omega
      rw [e9, List.getElem?_take] at hw'
      split at hw' <;> first | (cases hw'; done) | skip
      have := (X e' ha1).ok d j' l w (by omega) hl' hw'
      rw [hg]; exact this
    · exact r9 i' j' l w hi' hl' hw'
  · have ha1 : Agr A1.n e1 e' := by
      have h3 : A2.n = A1.n := M2.n
      rw [← h3]; exact ha
    simp only [AV.den]
    congr 1
    by_cases hc : mN ≤ (len.den e1.i).toNat
    · simp only [hc, decide_true, cond_true]
      rw [hm e' (upA ha1), Nat.min_eq_left hc]
    · simp only [hc, decide_false, cond_false]
      rw [(hst ha1).2.2, Nat.min_eq_right (by omega), Int.toNat_of_nonneg F1.2.1]
theorem copy_ok {C : Cfg} (hC : CfgOk C) {h0 : H0} {A : AS} {fr : List (Nat × V)} {h : Hp} {e : Env} (S : Sat h0 A ⟨fr, [], h⟩ e) {dT : Nat} {d a : AV} {y x : V} (hy : ∀ e', Agr A.n e e' → d.den e' = y) (hx : ∀ e', Agr A.n e e' → a.den e' = x) {K : Ks} {q q' : HS} (hk : copyK C dT d a A K q = some q') :
    ∃ v h', copyA C.tb h dT y x = some (v, h') ∧ Out h0 A e K fr v h' := by
  unfold copyK at hk
  split at hk
  · cases hk
  rename_i di ht
  split at hk <;> first | (cases hk; done) | skip
  rename_i et hd
  split at hk <;> first | (cases hk; done) | skip
  rename_i te β off len κ z hte
  cases hb : (Nat.beq z te.size && Nat.blt 0 te.size) <;> rw [hb] at hk <;> simp only [cond_true, cond_false] at hk
  · cases hk
  simp only [Bool.and_eq_true] at hb
  have hz := Nat.eq_of_beq_eq_true hb.1
  have hz0 : 0 < te.size := Nat.le_of_ble_eq_true hb.2
  have hz0' : 0 < z := by omega
  split at hk <;> first | (cases hk; done) | skip
  · rename_i k as q1 hsrc
    obtain ⟨m, xs, s1, s2, s3⟩ := srcOf_ok hC S ht hd hx hsrc
    cases hal : as.all oneA <;> rw [hal] at hk <;> simp only [cond_true, cond_false] at hk
    · cases hk
    have hone : xs.all V.one = true := by
      rw [List.all_eq_true] at hal ⊢
      intro v hv
      rw [← s3.2 e (Agr.refl _ _), AVs.den_eq, List.mem_map] at hv
      obtain ⟨a0, ha0, rfl⟩ := hv
      exact oneA_ok (hal a0 ha0) e
    rw [← hz] at s2
    exact copyD_ok hC S ht hd hte hz hz0' hy s1 s2 hone (fun e' ha => by rw [den_const (S.nums ha).1, s3.1]) (by rw [hz]; exact chkCells_ok hC s3 (by rw [← hz]; exact s2)) hk
  · rename_i el' sl q1 hsrc
    obtain ⟨m, xs, s1, s2, s3⟩ := srcOf_ok hC S ht hd hx hsrc
    have hone : xs.all V.one = true := by
      have hX := (s3.2.2 e (Agr.refl _ _)).2
      rw [List.all_eq_true]
      intro v hv
      obtain ⟨k, hk, hvk⟩ := List.mem_iff_getElem.1 hv
      have hel := s3.1
      have hkl : k < m * el'.length := by rw [← hX.len]; exact hk
      have hlt : k % el'.length < el'.length := Nat.mod_lt _ (by omega)
      have e1 : k / el'.length * el'.length + k % el'.length = k := by have := Nat.div_add_mod k el'.length; rw [Nat.mul_comm] at this; exact this
      exact (hX.ok (k / el'.length) (k % el'.length) el'[k % el'.length] v ((Nat.div_lt_iff_lt_mul (by omega)).2 hkl) (List.getElem?_eq_getElem hlt) (by rw [e1, ← hvk]; exact List.getElem?_eq_getElem hk)).one
    rw [← hz] at s2
    exact copyD_ok hC S ht hd hte hz hz0' hy s1 s2 hone (fun e' ha => (s3.2.2 e' ha).1) (by rw [hz]; exact chkRows_ok s3) hk
end Go.Mx.Az

namespace Go.Mx.Az
def qUse (C : Cfg) (β : Nat) (off : Poly) : Nat → AS → (AS → HS → Option HS) → HS → Option HS
  | 0, A, K, hs => K A hs
  | f + 1, A, K, hs => match memo1 β off A.M with
    | some (.i _ x) => (match C.qm A ⟨β, 1000000, f, off, x, [], []⟩ hs with
      | some (0, hs) => K A hs
      | some (n + 1, hs) => (match A.Q[n]? with
        | some q => (match q.z with
          | 0 => none
          | z + 1 => (match divZ (z + 1) off with
            | some (i, j) => bif Nat.beq q.b β && Nat.beq q.j j then (match pvs C A [subP i q.a, addC (subP q.c i) (-1)] hs with
              | some hs => qUse C β off f { A with F := [subP x q.lo, subP q.hi x] ++ A.F } K hs
              | none => none) else none
            | none => none))
        | none => none)
      | none => none)
    | _ => K A hs
theorem qUse_ok {C : Cfg} (hC : CfgOk C) {h0 : H0} {β : Nat} {off : Poly} : ∀ {f : Nat} {A : AS} {s : St} {e : Env} {K : AS → HS → Option HS} {q q' : HS}, Sat h0 A s e → qUse C β off f A K q = some q' → ∃ A' q1 q2, K A' q1 = some q2 ∧ Sat h0 A' s e ∧ More A A'
  | 0, A, s, e, K, q, q', S, hk => ⟨A, q, q', hk, S, More.refl A⟩
  | f + 1, A, s, e, K, q, q', S, hk => by
    unfold qUse at hk
    split at hk
    · rename_i k x hm
      split at hk
      · rename_i q1 _; exact ⟨A, q1, q', hk, S, More.refl A⟩
      · rename_i n q1 _
        split at hk <;> first | (cases hk; done) | skip
        rename_i Q hQ
        split at hk <;> first | (cases hk; done) | skip
        rename_i z hz
        split at hk <;> first | (cases hk; done) | skip
        rename_i i j hd
        cases hb : (Nat.beq Q.b β && Nat.beq Q.j j) <;> rw [hb] at hk <;> simp only [cond_true, cond_false] at hk
        · cases hk
        simp only [Bool.and_eq_true] at hb
        have hb1 := nb hb.1; have hb2 := nb hb.2
        split at hk <;> first | (cases hk; done) | skip
        rename_i q2 h2
        have S1 : Sat h0 { A with F := [subP x Q.lo, subP Q.hi x] ++ A.F } s e := S.addF1 _ fun e' ha hg a1 p hp => by
          have p1 := pvs_ok hC h2 a1 (subP i Q.a) (by simp)
          have p2 := pvs_ok hC h2 a1 (addC (subP Q.c i) (-1)) (by simp)
          rw [den_sub] at p1
          rw [den_addC a1.one, den_sub] at p2
          obtain ⟨m1, ty, cs, rw', m2, m3⟩ := a1.mem _ (memo1_in hm)
          obtain ⟨u1, ty2, cs2, rw2, k2, n2, u2, u3, u4, u5⟩ := a1.qf Q (List.mem_of_getElem? hQ) (i.den e'.i) (by omega) (by omega)
          simp only at m2 m3
          rw [hb1, m2] at u2
          simp only [Option.some.injEq, Ob.blk.injEq] at u2
          obtain ⟨_, rfl, _⟩ := u2
          have hoff := (divZ_ok a1.one (by omega) hd).1
          have e1 : (i.den e'.i * (Q.z : Int) + (Q.j : Int)).toNat = (off.den e'.i).toNat := by
            rw [hoff, hz, hb2, Int.mul_comm]
          rw [hb1, e1, m3] at u3
          simp only [AV.den, Option.some.injEq, V.i.injEq] at u3
          simp only [List.mem_cons, List.not_mem_nil, or_false] at hp
          rcases hp with rfl | rfl
          · rw [den_sub, u3.2]; omega
          · rw [den_sub, u3.2]; omega
        obtain ⟨A', q3, q4, k1, S2, M2⟩ := qUse_ok hC S1 hk
        exact ⟨A', q3, q4, k1, S2, ⟨M2.n, M2.fr, M2.H, M2.T, M2.M, M2.Q⟩⟩
      · cases hk
    · exact ⟨A, q, q', hk, S, More.refl A⟩
def qUses (C : Cfg) (β : Nat) : Nat → Poly → AS → (AS → HS → Option HS) → HS → Option HS
  | 0, _, A, K, hs => K A hs
  | n + 1, off, A, K, hs => qUse C β off 3 A (fun A hs => qUses C β n (addC off 1) A K hs) hs
theorem qUses_ok {C : Cfg} (hC : CfgOk C) {h0 : H0} {β : Nat} : ∀ {n : Nat} {off : Poly} {A : AS} {s : St} {e : Env} {K : AS → HS → Option HS} {q q' : HS}, Sat h0 A s e → qUses C β n off A K q = some q' → ∃ A' q1 q2, K A' q1 = some q2 ∧ Sat h0 A' s e ∧ More A A'
  | 0, off, A, s, e, K, q, q', S, hk => ⟨A, q, q', hk, S, More.refl A⟩
  | n + 1, off, A, s, e, K, q, q', S, hk => by
    simp only [qUses] at hk
    obtain ⟨A1, q1, q2, k1, S1, M1⟩ := qUse_ok hC S hk
    obtain ⟨A2, q3, q4, k2, S2, M2⟩ := qUses_ok hC S1 k1
    exact ⟨A2, q3, q4, k2, S2, M1.trans M2⟩
def loadQ (C : Cfg) (t : Nat) (a : AV) (A : AS) (K : Ks) (hs : HS) : Option HS :=
  loadK C t a A (fun A v hs => match A.Q, a, v with
    | _ :: _, .p β q, .i _ _ => qUses C β 1 q A (fun A hs => K A v hs) hs
    | _ :: _, .p β q, .agg l => qUses C β l.length q A (fun A hs => K A v hs) hs
    | _, _, _ => K A v hs) hs
theorem loadQ_ok {C : Cfg} (hC : CfgOk C) {t : Nat} {a : AV} {h0 : H0} {A : AS} {fr : List (Nat × V)} {h : Hp} {e : Env} (S : Sat h0 A ⟨fr, [], h⟩ e) {x : V} (hx : ∀ e', Agr A.n e e' → a.den e' = x) {K : Ks} {q q' : HS} (hk : loadQ C t a A K q = some q') :
    ∃ v, loadA C.tb h t x = some v ∧ Out h0 A e K fr v h := by
  obtain ⟨v, h1, w0, A1, e1, q1, q2, k1, l1, n1, S1⟩ := load_ok hC S hx hk
  refine ⟨v, h1, ?_⟩
  have key : ∀ {n : Nat} {β : Nat} {qo : Poly}, qUses C β n qo A1 (fun A hs => K A w0 hs) q1 = some q2 → Out h0 A e K fr v h := fun hq => by
    obtain ⟨A2, q3, q4, k2, S2, M2⟩ := qUses_ok hC S1.s hq
    exact ⟨w0, A2, e1, q3, q4, k2, l1, by rw [M2.n]; exact n1, ⟨S2, fun e' ha => S1.v e' (by rw [M2.n] at ha; exact ha)⟩⟩
  simp only at k1
  split at k1
  · exact key k1
  · exact key k1
  · exact ⟨_, A1, e1, q1, q2, k1, l1, n1, S1⟩
end Go.Mx.Az

namespace Go.Mx.Az
inductive ATg where
  | fn (g : Nat)
  | it (g : Nat)
  | y (β : Nat)
def ATg.to (e : Env) : ATg → Tg
  | .fn g => .fn g
  | .it g => .it g
  | .y β => .yield (e.b β)
abbrev ACall := ATg → List AV → AS → Ks → HS → Option HS
def ACallOk (h0 : H0) (ccall : Caller) (acall : ACall) : Prop := ∀ {g : ATg} {as : List AV} {A : AS} {K : Ks} {q q' : HS} {fr : List (Nat × V)} {h : Hp} {e : Env} {vs : List V}, Sat h0 A ⟨fr, [], h⟩ e → (∀ e', Agr A.n e e' → AVs.den e' as = vs) → acall g as A K q = some q' →
  ∃ v h', ccall (g.to e) vs h = some (.ret v, h') ∧ Out h0 A e K fr v h'
def unK (op : UnOp) (C : Cfg) (a : AV) (A : AS) (K : Ks) (hs : HS) : Option HS :=
  match op, a with
  | .neg, .i k p => wrapK C A k (negP p) K hs
  | .not, .b c => K A (.b c.neg) hs
  | _, _ => none
theorem un_ok {C : Cfg} (hC : CfgOk C) {op : UnOp} {a : AV} {h0 : H0} {A : AS} {fr : List (Nat × V)} {h : Hp} {e : Env} (S : Sat h0 A ⟨fr, [], h⟩ e) {x : V} (hx : ∀ e', Agr A.n e e' → a.den e' = x) {K : Ks} {q q' : HS} (hk : unK op C a A K q = some q') : ∃ v, unA op x = some v ∧ Out h0 A e K fr v h := by
  unfold unK at hk
  split at hk <;> first | (cases hk; done) | skip
  · rename_i k p
    have hxe := hx e (Agr.refl _ _)
    simp only [AV.den] at hxe; subst hxe
    exact ⟨_, rfl, wrapK_ok hC S (fun e' ha => by have := hx e' ha; simp only [AV.den, V.i.injEq, true_and] at this; rw [den_neg, this]; omega) hk⟩
  · rename_i c
    have hxe := hx e (Agr.refl _ _)
    simp only [AV.den] at hxe; subst hxe
    exact ⟨_, rfl, Out.same S (fun e' ha => by have := hx e' ha; simp only [AV.den, V.b.injEq] at this; simp only [AV.den, Cnd.den_neg (S.nums ha).1, this]) hk⟩
def convK (C : Cfg) (s d : Nat) (a : AV) (A : AS) (K : Ks) (hs : HS) : Option HS :=
  match C.tb s, C.tb d with
  | some si, some di => (match di.d, a with
    | .int k, .i _ p => wrapK C A k p K hs
    | .string, a => (match si.d with
      | .string => bif isStr a then K A a hs else none
      | _ => none)
    | _, _ => none)
  | _, _ => none
theorem conv_ok {C : Cfg} (hC : CfgOk C) {s d : Nat} {a : AV} {h0 : H0} {A : AS} {fr : List (Nat × V)} {h : Hp} {e : Env} (S : Sat h0 A ⟨fr, [], h⟩ e) {x : V} (hx : ∀ e', Agr A.n e e' → a.den e' = x) {K : Ks} {q q' : HS} (hk : convK C s d a A K q = some q') : ∃ v, convA C.tb s d x = some v ∧ Out h0 A e K fr v h := by
  unfold convK at hk
  split at hk <;> first | (cases hk; done) | skip
  rename_i si di hs hd
  split at hk <;> first | (cases hk; done) | skip
  · rename_i k k' p hdd
    have hxe := hx e (Agr.refl _ _)
    simp only [AV.den] at hxe; subst hxe
    simp only [convA, hs, hd, hdd]
    exact ⟨_, rfl, wrapK_ok hC S (fun e' ha => by have := hx e' ha; simpa [AV.den] using this) hk⟩
  · rename_i a _ _ hdd
    split at hk <;> first | (cases hk; done) | skip
    rename_i hsd
    cases hb : isStr a <;> rw [hb] at hk <;> simp only [cond_true, cond_false] at hk
    · cases hk
    obtain ⟨l, hl⟩ := isStr_ok (e := e) hb
    rw [hx e (Agr.refl _ _)] at hl
    rw [hl]
    simp only [convA, hs, hd, hdd, hsd]
    exact ⟨_, rfl, Out.same S (fun e' ha => by rw [hx e' ha, hl]) hk⟩
def maxOf (C : Cfg) (mx : Bool) (as : List AV) (A : AS) (K : Ks) (hs : HS) : Option HS :=
  match as with
  | [.i k p, .i k' r] => bif decide (k = k') then maxK C A mx k p r K hs else none
  | _ => none
theorem maxOf_ok {C : Cfg} (hC : CfgOk C) {mx : Bool} {as : List AV} {h0 : H0} {A : AS} {fr : List (Nat × V)} {h : Hp} {e : Env} (S : Sat h0 A ⟨fr, [], h⟩ e) {xs : List V} (hx : ∀ e', Agr A.n e e' → AVs.den e' as = xs) {K : Ks} {q q' : HS} (hk : maxOf C mx as A K q = some q') :
    ∃ v, (if mx then intsA (fun a c => if c > a then c else a) xs else intsA (fun a c => if c < a then c else a) xs) = some v ∧ Out h0 A e K fr v h := by
  unfold maxOf at hk
  split at hk <;> first | (cases hk; done) | skip
  rename_i k p k' r
  cases hb : decide (k = k') <;> rw [hb] at hk <;> simp only [cond_true, cond_false] at hk
  · cases hk
  have hb := of_decide_eq_true hb; subst hb
  have hxe := hx e (Agr.refl _ _)
  simp only [AVs.den, AV.den] at hxe; subst hxe
  have h1 : ∀ e', Agr A.n e e' → p.den e'.i = p.den e.i ∧ r.den e'.i = r.den e.i := fun e' ha => by
    have := hx e' ha; simpa [AVs.den, AV.den] using this
  refine ⟨_, ?_, maxK_ok hC S (fun e' ha => (h1 e' ha).1) (fun e' ha => (h1 e' ha).2) hk⟩
  cases mx <;> simp [intsA, intsA.go]
def exOp (C : Cfg) (call : ACall) (ev : Operand → Option AV) (o : Op) (A : AS) (K : Ks) (hs : HS) : Option HS :=
  match o with
  | .move x => (match ev x with
    | some a => K A a hs
    | none => none)
  | .assign x => (match ev x with
    | some a => K A a hs
    | none => none)
  | .pick c a b => (match ev c with
    | some (.b cn) => branchC C A cn (fun t A hs => match ev (bif t then a else b) with
      | some v => K A v hs
      | none => none) hs
    | _ => none)
  | .nilCheck x => (match ev x with
    | some (.p b q) => K A (.p b q) hs
    | some (.f (.func g) u v) => K A (.f (.func g) u v) hs
    | _ => none)
  | .binOp op t x y _ => (match ev x, ev y with
    | some a, some c => binK C op t a c A K hs
    | _, _ => none)
  | .unOp op _ x => (match ev x with
    | some a => unK op C a A K hs
    | none => none)
  | .convert s d x => (match ev x with
    | some a => convK C s d a A K hs
    | none => none)
  | .makeInterface t x => (match C.tb t, ev x with
    | some ti, some a => if notIface ti.d then K A (.ifc t a) hs else none
    | _, _ => none)
  | .makeFunc fn a b => (match evAs ev a.toList, evAs ev b.toList with
    | some u, some v => K A (.f fn u v) hs
    | _, _ => none)
  | .fieldAddr s x f => (match ev x with
    | some a => fieldAddrK C s a f A K hs
    | none => none)
  | .field s x f => (match ev x with
    | some a => (match fieldK C s a f with
      | some r => K A r hs
      | none => none)
    | none => none)
  | .index t x i => (match ev x, ev i with
    | some a, some c => indexK C t a c A K hs
    | _, _ => none)
  | .indexAddr t x i => (match ev x, ev i with
    | some a, some c => indexAddrK C t a c A K hs
    | _, _ => none)
  | .slice t x lo hi mx => (match ev x, bndK ev lo, bndK ev hi, bndK ev mx with
    | some a, some l, some h, some m => sliceK C t a l h m A K hs
    | _, _, _, _ => none)
  | .extract x i => (match ev x with
    | some (.tup l) => (match l[i]? with
      | some a => K A a hs
      | none => none)
    | _ => none)
  | .load t x => (match ev x with
    | some a => loadQ C t a A K hs
    | none => none)
  | .store t x y => (match ev x, ev y with
    | some a, some v => storeK C t a v A K hs
    | _, _ => none)
  | .alloc t => allocK C t A K hs
  | .box t x => (match ev x with
    | some a => boxK t a A K hs
    | none => none)
  | .build t ps => (match partsK ev ps.toList with
    | some l => buildK C t l A K hs
    | none => none)
  | .buildSlice t n ps => (match partsK ev ps.toList with
    | some l => buildSliceK C t n l A K hs
    | none => none)
  | .makeSlice t n c => (match ev n, ev c with
    | some a, some d => makeSliceK C t a d A K hs
    | _, _ => none)
  | .call c => (match c.callee with
    | .value f => (match ev f, evAs ev c.args.toList with
      | some (.f (.func g) first cap), some as => call (.fn g) (first ++ as ++ cap) A K hs
      | some (.x β), some as => (match look A.H β with
        | some (.lp ..) => call (.y β) as A K hs
        | _ => none)
      | _, _ => none)
    | .builtin b => (match b with
      | .append => (match c.argTypes.toList, c.args.toList with
        | [sT, xT], [s, x] => (match ev s, ev x with
          | some a, some d => appendK C sT xT a d A K hs
          | _, _ => none)
        | _, _ => none)
      | .copy => (match c.argTypes.toList, c.args.toList with
        | [dT, _], [s, x] => (match ev s, ev x with
          | some a, some d => copyK C dT a d A K hs
          | _, _ => none)
        | _, _ => none)
      | .len => (match c.argTypes[0]?, c.args.toList with
        | some t, [x] => (match ev x with
          | some a => lenK C t a A K hs
          | none => none)
        | _, _ => none)
      | .max => (match evAs ev c.args.toList with
        | some as => maxOf C true as A K hs
        | none => none)
      | .min => (match evAs ev c.args.toList with
        | some as => maxOf C false as A K hs
        | none => none)
      | _ => none)
    | _ => none)
  | _ => none
inductive StepR (tb : Nat → Option TI) (ccall : Caller) (cev : Operand → Option V) (o : Op) (h : Hp) (v : V) : Hp → Prop
  | pure (hp : pureA tb cev o = some v) : StepR tb ccall cev o h v h
  | read (hp : pureA tb cev o = none) (hh : heapA tb cev o h = some (v, h)) (hr : isRead o = true) : StepR tb ccall cev o h v h
  | heap {h' : Hp} (hp : pureA tb cev o = none) (hh : heapA tb cev o h = some (v, h')) (hc : 2 ≤ clsA o) : StepR tb ccall cev o h v h'
  | call {h' : Hp} (hs : stepOp tb ccall none cev o h = some (.val v h')) (hc : clsA o = 3) : StepR tb ccall cev o h v h'
theorem StepR.step {tb : Nat → Option TI} {ccall : Caller} {cev : Operand → Option V} {o : Op} {h h' : Hp} {v : V} (R : StepR tb ccall cev o h v h') : stepOp tb ccall none cev o h = some (.val v h') := by
  cases R with
  | pure hp => simp only [stepOp, hp]
  | read hp hh hr => simp only [stepOp, hp, hh]
  | heap hp hh hc => simp only [stepOp, hp, hh]
  | call hs hc => exact hs
theorem StepR.readA {tb : Nat → Option TI} {ccall : Caller} {cev : Operand → Option V} {o : Op} {h h' : Hp} {v : V} (R : StepR tb ccall cev o h v h') (hc : clsA o < 2) : readA tb cev o h = some v ∧ h' = h := by
  cases R with
  | pure hp => exact ⟨by simp only [Mx.readA, hp], rfl⟩
  | read hp hh hr => exact ⟨by simp only [Mx.readA, hp, hr, if_true, hh], rfl⟩
  | heap hp hh hc' => omega
  | call hs hc' => omega
theorem exOp_ok {C : Cfg} (hC : CfgOk C) {h0 : H0} {ccall : Caller} {call : ACall} (hcall : ACallOk h0 ccall call) {A : AS} {fr : List (Nat × V)} {h : Hp} {e : Env} (S : Sat h0 A ⟨fr, [], h⟩ e) {ev : Operand → Option AV} {cev : Operand → Option V} (E : EvOk A.n e ev cev) {o : Op} {K : Ks} {q q' : HS} (hk : exOp C call ev o A K q = some q') :
    ∃ v h', StepR C.tb ccall cev o h v h' ∧ Out h0 A e K fr v h' := by
  have ee : ∀ {x a}, ev x = some a → cev x = some (a.den e) := fun hx => E e (Agr.refl _ _) _ _ hx
  have es : ∀ {x a}, ev x = some a → ∀ e', Agr A.n e e' → a.den e' = a.den e := fun hx e' ha => by
    have := E e' ha _ _ hx; rw [ee hx] at this; exact (Option.some.inj this).symm
  have ess : ∀ {l as}, evAs ev l = some as → ∀ e', Agr A.n e e' → AVs.den e' as = AVs.den e as := fun hx e' ha => by
    have := evAs_ok E hx e' ha; rw [evAs_ok E hx e (Agr.refl _ _)] at this; exact (Option.some.inj this).symm
  cases o <;> simp only [exOp] at hk <;> first | (cases hk; done) | skip
  case move x =>
    split at hk <;> first | (cases hk; done) | skip
    rename_i a ha
    exact ⟨_, _, .pure (by simp only [pureA, ee ha]), Out.same S (es ha) hk⟩
  case assign x =>
    split at hk <;> first | (cases hk; done) | skip
    rename_i a ha
    exact ⟨_, _, .pure (by simp only [pureA, ee ha]), Out.same S (es ha) hk⟩
  case pick c a b =>
    split at hk <;> first | (cases hk; done) | skip
    rename_i cn hc
    obtain ⟨A1, q1, q2, k1, S1, M1⟩ := branchC_ok hC S (t := cn.den e.i) (fun e' ha _ _ => by have := es hc e' ha; simpa [AV.den] using this) hk
    split at k1 <;> first | (cases k1; done) | skip
    rename_i v hv
    refine ⟨_, _, .pure (v := v.den e) ?_, Out.more M1 (Out.same S1 (fun e' ha => es hv e' (by rw [M1.n] at ha; exact ha)) k1)⟩
    simp only [pureA, ee hc, AV.den]
    cases ht : cn.den e.i <;> rw [ht] at hv <;> simp only [cond_true, cond_false] at hv <;> exact ee hv
  case nilCheck x =>
    split at hk <;> first | (cases hk; done) | skip
    · rename_i b qo ha
      exact ⟨_, _, .pure (v := (AV.p b qo).den e) (by simp only [pureA, ee ha, AV.den, okCheck, if_true]), Out.same S (es ha) hk⟩
    · rename_i g u v ha
      exact ⟨_, _, .pure (v := (AV.f (.func g) u v).den e) (by simp only [pureA, ee ha, AV.den, okCheck, if_true]), Out.same S (es ha) hk⟩
  case binOp op t x y b =>
    split at hk <;> first | (cases hk; done) | skip
    rename_i a c ha hc
    obtain ⟨v, h1, h2⟩ := binK_ok hC S (cst := isC x || isC y) (es ha) (es hc) hk
    exact ⟨v, _, .pure (by simp only [pureA, ee ha, ee hc]; exact h1), h2⟩
  case unOp op t x =>
    split at hk <;> first | (cases hk; done) | skip
    rename_i a ha
    obtain ⟨v, h1, h2⟩ := un_ok hC S (es ha) hk
    exact ⟨v, _, .pure (by simp only [pureA, ee ha]; exact h1), h2⟩
  case convert s d x =>
    split at hk <;> first | (cases hk; done) | skip
    rename_i a ha
    obtain ⟨v, h1, h2⟩ := conv_ok hC S (es ha) hk
    exact ⟨v, _, .pure (by simp only [pureA, ee ha]; exact h1), h2⟩
  case makeInterface t x =>
    split at hk <;> first | (cases hk; done) | skip
    rename_i ti a ht ha
    split at hk <;> first | (cases hk; done) | skip
    rename_i hn
    exact ⟨.ifc t (a.den e), _, .pure (by simp only [pureA, ht, ee ha, if_pos hn]), Out.same S (fun e' hh => by simp only [AV.den, es ha e' hh]) hk⟩
  case makeFunc fn a b =>
    split at hk <;> first | (cases hk; done) | skip
    rename_i u v hu hv
    exact ⟨.f fn (AVs.den e u) (AVs.den e v), _, .pure (by simp only [pureA, evAs_ok E hu e (Agr.refl _ _), evAs_ok E hv e (Agr.refl _ _)]), Out.same S (fun e' hh => by simp only [AV.den, ess hu e' hh, ess hv e' hh]) hk⟩
  case fieldAddr s x f =>
    split at hk <;> first | (cases hk; done) | skip
    rename_i a ha
    obtain ⟨v, h1, h2⟩ := fieldAddr_ok hC S (es ha) hk
    exact ⟨v, _, .pure (by simp only [pureA, ee ha]; exact h1), h2⟩
  case field s x f =>
    split at hk <;> first | (cases hk; done) | skip
    rename_i a ha
    split at hk <;> first | (cases hk; done) | skip
    rename_i r hr
    refine ⟨r.den e, _, .pure (by simp only [pureA, ee ha]; exact field_ok hr e), Out.same S (fun e' hh => ?_) hk⟩
    have h1 := field_ok hr e'
    rw [es ha e' hh, field_ok hr e] at h1
    exact (Option.some.inj h1).symm
  case index t x i =>
    split at hk <;> first | (cases hk; done) | skip
    rename_i a c ha hc
    obtain ⟨v, h1, h2⟩ := index_ok hC S (es ha) (es hc) hk
    exact ⟨v, _, .pure (by simp only [pureA, ee ha, ee hc]; exact h1), h2⟩
  case indexAddr t x i =>
    split at hk <;> first | (cases hk; done) | skip
    rename_i a c ha hc
    obtain ⟨v, h1, h2⟩ := indexAddr_ok hC S (es ha) (es hc) hk
    exact ⟨v, _, .pure (by simp only [pureA, ee ha, ee hc]; exact h1), h2⟩
  case slice t x lo hi mx =>
    split at hk <;> first | (cases hk; done) | skip
    rename_i a l hh m ha hl hhh hm
    have st : ∀ {o : Option Operand} {p : Option Poly}, bndK ev o = some p → ∀ e', Agr A.n e e' → p.map (fun p => p.den e'.i) = p.map (fun p => p.den e.i) := fun hb e' ha => by
      have := bndK_ok E hb e' ha; rw [bndK_ok E hb e (Agr.refl _ _)] at this; exact (Option.some.inj this).symm
    obtain ⟨v, h1, h2⟩ := slice_ok hC S (es ha) (st hl) (st hhh) (st hm) hk
    exact ⟨v, _, .pure (by simp only [pureA, ee ha, bndK_ok E hl e (Agr.refl _ _), bndK_ok E hhh e (Agr.refl _ _), bndK_ok E hm e (Agr.refl _ _)]; exact h1), h2⟩
  case extract x i =>
    split at hk <;> first | (cases hk; done) | skip
    rename_i l ha
    split at hk <;> first | (cases hk; done) | skip
    rename_i a hi
    refine ⟨a.den e, _, .pure (by simp only [pureA, ee ha, AV.den]; rw [AVs.get, hi]; rfl), Out.same S (fun e' hh => ?_) hk⟩
    have := es ha e' hh
    simp only [AV.den, V.tup.injEq] at this
    have h1 : (AVs.den e' l)[i]? = (AVs.den e l)[i]? := by rw [this]
    rw [AVs.get, AVs.get, hi] at h1; simpa using h1
  case load t x =>
    split at hk <;> first | (cases hk; done) | skip
    rename_i a ha
    obtain ⟨v, h1, h2⟩ := loadQ_ok hC S (es ha) hk
    exact ⟨v, _, .read rfl (by simp only [heapA, ee ha, h1]) rfl, h2⟩
  case store t x y =>
    split at hk <;> first | (cases hk; done) | skip
    rename_i a c ha hc
    obtain ⟨h', h1, h2⟩ := store_ok hC S (es ha) (es hc) hk
    exact ⟨_, h', .heap rfl (by simp only [heapA, ee ha, ee hc, h1]) (by simp [clsA]), h2⟩
  case alloc t =>
    obtain ⟨ti, h1, h2⟩ := alloc_ok S hk
    exact ⟨_, _, .heap rfl (by simp only [heapA, h1]) (by simp [clsA]), h2⟩
  case box t x =>
    split at hk <;> first | (cases hk; done) | skip
    rename_i a ha
    exact ⟨_, _, .heap rfl (by simp only [heapA, ee ha]) (by simp [clsA]), box_ok S (es ha) hk⟩
  case build t ps =>
    split at hk <;> first | (cases hk; done) | skip
    rename_i l hl
    have hp := partsK_ok E hl
    obtain ⟨v, h1, h2⟩ := build_ok S (l := pden e l) (fun e' hh => by have := hp e' hh; rw [hp e (Agr.refl _ _)] at this; exact (Option.some.inj this).symm) hk
    exact ⟨v, _, .read rfl (by simp only [heapA, hp e (Agr.refl _ _), h1]) rfl, h2⟩
  case buildSlice t n ps =>
    split at hk <;> first | (cases hk; done) | skip
    rename_i l hl
    have hp := partsK_ok E hl
    obtain ⟨v, h', h1, h2⟩ := buildSlice_ok hC S (l := pden e l) (fun e' hh => by have := hp e' hh; rw [hp e (Agr.refl _ _)] at this; exact (Option.some.inj this).symm) hk
    exact ⟨v, h', .heap rfl (by simp only [heapA, hp e (Agr.refl _ _), h1]) (by simp [clsA]), h2⟩
  case makeSlice t n c =>
    split at hk <;> first | (cases hk; done) | skip
    rename_i a d ha hd
    obtain ⟨v, h', h1, h2⟩ := makeSlice_ok hC S (es ha) (es hd) hk
    exact ⟨v, h', .heap rfl (by simp only [heapA, ee ha, ee hd, h1]) (by simp [clsA]), h2⟩
  case call c =>
    rcases c with ⟨callee, args, ats⟩
    simp only at hk
    cases callee with
    | invoke r m => simp only [] at hk; cases hk
    | value f =>
      simp only [] at hk
      split at hk <;> first | (cases hk; done) | skip
      rotate_left
      · rename_i β as hf has
        split at hk <;> first | (cases hk; done) | skip
        rename_i st pd sz frl fl pl hlk
        obtain ⟨v, h', h1, h2⟩ := hcall S (vs := AVs.den e as) (fun e' ha => by rw [ess has e' ha]) hk
        refine ⟨v, h', .call ?_ (by simp [clsA]), h2⟩
        obtain ⟨_, _, _, hv, _⟩ := S.here.1.ent _ (look_in hlk)
        have hv2 : cev f = some (.y (e.b β)) := by rw [ee hf]; simp only [AV.den]; rw [hv]
        simp only [ATg.to] at h1
        have hp : ∀ tb ev, pureA tb ev (.call ⟨.value f, args, ats⟩) = none := fun _ _ => rfl
        simp only [stepOp, pureA, heapA, objA, hv2, evAs_ok E has e (Agr.refl _ _), h1, backR]
      rename_i g first cap as hf has
      obtain ⟨v, h', h1, h2⟩ := hcall S (vs := AVs.den e (first ++ as ++ cap)) (fun e' ha => by
        have h3 := es hf e' ha; simp only [AV.den, V.f.injEq, true_and] at h3
        rw [AVs.append, AVs.append, AVs.append, AVs.append, h3.1, h3.2, ess has e' ha]) hk
      refine ⟨v, h', .call ?_ (by simp [clsA]), h2⟩
      rw [so_call, ee hf, evAs_ok E has e (Agr.refl _ _)]
      simp only [AV.den]
      rw [AVs.append, AVs.append] at h1
      simp only [ATg.to] at h1
      rw [h1]; rfl
    | builtin b =>
      simp only [] at hk
      cases b <;> simp only [] at hk <;> first | (cases hk; done) | skip
      case append =>
        split at hk <;> first | (cases hk; done) | skip
        rename_i sT xT s x ht hargs
        split at hk <;> first | (cases hk; done) | skip
        rename_i a d ha hd
        obtain ⟨v, h', h1, h2⟩ := append_ok hC S (es ha) (es hd) hk
        refine ⟨v, h', .heap ?_ ?_ (by simp [clsA]), h2⟩
        · simp only [pureA]; split <;> first | rfl | (rename_i l _; cases l <;> rfl)
        · simp only [heapA, ht, hargs, ee ha, ee hd, h1]
      case copy =>
        split at hk <;> first | (cases hk; done) | skip
        rename_i dT sT s x ht hargs
        split at hk <;> first | (cases hk; done) | skip
        rename_i a d ha hd
        obtain ⟨v, h', h1, h2⟩ := copy_ok hC S (es ha) (es hd) hk
        refine ⟨v, h', .heap ?_ ?_ (by simp [clsA]), h2⟩
        · simp only [pureA]; split <;> first | rfl | (rename_i l _; cases l <;> rfl)
        · simp only [heapA, ht, hargs, ee ha, ee hd, h1]
      case len =>
        split at hk <;> first | (cases hk; done) | skip
        rename_i t x ht hargs
        split at hk <;> first | (cases hk; done) | skip
        rename_i a ha
        obtain ⟨v, h1, h2⟩ := len_ok hC S (es ha) hk ats ht
        exact ⟨v, _, .pure (by simp only [pureA, hargs, evs, ee ha, h1]), h2⟩
      case max =>
        split at hk <;> first | (cases hk; done) | skip
        rename_i as has
        obtain ⟨v, h1, h2⟩ := maxOf_ok hC S (ess has) hk
        exact ⟨v, _, .pure (by simp only [pureA, evAs_ok E has e (Agr.refl _ _), bltA]; simpa using h1), h2⟩
      case min =>
        split at hk <;> first | (cases hk; done) | skip
        rename_i as has
        obtain ⟨v, h1, h2⟩ := maxOf_ok hC S (ess has) hk
        exact ⟨v, _, .pure (by simp only [pureA, evAs_ok E has e (Agr.refl _ _), bltA]; simpa using h1), h2⟩
end Go.Mx.Az

namespace Go.Mx.Az
def setFr (d : Nat) (v : AV) : List (Nat × AV) → List (Nat × AV)
  | [] => [(d, v)]
  | (k, a) :: r => bif Nat.beq k d then (d, v) :: r else (k, a) :: setFr d v r
theorem look_setFr {d : Nat} {v : AV} : ∀ {fr : List (Nat × AV)} {t : Nat} {a : AV}, look (setFr d v fr) t = some a → (t = d ∧ a = v) ∨ (t ≠ d ∧ look fr t = some a)
  | [], t, a, h => by
    simp only [setFr, look] at h
    split at h
    · rename_i e; cases h; exact .inl ⟨(by simpa using e : d = t).symm, rfl⟩
    · cases h
  | (k, b) :: r, t, a, h => by
    unfold setFr at h
    cases hk : Nat.beq k d <;> rw [hk] at h <;> simp only [cond_true, cond_false, look] at h
    · have hkd : k ≠ d := fun e => by rw [e] at hk; simp at hk
      split at h
      · rename_i e
        have e : k = t := by simpa using e
        subst e; cases h
        exact .inr ⟨hkd, by simp [look]⟩
      · rename_i e
        rcases look_setFr h with h | ⟨h1, h2⟩
        · exact .inl h
        · exact .inr ⟨h1, by simp only [look, e, if_false]; exact h2⟩
    · have hkd : k = d := nb hk
      split at h
      · rename_i e; cases h; exact .inl ⟨(by simpa using e : d = t).symm, rfl⟩
      · rename_i e
        have e : ¬ d = t := by simpa using e
        exact .inr ⟨fun x => e x.symm, by simp only [look, hkd]; rw [if_neg (by simpa using e)]; exact h⟩
def putA (sz : Nat) (A : AS) (dst : Option Nat) (v : AV) : Option AS :=
  match dst with
  | none => some A
  | some d => bif Nat.blt d sz then some { A with fr := setFr d v A.fr } else none
theorem put_ok {h0 : H0} {A A' : AS} {fr : List (Nat × V)} {h : Hp} {e : Env} {a : AV} {v : V} {sz : Nat} {dst : Option Nat} (S : Sat h0 A ⟨fr, [], h⟩ e) (hv : ∀ e', Agr A.n e e' → a.den e' = v) (hp : putA sz A dst a = some A') : ∃ fr', putF sz fr dst v = some fr' ∧ Sat h0 A' ⟨fr', [], h⟩ e ∧ A'.n = A.n := by
  unfold putA at hp
  split at hp
  · cases hp; exact ⟨fr, rfl, S, rfl⟩
  · rename_i d
    cases hb : Nat.blt d sz <;> rw [hb] at hp <;> simp only [cond_true, cond_false] at hp
    · cases hp
    · cases hp
      have hd : d < sz := Nat.le_of_ble_eq_true hb
      refine ⟨(d, v) :: fr, by simp [putF, hd], ⟨rfl, S.vb, fun e' ha hg => ?_⟩, rfl⟩
      obtain ⟨a1, a2⟩ := S.all e' ha hg
      refine ⟨a1.setFr _, fun t x hx => ?_⟩
      rcases look_setFr hx with ⟨rfl, rfl⟩ | ⟨h1, h2⟩
      · simp only [look, beq_self_eq_true, if_true]; rw [hv e' ha]
      · have := a2 t x h2
        simp only [look]; rw [if_neg (by simpa using fun x => h1 x.symm)]; exact this
def Rc (h0 : H0) (A : AS) (e : Env) (K : Kq) (s : St) : Prop := ∃ A' e' q1 q2, K A' q1 = some q2 ∧ Le A.n e e' ∧ A.n ≤ A'.n ∧ Sat h0 A' s e'
theorem Rc.step {h0 : H0} {A A1 : AS} {e e1 : Env} {K : Kq} {s : St} (hl : Le A.n e e1) (hn : A.n ≤ A1.n) (H : Rc h0 A1 e1 K s) : Rc h0 A e K s := by
  obtain ⟨A', e', q1, q2, h1, h2, h3, h4⟩ := H
  exact ⟨A', e', q1, q2, h1, hl.trans h2 hn, Nat.le_trans hn h3, h4⟩
def guardK (C : Cfg) (a : Option AV) (want : Bool) (K : Bool → Kq) (A : AS) (hs : HS) : Option HS :=
  match a with
  | some (.b c) => branchC C A c (fun t => K (t == want)) hs
  | some (.tup _) => K false A hs
  | _ => none
def guardD (C : Cfg) (d : Nat) (a : Option AV) (want : Bool) (K : Bool → Kq) (A : AS) (hs : HS) : Option HS :=
  match a with
  | some (.b c) => branchC C A c (fun t A hs => K (t == want) { A with fr := setFr d (.b (.lit t)) A.fr } hs) hs
  | some (.tup _) => K false A hs
  | _ => none
theorem lit_ok {h0 : H0} {A : AS} {fr : List (Nat × V)} {h : Hp} {e : Env} {d : Nat} {t : Bool} (S : Sat h0 A ⟨fr, [], h⟩ e) (hl : look fr d = some (.b t)) : Sat h0 { A with fr := setFr d (.b (.lit t)) A.fr } ⟨fr, [], h⟩ e := by
  refine ⟨rfl, S.vb, fun e' ha hg => ?_⟩
  obtain ⟨a1, a2⟩ := S.all e' ha hg
  refine ⟨a1.setFr _, fun u x hx => ?_⟩
  rcases look_setFr hx with ⟨rfl, rfl⟩ | ⟨h1, h2⟩
  · rw [show look fr u = some (.b t) from hl]; simp [AV.den, Cnd.den]
  · exact a2 u x h2
def exOps (C : Cfg) (call : ACall) (sz : Nat) (ops : Array Oper) : List Oper → AS → Kq → HS → Option HS
  | [], A, K, hs => K A hs
  | o :: r, A, K, hs =>
    match o.guard with
    | none => exOp C call (evA A.fr) o.op A (fun A v hs => match putA sz A o.dst v with
        | some A => exOps C call sz ops r A K hs
        | none => none) hs
    | some (j, want) => match ops[j]? with
      | none => none
      | some p => match p.dst with
        | none => none
        | some d => guardD C d (look A.fr d) want (fun t A hs => match t with
          | true => exOp C call (evA A.fr) o.op A (fun A v hs => match putA sz A o.dst v with
            | some A => exOps C call sz ops r A K hs
            | none => none) hs
          | false => match putA sz A o.dst (.tup []) with
            | some A => exOps C call sz ops r A K hs
            | none => none) A hs
theorem exOps_ok {C : Cfg} (hC : CfgOk C) {h0 : H0} {ccall : Caller} {call : ACall} (hcall : ACallOk h0 ccall call) {sz : Nat} {ops : Array Oper} : ∀ {l : List Oper} {A : AS} {fr : List (Nat × V)} {h : Hp} {e : Env} {K : Kq} {q q' : HS}, Sat h0 A ⟨fr, [], h⟩ e → exOps C call sz ops l A K q = some q' →
    ∃ s', runOps C.tb ccall none sz ops l ⟨fr, [], h⟩ = some (.normal, s') ∧ Rc h0 A e K s' := by
  intro l
  induction l with
  | nil => intro A fr h e K q q' S hk; exact ⟨_, rfl, A, e, q, q', hk, Le.refl _ _, Nat.le_refl _, S⟩
  | cons o r ih =>
    intro A fr h e K q q' S hk
    have go : ∀ {A : AS} {e : Env} {q q' : HS}, Sat h0 A ⟨fr, [], h⟩ e → wantedA ops fr o = some true → exOp C call (evA A.fr) o.op A (fun A v hs => match putA sz A o.dst v with
        | some A => exOps C call sz ops r A K hs
        | none => none) q = some q' → ∃ s', runOps C.tb ccall none sz ops (o :: r) ⟨fr, [], h⟩ = some (.normal, s') ∧ Rc h0 A e K s' := by
      intro A e q q' S hw hk
      obtain ⟨v, h', R, a, A1, e1, q1, q2, k1, l1, n1, S1, d1⟩ := exOp_ok hC hcall S (evA_ok S) hk
      simp only at k1
      split at k1 <;> first | (cases k1; done) | skip
      rename_i A2 hp
      obtain ⟨fr', p1, S2, n2⟩ := put_ok S1 d1 hp
      obtain ⟨s', r1, r2⟩ := ih S2 k1
      refine ⟨s', ?_, Rc.step l1 n1 (Rc.step (A1 := A2) (e1 := e1) (Le.refl _ _) (by rw [n2]; exact Nat.le_refl _) r2)⟩
      simp only [runOps, hw, runOp, R.step, p1, r1]
    have no : ∀ {A : AS} {e : Env} {q q' : HS}, Sat h0 A ⟨fr, [], h⟩ e → wantedA ops fr o = some false → (match putA sz A o.dst (.tup []) with
            | some A => exOps C call sz ops r A K q
            | none => none) = some q' → ∃ s', runOps C.tb ccall none sz ops (o :: r) ⟨fr, [], h⟩ = some (.normal, s') ∧ Rc h0 A e K s' := by
      intro A e q q' S hw hk
      split at hk <;> first | (cases hk; done) | skip
      rename_i A2 hp
      obtain ⟨fr', p1, S2, n2⟩ := put_ok S (v := .tup []) (fun e' _ => by simp [AV.den, AVs.den]) hp
      obtain ⟨s', r1, r2⟩ := ih S2 hk
      refine ⟨s', ?_, Rc.step (A1 := A2) (e1 := e) (Le.refl _ _) (by rw [n2]; exact Nat.le_refl _) r2⟩
      simp only [runOps, hw, p1, r1]
    simp only [exOps] at hk
    split at hk
    · rename_i hg
      exact go S (by simp only [wantedA, hg]) hk
    · rename_i j want hg
      split at hk <;> first | (cases hk; done) | skip
      rename_i p hj
      split at hk <;> first | (cases hk; done) | skip
      rename_i d hd
      unfold guardD at hk
      split at hk <;> first | (cases hk; done) | skip
      · rename_i c hc
        have hce := S.here.2 d _ hc
        obtain ⟨A1, q1, q2, k1, S1, M1⟩ := branchC_ok hC S (t := c.den e.i) (fun e' ha _ _ => by
          have h1 := S.fr e' ha d _ hc; rw [hce] at h1; simpa [AV.den] using h1.symm) hk
        have hw : wantedA ops fr o = some (c.den e.i == want) := by simp only [wantedA, hg, hj, hd, hce, AV.den]
        simp only at k1
        have S1 := lit_ok S1 (by rw [hce]; rfl)
        split at k1
        · rename_i ht
          rw [ht] at hw
          obtain ⟨s', r1, r2⟩ := go S1 hw k1
          exact ⟨s', r1, Rc.step (by exact Le.refl _ _) (by rw [M1.n]; exact Nat.le_refl _) r2⟩
        · rename_i ht
          rw [ht] at hw
          obtain ⟨s', r1, r2⟩ := no S1 hw k1
          exact ⟨s', r1, Rc.step (by exact Le.refl _ _) (by rw [M1.n]; exact Nat.le_refl _) r2⟩
      · rename_i l hc
        have hce := S.here.2 d _ hc
        exact no S (by simp only [wantedA, hg, hj, hd, hce, AV.den]) hk
theorem vbeq_refl_of {v w : V} (h : vbeq v w = true) : vbeq v v = true := by have := veq_of h; subst this; exact h
mutual
theorem AV.vbeq {e : Env} (hv : ∀ n, Mx.vbeq (e.v n) (e.v n) = true) : ∀ {a b : AV}, AV.beq a b = true → Mx.vbeq (a.den e) (a.den e) = true := by
  intro a b h
  cases a <;> cases b <;> simp only [AV.beq, Bool.and_eq_true, decide_eq_true_eq, Bool.false_eq_true] at h <;> simp only [AV.den]
  · simp [Mx.vbeq]
  · simp [Mx.vbeq]
  · exact vbeq_refl_of h
  · exact hv _
  · simp [Mx.vbeq]
  · simp [Mx.vbeq]
  · split <;> simp [Mx.vbeq]
  · rename_i b1 n1 _ _
    rcases emptyV_cases (e.b b1) (e.v n1) with ⟨b', o, c, z, hx⟩ | ⟨z, hx⟩ <;> rw [hx] <;> simp [Mx.vbeq]
  · simp [Mx.vbeq, AVs.vbeq hv h.1.2, AVs.vbeq hv h.2]
  · simp [Mx.vbeq, AVs.vbeq hv h]
  · simp [Mx.vbeq, AVs.vbeq hv h]
  · simp [Mx.vbeq, AV.vbeq hv h.2]
theorem AVs.vbeq {e : Env} (hv : ∀ n, Mx.vbeq (e.v n) (e.v n) = true) : ∀ {a b : List AV}, AVs.beq a b = true → Mx.vbeqs (AVs.den e a) (AVs.den e a) = true
  | [], [], _ => by simp [AVs.den, vbeqs]
  | a :: r, b :: s, h => by
    simp only [AVs.beq, Bool.and_eq_true] at h
    simp [AVs.den, vbeqs, AV.vbeq hv h.1, AVs.vbeq hv h.2]
  | [], _ :: _, h => by simp [AVs.beq] at h
  | _ :: _, [], h => by simp [AVs.beq] at h
end
structure LdA where
  i : Nat
  o : Op
  bad : List Nat
  v : AV
  w : List (Operand × AV) := []
structure AlA where
  i : Nat
  b : Nat
  t : Nat
  k : Nat := 0
  c : Poly := []
def zeroOf (tb : Nat → Option TI) (t : Nat) : List V := match tb t with
  | some ti => ti.zero
  | none => []
def WOk (tb : Nat → Option TI) (e : Env) (x : LdA) : Prop := x.w = [] ∨ (Mx.vbeq (x.v.den e) (x.v.den e) = true ∧ ∀ ev : Operand → Option V, (∀ p ∈ x.w, ev p.1 = some (p.2.den e)) → pureA tb ev x.o = some (x.v.den e))
def LdsR (tb : Nat → Option TI) (n : Nat) (e : Env) (la : List LdA) (lc : List Ld) : Prop := ∀ e', Agr n e e' → lc = (la.map fun x => ⟨x.i, x.o, x.bad, x.v.den e'⟩) ∧ ∀ x ∈ la, WOk tb e' x
def opsOf : Op → List Operand
  | .slice _ x lo hi mx => x :: (lo.toList ++ (hi.toList ++ mx.toList))
  | _ => []
def wOf (ev : Operand → Option AV) (op : Op) (v : AV) : List (Operand × AV) := match op with
  | .slice _ x _ _ _ => (match ev x with
    | some (.sl ..) => bif AV.beq v v && (opsOf op).all (fun o => (ev o).isSome) then (opsOf op).map (fun o => (o, (ev o).getD (.k .jk))) else []
    | _ => [])
  | _ => []
def wSame (ev : Operand → Option AV) : List (Operand × AV) → Bool
  | [] => false
  | w => w.all fun p => match ev p.1 with
    | some a => AV.beq a p.2
    | none => false
theorem exOp_ok2 {C : Cfg} (hC : CfgOk C) {h0 : H0} {ccall : Caller} {call : ACall} (hcall : ACallOk h0 ccall call) {A : AS} {fr : List (Nat × V)} {h : Hp} {e : Env} (S : Sat h0 A ⟨fr, [], h⟩ e) {ev : Operand → Option AV} {cev : Operand → Option V} (E : EvOk A.n e ev cev) {o : Op} {K : Ks} {q q' : HS} (hk : exOp C call ev o A K q = some q') :
    ∃ v h', StepR C.tb ccall cev o h v h' ∧ (∀ t x lo hi mx, o = .slice t x lo hi mx → pureA C.tb cev o = some v) ∧ Out h0 A e K fr v h' := by
  cases o
  case slice t x lo hi mx =>
    unfold exOp at hk
    simp only at hk
    split at hk <;> first | (cases hk; done) | skip
    rename_i a l hhh m ha hl hh hm
    have ee : ∀ {x a}, ev x = some a → cev x = some (a.den e) := fun hx => E e (Agr.refl _ _) _ _ hx
    have es : ∀ {x a}, ev x = some a → ∀ e', Agr A.n e e' → a.den e' = a.den e := fun hx e' ha => by
      have := E e' ha _ _ hx; rw [ee hx] at this; exact (Option.some.inj this).symm
    have st : ∀ {o : Option Operand} {p : Option Poly}, bndK ev o = some p → ∀ e', Agr A.n e e' → p.map (fun p => p.den e'.i) = p.map (fun p => p.den e.i) := fun hb e' ha => by
      have := bndK_ok E hb e' ha; rw [bndK_ok E hb e (Agr.refl _ _)] at this; exact (Option.some.inj this).symm
    obtain ⟨v, h1, h2⟩ := slice_ok hC S (es ha) (st hl) (st hh) (st hm) hk
    have hp : pureA C.tb cev (.slice t x lo hi mx) = some v := by
      simp only [pureA, ee ha, bndK_ok E hl e (Agr.refl _ _), bndK_ok E hh e (Agr.refl _ _), bndK_ok E hm e (Agr.refl _ _)]; exact h1
    exact ⟨v, h, .pure hp, fun _ _ _ _ _ _ => hp, h2⟩
  all_goals
    obtain ⟨v, h', R, o⟩ := exOp_ok hC hcall S E hk
    exact ⟨v, h', R, fun _ _ _ _ _ h1 => by (cases h1), o⟩
theorem wOf_ok {C : Cfg} {n : Nat} {e e' : Env} {ev : Operand → Option AV} {cev : Operand → Option V} (E : EvOk n e ev cev) (ha : Agr n e e') {op : Op} {v : V} (hr : ∀ t x lo hi mx, op = .slice t x lo hi mx → pureA C.tb cev op = some v) {a : AV} (hv : AV.beq a a = true → Mx.vbeq v v = true) (hd : a.den e' = v) {i : Nat} {bad : List Nat} : WOk C.tb e' ⟨i, op, bad, a, wOf ev op a⟩ := by
  unfold WOk wOf
  split
  · rename_i t x lo hi mx
    split
    · rename_i c b o l k z hx
      cases hb : (AV.beq a a && (opsOf (.slice t x lo hi mx)).all fun o => (ev o).isSome) <;> simp only [cond_true, cond_false]
      · exact .inl trivial
      simp only [Bool.and_eq_true] at hb
      refine .inr ⟨by rw [hd]; exact hv hb.1, fun ev' hw => ?_⟩
      rw [hd]
      have same : ∀ o ∈ opsOf (.slice t x lo hi mx), ev' o = cev o := fun o ho => by
        have h1 := List.all_eq_true.1 hb.2 o ho
        obtain ⟨w, hw'⟩ := Option.isSome_iff_exists.1 h1
        have h2 := hw (o, (ev o).getD (.k .jk)) (List.mem_map.2 ⟨o, ho, rfl⟩)
        simp only [hw', Option.getD_some] at h2
        rw [h2, E e' ha _ _ hw']
      have hbnd : ∀ u : Option Operand, (∀ o ∈ u.toList, o ∈ opsOf (.slice t x lo hi mx)) → bnd ev' u = bnd cev u := fun u hu => by
        cases u with
        | none => rfl
        | some o => simp only [bnd, same o (hu o (by simp))]
      have hpe : pureA C.tb ev' (.slice t x lo hi mx) = pureA C.tb cev (.slice t x lo hi mx) := by
        simp only [pureA, same x (by simp [opsOf]), hbnd lo (fun o ho => by simp only [opsOf, List.mem_cons, List.mem_append]; exact .inr (.inl ho)), hbnd hi (fun o ho => by simp only [opsOf, List.mem_cons, List.mem_append]; exact .inr (.inr (.inl ho))), hbnd mx (fun o ho => by simp only [opsOf, List.mem_cons, List.mem_append]; exact .inr (.inr (.inr ho)))]
      rw [hpe]
      exact hr t x lo hi mx rfl
    · exact .inl rfl
  · exact .inl rfl
def zeroL (tb : Nat → Option TI) (e : Env) (x : AlA) : List V := match x.k with
  | 0 => zeroOf tb x.t
  | _ => rep (x.c.den e.i).toNat (zeroOf tb x.t)
def AlsR (tb : Nat → Option TI) (n : Nat) (e : Env) (h : Hp) (la : List AlA) (lc : List Al) : Prop := ∀ e', Agr n e e' → lc = (la.map fun x => ⟨x.i, e'.b x.b, x.t, zeroL tb e' x⟩) ∧
  ∀ x ∈ la, x.k = 1 → e'.b x.b < h.n ∧ vbeqs (zeroOf tb x.t) (zeroOf tb x.t) = true ∧ h.get (e'.b x.b) = some (.blk (2 * x.t) (zeroL tb e' x) true)
theorem vbeqs_app : ∀ {a b : List V}, vbeqs a a = true → vbeqs b b = true → vbeqs (a ++ b) (a ++ b) = true
  | [], b, _, h => h
  | x :: a, b, h1, h2 => by
    simp only [vbeqs, Bool.and_eq_true, List.cons_append] at h1 ⊢
    exact ⟨h1.1, vbeqs_app h1.2 h2⟩
theorem vbeqs_rep {z : List V} (h : vbeqs z z = true) : ∀ n : Nat, vbeqs (rep n z) (rep n z) = true
  | 0 => rfl
  | n + 1 => vbeqs_app h (vbeqs_rep h n)
theorem LdsR.mono {tb : Nat → Option TI} {n m : Nat} {e e1 : Env} {la : List LdA} {lc : List Ld} (H : LdsR tb n e la lc) (hl : Agr n e e1) (hn : n ≤ m) : LdsR tb m e1 la lc := fun e' ha => H e' (hl.trans ha hn)
theorem AlsR.mono {tb : Nat → Option TI} {n m : Nat} {e e1 : Env} {h : Hp} {la : List AlA} {lc : List Al} (H : AlsR tb n e h la lc) (hl : Agr n e e1) (hn : n ≤ m) : AlsR tb m e1 h la lc := fun e' ha => H e' (hl.trans ha hn)
theorem AlsR.push {tb : Nat → Option TI} {n : Nat} {e : Env} {h : Hp} {la : List AlA} {lc : List Al} (H : AlsR tb n e h la lc) (ob : Ob) : AlsR tb n e (h.push ob) la lc := fun e' ha => ⟨(H e' ha).1, fun x hx hk => by
  obtain ⟨h1, h2, h3⟩ := (H e' ha).2 x hx hk
  exact ⟨by simp; omega, h2, by rw [Hp.get_push_ne _ _ (by omega)]; exact h3⟩⟩
def isAsg : Op → Bool
  | .assign _ => true
  | _ => false
def alsN (asg : Bool) (la : List AlA) : List AlA := match asg with
  | true => la
  | false => la.map fun x => match x.k with
    | 1 => { x with k := 2 }
    | _ => x
theorem AlsR.next {tb : Nat → Option TI} {n : Nat} {e : Env} {h h' : Hp} {la : List AlA} {lc : List Al} (H : AlsR tb n e h la lc) {asg : Bool} (hh : asg = true → h' = h) : AlsR tb n e h' (alsN asg la) lc := by
  cases asg with
  | true => rw [hh rfl]; exact H
  | false =>
    intro e' ha
    obtain ⟨h1, _⟩ := H e' ha
    refine ⟨?_, fun x hx hk => ?_⟩
    · rw [h1]
      simp only [alsN, List.map_map]
      refine List.map_congr_left fun x _ => ?_
      obtain ⟨i, b, t, k, c⟩ := x
      simp only [Function.comp]
      rcases k with _ | _ | k <;> rfl
    · simp only [alsN, List.mem_map] at hx
      obtain ⟨y, _, hy⟩ := hx
      obtain ⟨i, b, t, k, c⟩ := y
      subst hy
      rcases k with _ | _ | k <;> simp at hk
def reLds (C : Cfg) (call : ACall) (fr : List (Nat × AV)) (b : Nat) : List LdA → AS → Kq → HS → Option HS
  | [], A, K, hs => K A hs
  | x :: r, A, K, hs => bif Nat.testBit b x.i then reLds C call fr b r A K hs else bif wSame (evB fr x.bad) x.w then reLds C call fr b r A K hs else bif Nat.blt (clsA x.o) 2 then exOp C call (evB fr x.bad) x.o A (fun A v hs => bif AV.beq v x.v then reLds C call fr b r A K hs else none) hs else none
def FrAll (fr : List (Nat × AV)) (sfr : List (Nat × V)) (n : Nat) (e : Env) : Prop := ∀ e', Agr n e e' → FrOk fr sfr e'
theorem evB_of {fr : List (Nat × AV)} {sfr : List (Nat × V)} {n : Nat} {e : Env} (F : FrAll fr sfr n e) (one : ∀ e', Agr n e e' → e'.i 0 = 1) (bad : List Nat) : EvOk n e (evB fr bad) (evR sfr bad) := by
  intro e' ha x a hx
  cases x with
  | tmp t =>
    simp only [evB] at hx; simp only [evR]
    split at hx
    · cases hx
    · rename_i hb; rw [if_neg hb]; exact F e' ha t a hx
  | const v =>
    simp only [evB, evA, Option.map_eq_some_iff] at hx
    obtain ⟨w, hw, rfl⟩ := hx
    simp only [evR, evF, hw, ofV_den (one e' ha)]
  | func f => simp only [evB, evA, Option.some.injEq] at hx; subst hx; simp [evR, evF, AV.den, AVs.den]
  | global g => simp [evB, evA] at hx
theorem reLds_ok {C : Cfg} (hC : CfgOk C) {h0 : H0} {ccall : Caller} {call : ACall} (hcall : ACallOk h0 ccall call) {fra : List (Nat × AV)} {sfr : List (Nat × V)} {b : Nat} : ∀ {la : List LdA} {A : AS} {fr : List (Nat × V)} {h : Hp} {e : Env} {lc : List Ld} {K : Kq} {q q' : HS}, Sat h0 A ⟨fr, [], h⟩ e → FrAll fra sfr A.n e → LdsR C.tb A.n e la lc → reLds C call fra b la A K q = some q' →
    ldsOk C.tb sfr h b lc = true ∧ Rc h0 A e K ⟨fr, [], h⟩ := by
  intro la
  induction la with
  | nil =>
    intro A fr h e lc K q q' S F L hk
    have := (L e (Agr.refl _ _)).1; subst this
    exact ⟨rfl, A, e, q, q', hk, Le.refl _ _, Nat.le_refl _, S⟩
  | cons x r ih =>
    intro A fr h e lc K q q' S F L hk
    have hlc := (L e (Agr.refl _ _)).1; subst hlc
    have Lr : LdsR C.tb A.n e r (r.map fun x => ⟨x.i, x.o, x.bad, x.v.den e⟩) := fun e' ha => by
      have := (L e' ha).1; simp only [List.map_cons, List.cons.injEq] at this; exact ⟨this.2, fun y hy => (L e' ha).2 y (List.mem_cons_of_mem _ hy)⟩
    have Lx : ∀ e', Agr A.n e e' → x.v.den e' = x.v.den e := fun e' ha => by
      have := (L e' ha).1; simp only [List.map_cons, List.cons.injEq, Ld.mk.injEq, true_and] at this; exact this.1.symm
    unfold reLds at hk
    cases hb : Nat.testBit b x.i <;> rw [hb] at hk <;> simp only [cond_true, cond_false] at hk
    · cases hws : wSame (evB fra x.bad) x.w <;> rw [hws] at hk <;> simp only [cond_true, cond_false] at hk
      rotate_left
      · obtain ⟨o1, o2⟩ := ih S F Lr hk
        refine ⟨?_, o2⟩
        rw [List.map_cons]
        have hW := (L e (Agr.refl _ _)).2 x (by simp)
        have hne : x.w ≠ [] := fun h1 => by rw [h1] at hws; cases hws
        have hall : ∀ p ∈ x.w, ∃ a, evB fra x.bad p.1 = some a ∧ AV.beq a p.2 = true := fun p hp => by
          unfold wSame at hws
          split at hws
          · cases hws
          · have h1 := List.all_eq_true.1 hws p hp
            split at h1 <;> first | (cases h1; done) | skip
            rename_i a ha
            exact ⟨a, ha, h1⟩
        rcases hW with hW | ⟨hW1, hW2⟩
        · exact absurd hW hne
        · refine ldsOk_cons ?_ hW1 o1
          have := hW2 (evR sfr x.bad) fun p hp => by
            obtain ⟨a, h1, h2⟩ := hall p hp
            rw [← AV.beq_eq h2]
            exact evB_of F (fun e' ha => (S.nums ha).1) x.bad e (Agr.refl _ _) _ _ h1
          simp only [readA, this]
      cases hc : Nat.blt (clsA x.o) 2 <;> rw [hc] at hk <;> simp only [cond_true, cond_false] at hk
      · cases hk
      · have hc : clsA x.o < 2 := Nat.le_of_ble_eq_true hc
        obtain ⟨v, h', R, a, A1, e1, q1, q2, k1, l1, n1, S1, d1⟩ := exOp_ok hC hcall S (evB_of F (fun e' ha => (S.nums ha).1) x.bad) hk
        obtain ⟨r1, rfl⟩ := R.readA hc
        simp only at k1
        cases hq : AV.beq a x.v <;> rw [hq] at k1 <;> simp only [cond_true, cond_false] at k1
        · cases k1
        · have hav := AV.beq_eq hq
          have hvv : v = x.v.den e := by rw [← d1 e1 (Agr.refl _ _), hav]; exact Lx e1 l1.agr
          have hself : vbeq v v = true := by rw [← d1 e1 (Agr.refl _ _)]; exact AV.vbeq S1.vb hq
          obtain ⟨o1, o2⟩ := ih S1 (fun e' ha => F e' (l1.agr.trans ha n1)) (Lr.mono l1.agr n1) k1
          refine ⟨?_, Rc.step l1 n1 o2⟩
          rw [List.map_cons]
          refine ldsOk_cons ?_ (by rw [← hvv]; exact hself) o1
          rw [r1, hvv]
    · obtain ⟨o1, o2⟩ := ih S F Lr hk
      refine ⟨?_, o2⟩
      rw [List.map_cons]
      exact ldsOk_skip hb o1
def alsK (tb : Nat → Option TI) (A : AS) (b : Nat) (asg : Bool) : List AlA → Bool
  | [] => true
  | x :: r => (Nat.testBit b x.i || (match x.k with
    | 0 => (match look A.H x.b with
      | some (.exact false ty cells) => Nat.beq ty (2 * x.t) && AVs.beq cells (ofVs (zeroOf tb x.t))
      | _ => false)
    | 1 => asg
    | _ => false)) && alsK tb A b asg r
theorem alsK_ok {tb : Nat → Option TI} {h0 : H0} {A : AS} {s : St} {e : Env} (S : Sat h0 A s e) {b : Nat} {h1 : Hp} {asg : Bool} (hh : asg = true → s.h = h1) : ∀ {la : List AlA} {lc : List Al}, AlsR tb A.n e h1 la lc → alsK tb A b asg la = true → alsOk s.h b lc = true := by
  intro la
  induction la with
  | nil => intro lc L _; have := (L e (Agr.refl _ _)).1; subst this; rfl
  | cons x r ih =>
    intro lc L h
    have hlc := (L e (Agr.refl _ _)).1; subst hlc
    have Lr : AlsR tb A.n e h1 r (r.map fun x => ⟨x.i, e.b x.b, x.t, zeroL tb e x⟩) := fun e' ha => by
      have := (L e' ha).1; simp only [List.map_cons, List.cons.injEq] at this; exact ⟨this.2, fun y hy => (L e' ha).2 y (List.mem_cons_of_mem _ hy)⟩
    simp only [alsK, Bool.and_eq_true, Bool.or_eq_true] at h
    obtain ⟨h1', h2⟩ := h
    have o1 := ih Lr h2
    rw [List.map_cons]
    rcases h1' with h1' | h1'
    · exact alsOk_skip h1' o1
    · split at h1' <;> first | (cases h1'; done) | skip
      · rename_i hk0
        split at h1' <;> first | (cases h1'; done) | skip
        rename_i ty cells hlk
        simp only [Bool.and_eq_true] at h1'
        have S0 := S.here.1
        obtain ⟨p1, p2, rw', p3, p4, p5⟩ := S0.ent _ (look_in hlk)
        obtain ⟨p5, _⟩ := p5 rfl
        subst p5
        simp only at p3
        have hc := AVs.beq_eq h1'.2
        have hty := Nat.eq_of_beq_eq_true h1'.1
        subst hty
        have hz : AVs.den e cells = zeroOf tb x.t := by rw [hc]; exact ofVs_den S0.one _
        have hzL : zeroL tb e x = zeroOf tb x.t := by simp only [zeroL, hk0]
        rw [hz] at p3
        rw [hzL]
        refine alsOk_cons p3 ?_ o1
        have := AVs.vbeq S.vb h1'.2
        rw [hz] at this; exact this
      · rename_i hk1
        obtain ⟨g1, g2, g3⟩ := (L e (Agr.refl _ _)).2 x (by simp) hk1
        rw [hh h1']
        refine alsOk_cons g3 ?_ (by rw [hh h1'] at o1; exact o1)
        unfold zeroL; rw [hk1]
        exact vbeqs_rep g2 _
def exPlan (C : Cfg) (call : ACall) (sz : Nat) (ops : List Oper) : List PS → List LdA → List AlA → AS → Kq → HS → Option HS
  | [], _, _, A, K, hs => K A hs
  | .p i bad g :: r, lds, als, A, K, hs => (match ops[i]? with
    | none => none
    | some o =>
      let go : Kq := fun A hs => match o.op with
        | .alloc t => allocK C t A (fun A' v hs => match v with
          | .p β _ => reLds C call A.fr 0 lds A' (fun A' hs => match putA sz A' o.dst v with
            | some A' => exPlan C call sz ops r lds (⟨i, β, t, 0, []⟩ :: als) A' K hs
            | none => none) hs
          | _ => none) hs
        | .makeSlice t n c => (match evB A.fr bad n, evB A.fr bad c, C.tb t with
          | some a, some (.i k p), some ti => (match ti.d with
            | .slice e => bif vbeqs (zeroOf C.tb e) (zeroOf C.tb e) then makeSliceK C t a (.i k p) A (fun A' v hs => match v with
                | .sl _ β _ _ _ _ => reLds C call A.fr 0 lds A' (fun A' hs => match putA sz A' o.dst v with
                  | some A' => exPlan C call sz ops r lds (⟨i, β, e, 1, p⟩ :: als) A' K hs
                  | none => none) hs
                | _ => none) hs else none
            | _ => none)
          | _, _, _ => none)
        | op => bif Nat.blt (clsA op) 2 then exOp C call (evB A.fr bad) op A (fun A1 v hs => match putA sz A1 o.dst v with
            | some A2 => exPlan C call sz ops r (bif Nat.beq (clsA op) 1 then ⟨i, op, bad, v, wOf (evB A.fr bad) op v⟩ :: lds else lds) als A2 K hs
            | none => none) hs else none
      let no : Kq := fun A hs => match putA sz A o.dst (.tup []) with
        | some A => exPlan C call sz ops r lds als A K hs
        | none => none
      match g with
      | none => go A hs
      | some (d, want) => guardK C (evB A.fr bad (.tmp d)) want (fun t A hs => match t with | true => go A hs | false => no A hs) A hs)
  | .e i bad g b :: r, lds, als, A, K, hs => (match ops[i]? with
    | none => none
    | some o =>
      let go : Kq := fun A hs => exOp C call (evB A.fr bad) o.op A (fun A' v hs => reLds C call A.fr b lds A' (fun A' hs => bif alsK C.tb A' b (isAsg o.op) als then (match putA sz A' o.dst v with
            | some A' => exPlan C call sz ops r lds (alsN (isAsg o.op) als) A' K hs
            | none => none) else none) hs) hs
      let no : Kq := fun A hs => match putA sz A o.dst (.tup []) with
        | some A => exPlan C call sz ops r lds als A K hs
        | none => none
      match g with
      | none => go A hs
      | some (d, want) => guardK C (evB A.fr bad (.tmp d)) want (fun t A hs => match t with | true => go A hs | false => no A hs) A hs)
end Go.Mx.Az

namespace Go.Mx.Az
theorem Sat.frAll {h0 : H0} {A : AS} {s : St} {e : Env} (S : Sat h0 A s e) : FrAll A.fr s.fr A.n e := fun e' ha => S.fr e' ha
theorem FrAll.mono {fra : List (Nat × AV)} {sfr : List (Nat × V)} {n m : Nat} {e e1 : Env} (F : FrAll fra sfr n e) (hl : Agr n e e1) (hn : n ≤ m) : FrAll fra sfr m e1 := fun e' ha => F e' (hl.trans ha hn)
theorem guardK_ok {C : Cfg} (hC : CfgOk C) {h0 : H0} {A : AS} {fr : List (Nat × V)} {h : Hp} {e : Env} (S : Sat h0 A ⟨fr, [], h⟩ e) {bad : List Nat} {d : Nat} {want : Bool} {K : Bool → Kq} {q q' : HS} (hk : guardK C (evB A.fr bad (.tmp d)) want K A q = some q') :
    ∃ t A1 q1 q2, wantedP (evR fr bad) (some (d, want)) = some t ∧ K t A1 q1 = some q2 ∧ Sat h0 A1 ⟨fr, [], h⟩ e ∧ More A A1 := by
  have E := evB_ok S bad
  unfold guardK at hk
  split at hk <;> first | (cases hk; done) | skip
  · rename_i c hc
    have hce := E e (Agr.refl _ _) _ _ hc
    obtain ⟨A1, q1, q2, k1, S1, M1⟩ := branchC_ok hC S (t := c.den e.i) (fun e' ha _ _ => by
      have h1 := E e' ha _ _ hc; rw [hce] at h1; simpa [AV.den] using h1.symm) hk
    refine ⟨c.den e.i == want, A1, q1, q2, ?_, k1, S1, M1⟩
    simp only [wantedP, hce, AV.den]
  · rename_i l hc
    have hce := E e (Agr.refl _ _) _ _ hc
    exact ⟨false, A, q, q', by simp only [wantedP, hce, AV.den], hk, S, More.refl A⟩
theorem exPlan_ok {C : Cfg} (hC : CfgOk C) {h0 : H0} {ccall : Caller} {call : ACall} (hcall : ACallOk h0 ccall call) {sz : Nat} {ops : List Oper} {dsts : List Nat} : ∀ {pl : List PS} {la : List LdA} {aa : List AlA} {A : AS} {fr : List (Nat × V)} {h : Hp} {e : Env} {lc : List Ld} {ac : List Al} {K : Kq} {q q' : HS}, Sat h0 A ⟨fr, [], h⟩ e → LdsR C.tb A.n e la lc → AlsR C.tb A.n e h aa ac → exPlan C call sz ops pl la aa A K q = some q' →
    ∃ s', runPlan C.tb ccall none sz ops dsts pl lc ac ⟨fr, [], h⟩ = some (.normal, s') ∧ Rc h0 A e K s' := by
  intro pl
  induction pl with
  | nil => intro la aa A fr h e lc ac K q q' S _ _ hk; exact ⟨_, rfl, A, e, q, q', hk, Le.refl _ _, Nat.le_refl _, S⟩
  | cons p r ih =>
    intro la aa A fr h e lc ac K q q' S L AL hk
    have no : ∀ {o : Oper} {A : AS} {q q' : HS} {e : Env}, Sat h0 A ⟨fr, [], h⟩ e → LdsR C.tb A.n e la lc → AlsR C.tb A.n e h aa ac → (match putA sz A o.dst (.tup []) with
        | some A => exPlan C call sz ops r la aa A K q
        | none => none) = some q' → ∃ fr' s', putF sz fr o.dst (.tup []) = some fr' ∧ runPlan C.tb ccall none sz ops dsts r lc ac ⟨fr', [], h⟩ = some (.normal, s') ∧ Rc h0 A e K s' := by
      intro o A q q' e S L AL hk
      split at hk <;> first | (cases hk; done) | skip
      rename_i A2 hp
      obtain ⟨fr', p1, S2, n2⟩ := put_ok S (v := .tup []) (fun e' _ => by simp [AV.den, AVs.den]) hp
      obtain ⟨s', r1, r2⟩ := ih S2 (by rw [n2]; exact L) (by rw [n2]; exact AL) hk
      exact ⟨fr', s', p1, r1, Rc.step (A1 := A2) (e1 := e) (Le.refl _ _) (by rw [n2]; exact Nat.le_refl _) r2⟩
    cases p with
    | p i bad g =>
      simp only [exPlan] at hk
      split at hk <;> first | (cases hk; done) | skip
      rename_i o ho
      have go : ∀ {A : AS} {q q' : HS} {e : Env}, Sat h0 A ⟨fr, [], h⟩ e → LdsR C.tb A.n e la lc → AlsR C.tb A.n e h aa ac → (match o.op with
          | .alloc t => allocK C t A (fun A' v hs => match v with
            | .p β _ => reLds C call A.fr 0 la A' (fun A' hs => match putA sz A' o.dst v with
              | some A' => exPlan C call sz ops r la (⟨i, β, t, 0, []⟩ :: aa) A' K hs
              | none => none) hs
            | _ => none) q
          | .makeSlice t n c => (match evB A.fr bad n, evB A.fr bad c, C.tb t with
            | some a, some (.i k p), some ti => (match ti.d with
              | .slice e => bif vbeqs (zeroOf C.tb e) (zeroOf C.tb e) then makeSliceK C t a (.i k p) A (fun A' v hs => match v with
                  | .sl _ β _ _ _ _ => reLds C call A.fr 0 la A' (fun A' hs => match putA sz A' o.dst v with
                    | some A' => exPlan C call sz ops r la (⟨i, β, e, 1, p⟩ :: aa) A' K hs
                    | none => none) hs
                  | _ => none) q else none
              | _ => none)
            | _, _, _ => none)
          | op => bif Nat.blt (clsA op) 2 then exOp C call (evB A.fr bad) op A (fun A1 v hs => match putA sz A1 o.dst v with
              | some A2 => exPlan C call sz ops r (bif Nat.beq (clsA op) 1 then ⟨i, op, bad, v, wOf (evB A.fr bad) op v⟩ :: la else la) aa A2 K hs
              | none => none) q else none) = some q' → ∃ lc' ac' s1 s', pureP C.tb sz o i bad lc ac ⟨fr, [], h⟩ = some (lc', ac', s1) ∧ runPlan C.tb ccall none sz ops dsts r lc' ac' s1 = some (.normal, s') ∧ Rc h0 A e K s' := by
        intro A q q' e S L AL hk
        split at hk
        · rename_i t hop
          obtain ⟨ti, ht, a, A1, e1, q1, q2, k1, l1, n1, S1, d1⟩ := alloc_ok S hk
          simp only at k1
          split at k1 <;> first | (cases k1; done) | skip
          rename_i β qo
          obtain ⟨o1, A2, e2, q3, q4, k2, l2, n2, S2⟩ := reLds_ok hC hcall S1 (S.frAll.mono l1.agr n1) (L.mono l1.agr n1) k1
          simp only at k2
          split at k2 <;> first | (cases k2; done) | skip
          rename_i A3 hp
          have d2 : ∀ e', Agr A2.n e2 e' → (AV.p β qo).den e' = .p h.n 0 := fun e' ha => d1 e' (l2.agr.trans ha n2)
          obtain ⟨fr', p1, S3, n3⟩ := put_ok S2 d2 hp
          have hb : ∀ e', Agr A2.n e2 e' → e'.b β = h.n := fun e' ha => by have := d2 e' ha; simp only [AV.den, V.p.injEq] at this; exact this.1
          obtain ⟨s', r1, r2⟩ := ih S3 (lc := lc) (ac := ⟨i, h.n, t, ti.zero⟩ :: ac) (by rw [n3]; exact L.mono (l1.agr.trans l2.agr n1) (by omega)) (by
            rw [n3]
            intro e' ha
            have AP := (AL.push (.blk (2 * t) ti.zero true)) e' ((l1.agr.trans l2.agr n1).trans ha (by omega))
            refine ⟨?_, fun y hy hk => ?_⟩
            · rw [List.map_cons, ← AP.1, hb e' ha]
              simp only [zeroL, zeroOf, ht]
            · rcases List.mem_cons.1 hy with rfl | hy
              · cases hk
              · exact AP.2 y hy hk) k2
          refine ⟨lc, ⟨i, h.n, t, ti.zero⟩ :: ac, _, s', ?_, r1, Rc.step l1 n1 (Rc.step l2 n2 (Rc.step (A1 := A3) (e1 := e2) (Le.refl _ _) (by rw [n3]; exact Nat.le_refl _) r2))⟩
          simp only [pureP, hop, ht, p1, o1, if_true]
        · rename_i t nO cO hop
          split at hk <;> first | (cases hk; done) | skip
          rename_i a1 kd p ti hn hc ht
          split at hk <;> first | (cases hk; done) | skip
          rename_i et hd
          cases hvz : vbeqs (zeroOf C.tb et) (zeroOf C.tb et) <;> rw [hvz] at hk <;> simp only [cond_true, cond_false] at hk
          · cases hk
          have E := evB_ok S bad
          have ee : ∀ {x a}, evB A.fr bad x = some a → evR fr bad x = some (a.den e) := fun hx => E e (Agr.refl _ _) _ _ hx
          have es : ∀ {x a}, evB A.fr bad x = some a → ∀ e', Agr A.n e e' → a.den e' = a.den e := fun hx e' ha => by
            have := E e' ha _ _ hx; rw [ee hx] at this; exact (Option.some.inj this).symm
          obtain ⟨v, h', hms, a, A1, e1, q1, q2, k1, l1, n1, S1, d1⟩ := makeSlice_ok hC S (es hn) (es hc) hk
          simp only at k1
          split at k1 <;> first | (cases k1; done) | skip
          rename_i c0 β off len κ z
          unfold makeSliceA at hms
          split at hms <;> first | (cases hms; done) | skip
          rename_i ti' n' m' ht' hn' hm'
          rw [ht] at ht'; cases ht'
          simp only [hd] at hms
          split at hms <;> first | (cases hms; done) | skip
          rename_i te hte
          split at hms <;> first | (cases hms; done) | skip
          rename_i hcond
          simp only [Option.some.injEq, Prod.mk.injEq] at hms
          obtain ⟨rfl, rfl⟩ := hms
          have hns : newS C.tb (evR fr bad) t nO cO = some (et, rep m'.toNat te.zero, fun b => .sl b 0 n'.toNat (some m'.toNat) te.size) := by
            simp only [newS, ht, ee hn, ee hc, hn', hm', hd, hte]
            rw [if_pos hcond]
          have hzo : zeroOf C.tb et = te.zero := by simp only [zeroOf, hte]
          obtain ⟨o1, A2, e2, q3, q4, k2, l2, n2, S2⟩ := reLds_ok hC hcall S1 (S.frAll.mono l1.agr n1) (L.mono l1.agr n1) k1
          simp only at k2
          split at k2 <;> first | (cases k2; done) | skip
          rename_i A3 hp
          have d2 : ∀ e', Agr A2.n e2 e' → (AV.sl c0 β off len κ z).den e' = .sl h.n 0 n'.toNat (some m'.toNat) te.size := fun e' ha => d1 e' (l2.agr.trans ha n2)
          obtain ⟨fr', p1, S3, n3⟩ := put_ok S2 d2 hp
          have hb : ∀ e', Agr A2.n e2 e' → e'.b β = h.n := fun e' ha => by
            have := d2 e' ha
            simp only [AV.den] at this
            split at this
            · cases this
            · simp only [V.sl.injEq] at this; exact this.1
          have hpm : ∀ e', Agr A2.n e2 e' → p.den e'.i = m' := fun e' ha => by
            have := es hc e' ((l1.agr.trans l2.agr n1).trans ha (Nat.le_trans n1 n2))
            rw [hm'] at this
            simp only [AV.den, V.i.injEq] at this
            exact this.2
          obtain ⟨s', r1, r2⟩ := ih S3 (lc := lc) (ac := ⟨i, h.n, et, rep m'.toNat te.zero⟩ :: ac) (by rw [n3]; exact L.mono (l1.agr.trans l2.agr n1) (by omega)) (by
            rw [n3]
            intro e' ha
            have AP := (AL.push (.blk (2 * et) (rep m'.toNat te.zero) true)) e' ((l1.agr.trans l2.agr n1).trans ha (by omega))
            have hzL : zeroL C.tb e' ⟨i, β, et, 1, p⟩ = rep m'.toNat te.zero := by simp only [zeroL, hzo, hpm e' ha]
            refine ⟨?_, fun y hy hk => ?_⟩
            · rw [List.map_cons, ← AP.1, hb e' ha, hzL]
            · rcases List.mem_cons.1 hy with rfl | hy
              · rw [hzL]
                simp only
                rw [hb e' ha]
                exact ⟨by simp, hvz, Hp.get_push_self _ _⟩
              · exact AP.2 y hy hk) k2
          refine ⟨lc, ⟨i, h.n, et, rep m'.toNat te.zero⟩ :: ac, _, s', ?_, r1, Rc.step l1 n1 (Rc.step l2 n2 (Rc.step (A1 := A3) (e1 := e2) (Le.refl _ _) (by rw [n3]; exact Nat.le_refl _) r2))⟩
          simp only [pureP, hop, hns, p1, o1, if_true]
        · rename_i op hno hno2
          cases hc : Nat.blt (clsA o.op) 2 <;> rw [hc] at hk <;> simp only [cond_true, cond_false] at hk
          · cases hk
          have hc : clsA o.op < 2 := Nat.le_of_ble_eq_true hc
          obtain ⟨v, h', R, hsl, a, A1, e1, q1, q2, k1, l1, n1, S1, d1⟩ := exOp_ok2 hC hcall S (evB_ok S bad) hk
          obtain ⟨r1, rfl⟩ := R.readA hc
          simp only at k1
          split at k1 <;> first | (cases k1; done) | skip
          rename_i A3 hp
          obtain ⟨fr', p1, S3, n3⟩ := put_ok S1 d1 hp
          have hL : LdsR C.tb A3.n e1 (bif Nat.beq (clsA o.op) 1 then ⟨i, o.op, bad, a, wOf (evB A.fr bad) o.op a⟩ :: la else la) (if clsA o.op = 1 then ⟨i, o.op, bad, v⟩ :: lc else lc) := by
            rw [n3]
            cases hq : Nat.beq (clsA o.op) 1
            · rw [if_neg (fun x => by rw [x] at hq; cases hq)]
              exact L.mono l1.agr n1
            · rw [if_pos (Nat.eq_of_beq_eq_true hq)]
              intro e' ha
              simp only [cond_true, List.map_cons]
              refine ⟨by rw [d1 e' ha, ← (L e' (l1.agr.trans ha n1)).1], fun y hy => ?_⟩
              rcases List.mem_cons.1 hy with rfl | hy
              · exact wOf_ok (evB_ok S bad) (l1.agr.trans ha n1) hsl (fun hq => by rw [← d1 e1 (Agr.refl _ _)]; exact AV.vbeq S1.vb hq) (d1 e' ha)
              · exact (L e' (l1.agr.trans ha n1)).2 y hy
          obtain ⟨s', r2, r3⟩ := ih S3 hL (by rw [n3]; exact AL.mono l1.agr n1) k1
          refine ⟨_, ac, _, s', ?_, r2, Rc.step l1 n1 (Rc.step (A1 := A3) (e1 := e1) (Le.refl _ _) (by rw [n3]; exact Nat.le_refl _) r3)⟩
          rw [pureP_of (by omega)]
          simp only [r1, p1]
      split at hk
      · obtain ⟨lc', ac', s1, s', g1, g2, g3⟩ := go S L AL hk
        exact ⟨s', by simp only [runPlan, ho, wantedP, g1, g2], g3⟩
      · rename_i d want
        obtain ⟨t, A1, q1, q2, w1, k1, S1, M1⟩ := guardK_ok hC S hk
        cases t
        · obtain ⟨fr', s', p1, r1, r2⟩ := no S1 (by rw [M1.n]; exact L) (by rw [M1.n]; exact AL) k1
          exact ⟨s', by simp only [runPlan, ho, w1, p1, r1], Rc.step (by exact Le.refl _ _) (by rw [M1.n]; exact Nat.le_refl _) r2⟩
        · obtain ⟨lc', ac', s1, s', g1, g2, g3⟩ := go S1 (by rw [M1.n]; exact L) (by rw [M1.n]; exact AL) k1
          exact ⟨s', by simp only [runPlan, ho, w1, g1, g2], Rc.step (by exact Le.refl _ _) (by rw [M1.n]; exact Nat.le_refl _) g3⟩
    | e i bad g b =>
      simp only [exPlan] at hk
      split at hk <;> first | (cases hk; done) | skip
      rename_i o ho
      have go : ∀ {A : AS} {q q' : HS} {e : Env}, Sat h0 A ⟨fr, [], h⟩ e → LdsR C.tb A.n e la lc → AlsR C.tb A.n e h aa ac → exOp C call (evB A.fr bad) o.op A (fun A' v hs => reLds C call A.fr b la A' (fun A' hs => bif alsK C.tb A' b (isAsg o.op) aa then (match putA sz A' o.dst v with
            | some A' => exPlan C call sz ops r la (alsN (isAsg o.op) aa) A' K hs
            | none => none) else none) hs) q = some q' → ∃ s1 s', effP C.tb ccall none sz dsts o bad b lc ac ⟨fr, [], h⟩ = some (.normal, s1) ∧ runPlan C.tb ccall none sz ops dsts r lc ac s1 = some (.normal, s') ∧ Rc h0 A e K s' := by
        intro A q q' e S L AL hk
        obtain ⟨v, h', R, a, A1, e1, q1, q2, k1, l1, n1, S1, d1⟩ := exOp_ok hC hcall S (evB_ok S bad) hk
        simp only at k1
        obtain ⟨o1, A2, e2, q3, q4, k2, l2, n2, S2⟩ := reLds_ok hC hcall S1 (S.frAll.mono l1.agr n1) (L.mono l1.agr n1) k1
        simp only at k2
        cases hal : alsK C.tb A2 b (isAsg o.op) aa <;> rw [hal] at k2 <;> simp only [cond_true, cond_false] at k2
        · cases k2
        have hasg : isAsg o.op = true → h' = h := fun h1 => by
          have h2 := R.step
          revert h1 h2
          cases o.op <;> intro h1 h2 <;> first | (cases h1; done) | skip
          rename_i x
          simp only [stepOp, pureA] at h2
          split at h2
          · cases h2; rfl
          · simp only [heapA, objA] at h2
            cases h2
        have o2 := alsK_ok S2 hasg (AL.mono (l1.agr.trans l2.agr n1) (Nat.le_trans n1 n2)) hal
        split at k2 <;> first | (cases k2; done) | skip
        rename_i A3 hp
        obtain ⟨fr', p1, S3, n3⟩ := put_ok S2 (fun e' ha => d1 e' (l2.agr.trans ha n2)) hp
        obtain ⟨s', r1, r2⟩ := ih S3 (by rw [n3]; exact L.mono (l1.agr.trans l2.agr n1) (Nat.le_trans n1 n2)) (by rw [n3]; exact (AL.mono (l1.agr.trans l2.agr n1) (Nat.le_trans n1 n2)).next hasg) k2
        refine ⟨_, s', ?_, r1, Rc.step l1 n1 (Rc.step l2 n2 (Rc.step (A1 := A3) (e1 := e2) (Le.refl _ _) (by rw [n3]; exact Nat.le_refl _) r2))⟩
        simp only [effP, R.step, p1]
        rw [if_pos (by rw [Bool.and_eq_true]; exact ⟨o1, o2⟩)]
      split at hk
      · obtain ⟨s1, s', g1, g2, g3⟩ := go S L AL hk
        exact ⟨s', by simp only [runPlan, ho, wantedP, g1, g2], g3⟩
      · rename_i d want
        obtain ⟨t, A1, q1, q2, w1, k1, S1, M1⟩ := guardK_ok hC S hk
        cases t
        · obtain ⟨fr', s', p1, r1, r2⟩ := no S1 (by rw [M1.n]; exact L) (by rw [M1.n]; exact AL) k1
          exact ⟨s', by simp only [runPlan, ho, w1, p1, r1], Rc.step (by exact Le.refl _ _) (by rw [M1.n]; exact Nat.le_refl _) r2⟩
        · obtain ⟨s1, s', g1, g2, g3⟩ := go S1 (by rw [M1.n]; exact L) (by rw [M1.n]; exact AL) k1
          exact ⟨s', by simp only [runPlan, ho, w1, g1, g2], Rc.step (by exact Le.refl _ _) (by rw [M1.n]; exact Nat.le_refl _) g3⟩
end Go.Mx.Az
