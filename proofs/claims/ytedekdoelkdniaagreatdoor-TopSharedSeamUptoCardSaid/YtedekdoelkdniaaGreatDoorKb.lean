/- The abstract machine: fields, indices, slices; loads and stores. -/
import Derived.Test.YtedekdoelkdniaaGreatDoorKa
set_option linter.all false
namespace Go.Mx
def evs (ev : Operand → Option V) : List Operand → Option (List V)
  | [] => some []
  | x :: r => match ev x, evs ev r with
    | some v, some vs => some (v :: vs)
    | _, _ => none
theorem evs_rel {M : Mod} {ev : Operand → Option V} {evr : Operand → Value} (h : ∀ x v, ev x = some v → VRel M v (evr x)) : ∀ {xs : List Operand} {vs : List V}, evs ev xs = some vs → VRels M vs (xs.map evr)
  | [], vs, he => by simp [evs] at he; subst he; simp [VRels]
  | x :: r, vs, he => by
    simp only [evs] at he
    split at he
    · rename_i v vs' h1 h2
      cases he
      simp only [List.map_cons, VRels]
      exact ⟨h x v h1, evs_rel h h2⟩
    · cases he
theorem addr_add (b o n : Nat) : (⟨b, o, none⟩ : Addr).add n = ⟨b, o + n, none⟩ := by
  unfold Addr.add; split <;> simp_all
def fieldAddrA (tb : Nat → Option TI) (s : Nat) (x : V) (f : Nat) : Option V :=
  match tb s, x with
  | some si, .p b o => match si.d with
    | .struct fs => match fs[f]? with
      | some fld => match tb fld.type with
        | some ti => if ti.size = 0 then none else some (.p b (o + fld.offset))
        | none => none
      | none => none
    | _ => none
  | _, _ => none
theorem run_fieldAddrA {P : Program} {tb : Nat → Option TI} (hT : TbOk P tb) {M : Mod} {s f : Nat} {x v : V} {X : Value} (h : fieldAddrA tb s x f = some v) (hx : VRel M x X) (w : World) :
    ∃ z, (Instr.fieldAt s X f).run P w = .ok z w ∧ VRel M v z := by
  unfold fieldAddrA at h
  split at h <;> first | (cases h; done) | skip
  rename_i si b o hs
  have us := (hT.is hs).runUnd w
  split at h <;> first | (cases h; done) | skip
  rename_i fs hd
  rw [hd] at us
  split at h <;> first | (cases h; done) | skip
  rename_i fld hf
  split at h <;> first | (cases h; done) | skip
  rename_i ti ht
  split at h <;> first | (cases h; done) | skip
  rename_i hz
  cases h
  simp only [VRel] at hx
  obtain ⟨hb, rfl⟩ := hx
  refine ⟨.pointer (some ⟨M.blk b, M.bas b + (o + fld.offset), none⟩), ?_, by simp only [VRel]; exact ⟨hb, trivial⟩⟩
  simp [Instr.fieldAt, us, hf, Instr.sureAddr, fieldPlace, (hT.is ht).size, hz, addr_add, Nat.add_assoc]
def fieldA (tb : Nat → Option TI) (s : Nat) (x : V) (f : Nat) : Option V :=
  match tb s, x with
  | some si, .agg cs => match si.d with
    | .struct fs => match fs[f]? with
      | some fld => match tb fld.type with
        | some ti => partV ti cs fld.offset
        | none => none
      | none => none
    | _ => none
  | _, _ => none
theorem run_fieldA {P : Program} {tb : Nat → Option TI} (hT : TbOk P tb) {M : Mod} {s f : Nat} {x v : V} {X : Value} (h : fieldA tb s x f = some v) (hx : VRel M x X) (w : World) :
    ∃ z, (Instr.field s X f).run P w = .ok z w ∧ VRel M v z := by
  unfold fieldA at h
  split at h <;> first | (cases h; done) | skip
  rename_i si cs hs
  have us := (hT.is hs).runUnd w
  split at h <;> first | (cases h; done) | skip
  rename_i fs hd
  rw [hd] at us
  split at h <;> first | (cases h; done) | skip
  rename_i fld hf
  split at h <;> first | (cases h; done) | skip
  rename_i ti ht
  simp only [VRel] at hx
  obtain ⟨CS, rfl, hx⟩ := hx
  obtain ⟨y, hy, hv⟩ := run_part (hT.is ht) hx h w
  exact ⟨y, by simp [Instr.field, us, hf, asAgg, hy], hv⟩
def indexA (tb : Nat → Option TI) (t : Nat) (x i : V) : Option V :=
  match tb t, i with
  | some ti, .i _ n => match ti.d, x with
    | .array len e, .agg cs => match tb e with
      | some te => if 0 ≤ n ∧ n < len then partV te cs (n.toNat * te.size) else none
      | none => none
    | .string, .s l => if 0 ≤ n then (match l[n.toNat]? with
      | some c => some (.i .u8 c.toNat)
      | none => none) else none
    | _, _ => none
  | _, _ => none
theorem run_indexA {P : Program} {tb : Nat → Option TI} (hT : TbOk P tb) {M : Mod} {t : Nat} {x i v : V} {X I : Value} (h : indexA tb t x i = some v) (hx : VRel M x X) (hi : VRel M i I) (w : World) :
    ∃ z, (Instr.index t X I).run P w = .ok z w ∧ VRel M v z := by
  unfold indexA at h
  split at h <;> first | (cases h; done) | skip
  rename_i ti k n ht
  have us := (hT.is ht).runUnd w
  simp only [VRel] at hi; subst hi
  split at h <;> first | (cases h; done) | skip
  · rename_i len e cs hd
    rw [hd] at us
    split at h <;> first | (cases h; done) | skip
    rename_i te he
    split at h <;> first | (cases h; done) | skip
    rename_i hn
    simp only [VRel] at hx
    obtain ⟨CS, rfl, hx⟩ := hx
    obtain ⟨y, hy, hv⟩ := run_part (hT.is he) hx h w
    exact ⟨y, by simp [Instr.index, asIntOf, us, hn, (hT.is he).size, hy], hv⟩
  · rename_i l hd
    rw [hd] at us
    split at h <;> first | (cases h; done) | skip
    rename_i hn
    split at h <;> first | (cases h; done) | skip
    rename_i c hc
    simp only [VRel] at hx; subst hx; cases h
    have hlt : n.toNat < l.length := by
      rcases Nat.lt_or_ge n.toNat l.length with h | h
      · exact h
      · simp [List.getElem?_eq_none h] at hc
    have : (ByteArray.mk l.toArray)[n.toNat]? = some c := by
      have hl : n.toNat < (ByteArray.mk l.toArray).size := by simpa [ByteArray.size] using hlt
      rw [getElem?_pos (ByteArray.mk l.toArray) n.toNat hl]
      have := (List.getElem?_eq_some_iff.1 hc).2
      rw [← this]; rfl
    exact ⟨.int .u8 c.toNat, by simp [Instr.index, asIntOf, us, hn, this], by simp [VRel]⟩
def indexAddrA (tb : Nat → Option TI) (t : Nat) (x i : V) : Option V :=
  match tb t, i with
  | some ti, .i _ n => match ti.d, x with
    | .slice e, .sl b o len _ z => match tb e with
      | some te => if te.size = z ∧ 0 ≤ n ∧ n < len then some (.p b (o + n.toNat * z)) else none
      | none => none
    | .array len e, .p b o => match tb e with
      | some te => if 0 ≤ n ∧ n < len then some (.p b (o + n.toNat * te.size)) else none
      | none => none
    | _, _ => none
  | _, _ => none
theorem run_indexAddrA {P : Program} {tb : Nat → Option TI} (hT : TbOk P tb) {M : Mod} {t : Nat} {x i v : V} {X I : Value} (h : indexAddrA tb t x i = some v) (hx : VRel M x X) (hi : VRel M i I) (w : World) :
    ∃ z, (Instr.indexAt t X I).run P w = .ok z w ∧ VRel M v z := by
  unfold indexAddrA at h
  split at h <;> first | (cases h; done) | skip
  rename_i ti k n ht
  have us := (hT.is ht).runUnd w
  simp only [VRel] at hi; subst hi
  split at h <;> first | (cases h; done) | skip
  · rename_i e b o len cap z hd
    rw [hd] at us
    split at h <;> first | (cases h; done) | skip
    rename_i te he
    split at h <;> first | (cases h; done) | skip
    rename_i hn
    obtain ⟨rfl, h0, h1⟩ := hn
    cases h
    simp only [VRel] at hx
    obtain ⟨hb, c, rfl, _⟩ := hx
    refine ⟨.pointer (some ⟨M.blk b, M.bas b + (o + n.toNat * te.size), none⟩), ?_, by simp only [VRel]; exact ⟨hb, trivial⟩⟩
    simp [Instr.indexAt, asIntOf, us, h0, h1, (hT.is he).size, addr_add, Nat.add_assoc]
  · rename_i len e b o hd
    rw [hd] at us
    split at h <;> first | (cases h; done) | skip
    rename_i te he
    split at h <;> first | (cases h; done) | skip
    rename_i hn
    cases h
    simp only [VRel] at hx
    obtain ⟨hb, rfl⟩ := hx
    refine ⟨.pointer (some ⟨M.blk b, M.bas b + (o + n.toNat * te.size), none⟩), ?_, by simp only [VRel]; exact ⟨hb, trivial⟩⟩
    simp [Instr.indexAt, asIntOf, us, hn, Instr.sureAddr, (hT.is he).size, addr_add, Nat.add_assoc]
def bnd (ev : Operand → Option V) : Option Operand → Option (Option Int)
  | none => some none
  | some x => match ev x with
    | some (.i _ n) => some (some n)
    | _ => none
def bnds (len top : Nat) (lo hi mx : Option Int) : Option (Nat × Nat × Nat) :=
  match (match mx with
    | some n => if 0 ≤ n ∧ n ≤ top then some n.toNat else none
    | none => some top) with
  | none => none
  | some m => match (match hi with
    | some n => if 0 ≤ n ∧ n ≤ m then some n.toNat else none
    | none => if mx.isNone then some len else none) with
    | none => none
    | some h => match (match lo with
      | some n => if 0 ≤ n ∧ n ≤ h then some n.toNat else none
      | none => some 0) with
      | none => none
      | some l => some (l, h, m)
theorem run_bnds {P : Program} {ev : Operand → Option V} {evr : Operand → Value} {M : Mod} (hev : ∀ x v, ev x = some v → VRel M v (evr x)) {lo hi mx : Option Operand} {l' h' m' : Option Int}
    (h1 : bnd ev lo = some l') (h2 : bnd ev hi = some h') (h3 : bnd ev mx = some m') {len top l h m : Nat} (hb : bnds len top l' h' m' = some (l, h, m)) (sl : Bool) (w : World) :
    (Instr.sliceBounds sl len top (lo.map evr) (hi.map evr) (mx.map evr)).run P w = .ok (l, h, m) w := by
  have key : ∀ {o : Option Operand} {n : Int}, bnd ev o = some (some n) → ∃ x k, o = some x ∧ evr x = .int k n := by
    intro o n ho
    cases o with
    | none => simp [bnd] at ho
    | some x =>
      simp only [bnd] at ho
      split at ho <;> first | (cases ho; done) | skip
      rename_i k n' he
      cases ho
      have := hev x _ he
      simp only [VRel] at this
      exact ⟨x, k, rfl, this⟩
  have keyn : ∀ {o : Option Operand}, bnd ev o = some none → o = none := by
    intro o ho
    cases o with
    | none => rfl
    | some x => simp only [bnd] at ho; split at ho <;> cases ho
  unfold bnds at hb
  have hmx : ∃ m0, (match m' with
    | some n => if 0 ≤ n ∧ n ≤ top then some n.toNat else none
    | none => some top) = some m0 := by
    split at hb
    · cases hb
    · rename_i m0 hm0; exact ⟨m0, hm0⟩
  obtain ⟨m0, hm0⟩ := hmx
  simp only [hm0] at hb
  have hhi : ∃ h0, (match h' with
    | some n => if 0 ≤ n ∧ n ≤ m0 then some n.toNat else none
    | none => if m'.isNone then some len else none) = some h0 := by
    split at hb
    · cases hb
    · rename_i h0 hh0; exact ⟨h0, hh0⟩
  obtain ⟨h0, hh0⟩ := hhi
  simp only [hh0] at hb
  have hlo : ∃ l0, (match l' with
      | some n => if 0 ≤ n ∧ n ≤ h0 then some n.toNat else none
      | none => some 0) = some l0 := by
    split at hb
    · cases hb
    · rename_i l0 hl0; exact ⟨l0, hl0⟩
  obtain ⟨l0, hl0⟩ := hlo
  simp only [hl0] at hb
  cases hb
  unfold Instr.sliceBounds
  cases m' with
  | none =>
    obtain rfl := keyn h3
    simp at hm0; subst hm0
    cases h' with
    | none =>
      obtain rfl := keyn h2
      simp at hh0; subst hh0
      cases l' with
      | none => obtain rfl := keyn h1; simp at hl0; subst hl0; simp
      | some n =>
        obtain ⟨x, k, rfl, hx⟩ := key h1
        simp at hl0
        simp [hx, run_sliceBound, hl0]
    | some q =>
      obtain ⟨y, ky, rfl, hy⟩ := key h2
      simp at hh0
      obtain ⟨hq, rfl⟩ := hh0
      cases l' with
      | none => obtain rfl := keyn h1; simp at hl0; subst hl0; simp [hy, run_sliceBound, hq]
      | some n =>
        obtain ⟨x, k, rfl, hx⟩ := key h1
        simp at hl0
        simp [hx, hy, run_sliceBound, hl0, hq]
  | some r =>
    obtain ⟨z, kz, rfl, hz⟩ := key h3
    simp at hm0
    obtain ⟨hr, rfl⟩ := hm0
    cases h' with
    | none => simp at hh0
    | some q =>
      obtain ⟨y, ky, rfl, hy⟩ := key h2
      simp at hh0
      obtain ⟨hq, rfl⟩ := hh0
      cases l' with
      | none => obtain rfl := keyn h1; simp at hl0; subst hl0; simp [hy, hz, run_sliceBound, hq, hr]
      | some n =>
        obtain ⟨x, k, rfl, hx⟩ := key h1
        simp at hl0
        simp [hx, hy, hz, run_sliceBound, hl0, hq, hr]
end Go.Mx

namespace Go.Mx
def sliceA (tb : Nat → Option TI) (t : Nat) (x : V) (lo hi mx : Option Int) : Option V :=
  match tb t with
  | none => none
  | some ti =>
    match ti.d, x with
    | .slice e, .nils => (match tb e with
      | none => none
      | some _ => (match bnds 0 0 lo hi mx with
        | some _ => some .nils
        | none => none))
    | .slice e, .sl b o n cap z => (match tb e with
      | none => none
      | some te => if te.size = z then (match cap with
        | some k => (match bnds n k lo hi mx with
          | some (l, h, m) => if m = l then some (.sl b o 0 (some 0) z) else some (.sl b (o + l * z) (h - l) (some (m - l)) z)
          | none => none)
        | none => (match mx with
          | some _ => (match bnds n n lo hi mx with
            | some (l, h, m) => if m = l then some (.sl b o 0 (some 0) z) else some (.sl b (o + l * z) (h - l) (some (m - l)) z)
            | none => none)
          | none => (match bnds n n lo hi none with
            | some (l, h, _) => if l < n then some (.sl b (o + l * z) (h - l) none z) else some (.se b z)
            | none => none))) else none)
    | .slice e, .se b z => (match tb e with
      | none => none
      | some te => if te.size = z then (match bnds 0 0 lo hi mx with
        | some _ => some (.se b z)
        | none => none) else none)
    | .string, .s l => if mx.isSome then none else (match bnds l.length l.length lo hi none with
      | some (a, h, _) => some (.s ((l.drop a).take (h - a)))
      | none => none)
    | _, _ => none
theorem bnds_le {len top : Nat} {lo hi mx : Option Int} {l h m : Nat} (hl : len ≤ top ∨ hi ≠ none) (hb : bnds len top lo hi mx = some (l, h, m)) : l ≤ h ∧ h ≤ m ∧ m ≤ top := by
  unfold bnds at hb
  cases mx <;> cases hi <;> cases lo <;> grind
theorem bnds_top {len top top' : Nat} (ht : top ≤ top') {lo hi mx : Option Int} {l h m : Nat} (hb : bnds len top lo hi mx = some (l, h, m)) :
    bnds len top' lo hi mx = some (l, h, if mx.isSome then m else top') := by
  unfold bnds at hb ⊢
  cases mx <;> cases hi <;> cases lo <;> grind
theorem bytes_extract (l : List UInt8) (a h : Nat) : (ByteArray.mk l.toArray).extract a h = ⟨((l.drop a).take (h - a)).toArray⟩ := by
  apply ByteArray.ext
  apply Array.ext'
  simp [List.take_drop]
theorem run_slice_slice {P : Program} {t e z : Nat} {w : World} (us : (underlying t).run P w = .ok (.slice e) w) (hz : (sizeOf e).run P w = .ok z w) {a : Option Addr} {n c : Nat} {lo hi mx : Option Value} {l h m : Nat}
    (hb : (Instr.sliceBounds true n c lo hi mx).run P w = .ok (l, h, m) w) :
    (Instr.sliceAt t (.slice a n c) lo hi mx).run P w = .ok (.slice (if m = l then a else a.map (·.add (l * z))) (h - l) (m - l)) w := by
  simp [Instr.sliceAt, Instr.slice, us, hb, hz]
theorem run_slice_str {P : Program} {t : Nat} {w : World} (us : (underlying t).run P w = .ok .string w) {s : ByteArray} {lo hi : Option Value} {l h m : Nat}
    (hb : (Instr.sliceBounds false s.size s.size lo hi none).run P w = .ok (l, h, m) w) :
    (Instr.sliceAt t (.string s) lo hi none).run P w = .ok (.string (s.extract l h)) w := by
  simp [Instr.sliceAt, Instr.slice, us, hb]
theorem run_sliceA {P : Program} {tb : Nat → Option TI} (hT : TbOk P tb) {M : Mod} {ev : Operand → Option V} {evr : Operand → Value} (hev : ∀ x v, ev x = some v → VRel M v (evr x))
    {t : Nat} {x v : V} {X : Value} {lo hi mx : Option Operand} {l' h' m' : Option Int} (h1 : bnd ev lo = some l') (h2 : bnd ev hi = some h') (h3 : bnd ev mx = some m')
    (h : sliceA tb t x l' h' m' = some v) (hx : VRel M x X) (w : World) : ∃ z, (Instr.sliceAt t X (lo.map evr) (hi.map evr) (mx.map evr)).run P w = .ok z w ∧ VRel M v z := by
  unfold sliceA at h
  split at h
  · cases h
  rename_i ti ht
  have us := (hT.is ht).runUnd w
  split at h
  · rename_i e hd
    rw [hd] at us
    split at h <;> first | (cases h; done) | skip
    rename_i te he
    have hz' := (hT.is he).size w
    split at h <;> first | (cases h; done) | skip
    rename_i r hb
    obtain ⟨l, hh, m⟩ := r
    cases h
    simp only [VRel] at hx; subst hx
    have hr := run_bnds (P := P) hev h1 h2 h3 hb true w
    have := bnds_le (.inl (Nat.le_refl 0)) hb
    obtain rfl : l = 0 := by omega
    obtain rfl : hh = 0 := by omega
    obtain rfl : m = 0 := by omega
    exact ⟨_, run_slice_slice us hz' hr, by simp [VRel]⟩
  · rename_i e b o n cap z hd
    rw [hd] at us
    split at h <;> first | (cases h; done) | skip
    rename_i te he
    split at h <;> first | (cases h; done) | skip
    rename_i hz
    have hz' := (hT.is he).size w
    rw [hz] at hz'
    simp only [VRel] at hx
    obtain ⟨hb, c, rfl, hnc, hn, hc, hcap⟩ := hx
    have fin : ∀ {l h m k : Nat}, l ≤ h → h ≤ m → m ≤ k → o + k * z ≤ M.len b → o + c * z ≤ M.siz b → k ≤ c →
        VRel M (if m = l then (.sl b o 0 (some 0) z) else (.sl b (o + l * z) (h - l) (some (m - l)) z)) (.slice (if m = l then (some ⟨M.blk b, M.bas b + o, none⟩) else (some ⟨M.blk b, M.bas b + o, none⟩ : Option Addr).map (·.add (l * z))) (h - l) (m - l)) := by
      intro l h m k q1 q2 q3 q4 q5 q6
      have e1 : (m - l) * z ≤ (k - l) * z := Nat.mul_le_mul_right _ (by omega)
      have e2 : (k - l) * z + l * z = k * z := by rw [← Nat.add_mul]; congr 1; omega
      have e3 : (h - l) * z ≤ (m - l) * z := Nat.mul_le_mul_right _ (by omega)
      have e4 : k * z ≤ c * z := Nat.mul_le_mul_right _ q6
      split
      · rename_i e; subst e
        have : h - m = 0 := by omega
        simp only [VRel, this, Nat.sub_self]
        exact ⟨hb, 0, rfl, by omega, by omega, by omega, rfl, by omega⟩
      · simp only [VRel, Option.map_some, addr_add]
        exact ⟨hb, m - l, by rw [Nat.add_assoc], by omega, by omega, by omega, rfl, by omega⟩
    split at h
    · rename_i k
      split at h <;> first | (cases h; done) | skip
      rename_i l hh m hbn
      obtain ⟨rfl, hk⟩ := hcap
      have hr := run_bnds (P := P) hev h1 h2 h3 hbn true w
      have hle := bnds_le (.inl hnc) hbn
      refine ⟨_, run_slice_slice us hz' hr, ?_⟩
      have := fin hle.1 hle.2.1 hle.2.2 hk hc (Nat.le_refl _)
      split at h <;> rename_i e <;> cases h
      · simpa [e] using this
      · simpa [e] using this
    · split at h
      · rename_i r
        split at h <;> first | (cases h; done) | skip
        rename_i l hh m hbn
        have hbn' := bnds_top hnc hbn
        simp only [Option.isSome_some, if_true] at hbn'
        have hr := run_bnds (P := P) hev h1 h2 h3 hbn' true w
        have hle := bnds_le (.inl (Nat.le_refl n)) hbn
        refine ⟨_, run_slice_slice us hz' hr, ?_⟩
        have := fin hle.1 hle.2.1 hle.2.2 hn hc hnc
        split at h <;> rename_i e <;> cases h
        · simpa [e] using this
        · simpa [e] using this
      · split at h <;> first | (cases h; done) | skip
        rename_i l hh m hbn
        have hbn' := bnds_top hnc hbn
        have hr := run_bnds (P := P) hev h1 h2 h3 hbn' true w
        have hle := bnds_le (.inl (Nat.le_refl n)) hbn
        simp only [Option.isSome_none, Bool.false_eq_true, if_false] at hr
        refine ⟨_, run_slice_slice us hz' hr, ?_⟩
        have e2 : (c - l) * z + l * z = c * z := by rw [← Nat.add_mul]; congr 1; omega
        have e3 : (hh - l) * z + l * z = hh * z := by rw [← Nat.add_mul]; congr 1; omega
        have e4 : hh * z ≤ n * z := Nat.mul_le_mul_right _ (by omega)
        split at h <;> rename_i e <;> cases h
        · have : ¬ c = l := by omega
          simp only [this, if_false, VRel, Option.map_some, addr_add]
          simp only [] at hcap
          exact ⟨hb, c - l, by rw [Nat.add_assoc], by omega, by omega, by omega, by omega⟩
        · have h0 : hh - l = 0 := by omega
          simp only [VRel, h0]
          by_cases hcl : c = l
          · simp only [hcl, if_true, Nat.sub_self]
            exact ⟨hb, o, 0, rfl, by omega⟩
          · simp only [hcl, if_false, Option.map_some, addr_add]
            exact ⟨hb, o + l * z, c - l, by rw [Nat.add_assoc], by omega⟩
  · rename_i e b z hd
    rw [hd] at us
    split at h <;> first | (cases h; done) | skip
    rename_i te he
    split at h <;> first | (cases h; done) | skip
    rename_i hz
    have hz' := (hT.is he).size w
    rw [hz] at hz'
    split at h <;> first | (cases h; done) | skip
    rename_i r hbn
    obtain ⟨l, hh, m⟩ := r
    cases h
    simp only [VRel] at hx
    obtain ⟨hb, o, c, rfl, hc⟩ := hx
    have hbn' := bnds_top (Nat.zero_le c) hbn
    have hr := run_bnds (P := P) hev h1 h2 h3 hbn' true w
    have hle := bnds_le (.inl (Nat.le_refl 0)) hbn
    obtain rfl : l = 0 := by omega
    obtain rfl : hh = 0 := by omega
    refine ⟨_, run_slice_slice us hz' hr, ?_⟩
    simp only [VRel]
    have hm : (if m'.isSome then m else c) ≤ c := by split <;> omega
    have hm' : (if m'.isSome then m else c) * z ≤ c * z := Nat.mul_le_mul_right _ hm
    refine ⟨hb, o, (if m'.isSome then m else c), ?_, by omega⟩
    simp only [Nat.sub_zero, Nat.zero_mul, Option.map_some, addr_add, Nat.add_zero, ite_self]
  · rename_i l hd
    rw [hd] at us
    split at h
    · cases h
    rename_i hmx
    split at h <;> first | (cases h; done) | skip
    rename_i a hh m hbn
    cases h
    simp only [VRel] at hx; subst hx
    have hmn : m' = none := by cases m' <;> simp_all
    subst hmn
    have hxn : mx = none := by
      cases mx with
      | none => rfl
      | some x => simp only [bnd] at h3; split at h3 <;> cases h3
    subst hxn
    have hr := run_bnds (P := P) hev h1 h2 h3 hbn false w
    have e1 : (ByteArray.mk l.toArray).size = l.length := by simp [ByteArray.size]
    refine ⟨_, run_slice_str us (by rw [e1]; exact hr), ?_⟩
    simp only [VRel, bytes_extract]
  · cases h
end Go.Mx

namespace Go.Mx
def notIface : TypeDesc → Bool
  | .interface _ => false
  | _ => true
def assertA (tb : Nat → Option TI) (t : Nat) (ok : Bool) (x : V) : Option V :=
  match tb t with
  | none => none
  | some ti => if notIface ti.d then (match x with
    | .nili => if ok then some (.tup [ti.zv, .b false]) else none
    | .ifc u v => if u = t then (if ok then some (.tup [v, .b true]) else some v) else (if ok then some (.tup [ti.zv, .b false]) else none)
    | _ => none) else none
theorem run_assertA {P : Program} {tb : Nat → Option TI} (hT : TbOk P tb) {M : Mod} {t xt : Nat} {ok : Bool} {x v : V} {X : Value} (h : assertA tb t ok x = some v) (hx : VRel M x X) (w : World) :
    ∃ z, (Instr.typeAssert X xt t ok).run P w = .ok z w ∧ VRel M v z := by
  unfold assertA at h
  split at h
  · cases h
  rename_i ti ht
  have us := (hT.is ht).runUnd w
  obtain ⟨z, hz, hzv⟩ := (hT.is ht).zero
  split at h
  · rename_i hni
    split at h
    · split at h <;> first | (cases h; done) | skip
      rename_i hok
      simp only [VRel] at hx; subst hx; subst hok; cases h
      refine ⟨.tuple #[z, .bool false], ?_, by simp only [VRel]; exact ⟨_, rfl, hzv M, rfl, trivial⟩⟩
      cases hd : ti.d <;> rw [hd] at us hni <;> first | (simp [notIface] at hni; done) | simp [Instr.typeAssert, us, hz]
    · rename_i u y
      simp only [VRel] at hx
      obtain ⟨Y, rfl, hy⟩ := hx
      split at h
      · rename_i hu; subst hu
        split at h <;> rename_i hok <;> cases h
        · refine ⟨.tuple #[Y, .bool true], ?_, by simp only [VRel]; exact ⟨_, rfl, hy, rfl, trivial⟩⟩
          cases hd : ti.d <;> rw [hd] at us hni <;> first | (simp [notIface] at hni; done) | simp [Instr.typeAssert, us, hok]
        · refine ⟨Y, ?_, hy⟩
          cases hd : ti.d <;> rw [hd] at us hni <;> first | (simp [notIface] at hni; done) | simp [Instr.typeAssert, us, hok]
      · rename_i hu
        split at h <;> first | (cases h; done) | skip
        rename_i hok
        cases h
        refine ⟨.tuple #[z, .bool false], ?_, by simp only [VRel]; exact ⟨_, rfl, hzv M, rfl, trivial⟩⟩
        cases hd : ti.d <;> rw [hd] at us hni <;> first | (simp [notIface] at hni; done) | simp [Instr.typeAssert, us, hz, hu, hok]
    · cases h
  · cases h
def intsA (f : Int → Int → Int) : List V → Option V
  | .i k a :: r => go k a r
  | _ => none
where
  go (k : IntKind) : Int → List V → Option V
    | a, [] => some (.i k a)
    | a, .i k' c :: r => if k = k' then go k (f a c) r else none
    | _, _ => none
theorem run_intsA {M : Mod} {P : Program} {f : Int → Int → Int} {g : Value → Value → Sem Value} (hg : ∀ k a c w, (g (.int k a) (.int k c)).run P w = .ok (.int k (f a c)) w) :
    ∀ (r : List V) (k : IntKind) (a : Int) (R : List Value) (v : V), intsA.go f k a r = some v → VRels M r R → ∀ w, ∃ z, (R.foldlM g (.int k a)).run P w = .ok z w ∧ VRel M v z
  | [], k, a, R, v, h, hR, w => by
    have : R = [] := by cases R with
      | nil => rfl
      | cons => simp [VRels] at hR
    subst this
    simp [intsA.go] at h; subst h
    exact ⟨.int k a, by simp, by simp [VRel]⟩
  | x :: r, k, a, R, v, h, hR, w => by
    cases R with
    | nil => simp [VRels] at hR
    | cons y R =>
      simp only [VRels] at hR
      cases x <;> simp only [intsA.go] at h <;> first | (cases h; done) | skip
      split at h <;> first | (cases h; done) | skip
      rename_i hk
      subst hk
      simp only [VRel] at hR
      obtain ⟨rfl, hR⟩ := hR
      obtain ⟨z, hz, hv⟩ := run_intsA (M := M) hg r k _ R v h hR w
      exact ⟨z, by simp [hg, hz], hv⟩
def bltA (tb : Nat → Option TI) (b : Builtin) (ats : Array Nat) (args : List V) : Option V :=
  match b, args with
  | .len, [x] => (match ats[0]? with
    | none => none
    | some t => (match tb t with
      | none => none
      | some ti => (match ti.d, x with
        | .string, .s l => some (.i .i64 l.length)
        | .array n _, _ => some (.i .i64 n)
        | .slice _, .nils => some (.i .i64 0)
        | .slice _, .sl _ _ n _ _ => some (.i .i64 n)
        | .slice _, .se _ _ => some (.i .i64 0)
        | .map _ _, .nilm => some (.i .i64 0)
        | _, _ => none)))
  | .cap, [x] => (match ats[0]? with
    | none => none
    | some t => (match tb t with
      | none => none
      | some ti => (match ti.d, x with
        | .slice _, .nils => some (.i .i64 0)
        | .slice _, .sl _ _ _ (some k) _ => some (.i .i64 k)
        | _, _ => none)))
  | .max, l => intsA (fun a c => if c > a then c else a) l
  | .min, l => intsA (fun a c => if c < a then c else a) l
  | _, _ => none
theorem run_bltA {P : Program} {tb : Nat → Option TI} (hT : TbOk P tb) {M : Mod} {b : Builtin} {ats : Array Nat} {args : List V} {v : V} {A : Array Value} (h : bltA tb b ats args = some v) (hA : VRels M args A.toList)
    (ty : Nat) (cs : Array Bool) (w : World) : ∃ z, (builtin b ats ty cs A).run P w = .ok (.value z) w ∧ VRel M v z := by
  unfold bltA at h
  split at h
  · rename_i x
    split at h <;> first | (cases h; done) | skip
    rename_i t hat
    split at h <;> first | (cases h; done) | skip
    rename_i ti ht
    have us := (hT.is ht).runUnd w
    obtain ⟨X, rfl, hX⟩ : ∃ X, A = #[X] ∧ VRel M x X := by
      rcases A with ⟨_ | ⟨X, _ | _⟩⟩ <;> simp [VRels] at hA
      exact ⟨X, rfl, hA⟩
    split at h <;> first | (cases h; done) | skip
    all_goals (rename_i hd; rw [hd] at us)
    · simp only [VRel] at hX; subst hX; cases h
      exact ⟨_, by simp [builtin, Builtin.len_, hat, us, goInt]; rfl, by simp [VRel, ByteArray.size]⟩
    · cases h
      exact ⟨_, by simp [builtin, Builtin.len_, hat, us, goInt]; rfl, by simp [VRel]⟩
    · simp only [VRel] at hX; subst hX; cases h
      exact ⟨_, by simp [builtin, Builtin.len_, hat, us, goInt]; rfl, by simp [VRel]⟩
    · simp only [VRel] at hX; obtain ⟨_, c, rfl, _⟩ := hX; cases h
      exact ⟨_, by simp [builtin, Builtin.len_, hat, us, goInt]; rfl, by simp [VRel]⟩
    · simp only [VRel] at hX; obtain ⟨_, _, c, rfl, _⟩ := hX; cases h
      exact ⟨_, by simp [builtin, Builtin.len_, hat, us, goInt]; rfl, by simp [VRel]⟩
    · simp only [VRel] at hX; subst hX; cases h
      exact ⟨_, by simp [builtin, Builtin.len_, hat, us, goInt]; rfl, by simp [VRel]⟩
  · rename_i x
    split at h <;> first | (cases h; done) | skip
    rename_i t hat
    split at h <;> first | (cases h; done) | skip
    rename_i ti ht
    have us := (hT.is ht).runUnd w
    obtain ⟨X, rfl, hX⟩ : ∃ X, A = #[X] ∧ VRel M x X := by
      rcases A with ⟨_ | ⟨X, _ | _⟩⟩ <;> simp [VRels] at hA
      exact ⟨X, rfl, hA⟩
    split at h <;> first | (cases h; done) | skip
    all_goals (rename_i hd; rw [hd] at us)
    · simp only [VRel] at hX; subst hX; cases h
      exact ⟨_, by simp [builtin, Builtin.cap_, hat, us, goInt]; rfl, by simp [VRel]⟩
    · simp only [VRel] at hX; obtain ⟨_, c, rfl, _, _, _, rfl, _⟩ := hX; cases h
      exact ⟨_, by simp [builtin, Builtin.cap_, hat, us, goInt]; rfl, by simp [VRel]⟩
  · unfold intsA at h
    split at h <;> first | (cases h; done) | skip
    rename_i k a r
    rcases A with ⟨_ | ⟨X, R⟩⟩ <;> simp only [VRels] at hA
    simp only [VRel] at hA
    obtain ⟨rfl, hR⟩ := hA
    obtain ⟨z, hz, hv⟩ := run_intsA (M := M) (P := P) (g := Builtin.max2) (fun k a c w => by simp [Builtin.max2]) r k a R v h hR w
    exact ⟨z, by simp [builtin, Builtin.max_, hz], hv⟩
  · unfold intsA at h
    split at h <;> first | (cases h; done) | skip
    rename_i k a r
    rcases A with ⟨_ | ⟨X, R⟩⟩ <;> simp only [VRels] at hA
    simp only [VRel] at hA
    obtain ⟨rfl, hR⟩ := hA
    obtain ⟨z, hz, hv⟩ := run_intsA (M := M) (P := P) (g := Builtin.min2) (fun k a c w => by simp [Builtin.min2]) r k a R v h hR w
    exact ⟨z, by simp [builtin, Builtin.min_, hz], hv⟩
  · cases h
def okCheck : V → Bool
  | .p _ _ => true
  | .f (.func _) _ _ => true
  | _ => false
def pureA (tb : Nat → Option TI) (ev : Operand → Option V) (o : Op) : Option V :=
  match o with
  | .move x => ev x
  | .assign x => ev x
  | .pick c a b => (match ev c with
    | some (.b true) => ev a
    | some (.b false) => ev b
    | _ => none)
  | .nilCheck x => (match ev x with
    | some v => if okCheck v then some v else none
    | none => none)
  | .binOp op t x y _ => (match ev x, ev y with
    | some a, some c => binA tb (isC x || isC y) op t a c
    | _, _ => none)
  | .unOp op _ x => (match ev x with
    | some a => unA op a
    | none => none)
  | .convert s d x => (match ev x with
    | some a => convA tb s d a
    | none => none)
  | .makeInterface t x => (match tb t, ev x with
    | some ti, some v => if notIface ti.d then some (.ifc t v) else none
    | _, _ => none)
  | .makeFunc fn a b => (match evs ev a.toList, evs ev b.toList with
    | some u, some v => some (.f fn u v)
    | _, _ => none)
  | .fieldAddr s x f => (match ev x with
    | some a => fieldAddrA tb s a f
    | none => none)
  | .field s x f => (match ev x with
    | some a => fieldA tb s a f
    | none => none)
  | .index t x i => (match ev x, ev i with
    | some a, some c => indexA tb t a c
    | _, _ => none)
  | .indexAddr t x i => (match ev x, ev i with
    | some a, some c => indexAddrA tb t a c
    | _, _ => none)
  | .slice t x lo hi mx => (match ev x, bnd ev lo, bnd ev hi, bnd ev mx with
    | some a, some l, some h, some m => sliceA tb t a l h m
    | _, _, _, _ => none)
  | .extract x i => (match ev x with
    | some (.tup l) => l[i]?
    | _ => none)
  | .typeAssert x _ t ok => (match ev x with
    | some a => assertA tb t ok a
    | none => none)
  | .call c => (match c.callee with
    | .builtin b => (match evs ev c.args.toList with
      | some l => bltA tb b c.argTypes l
      | none => none)
    | _ => none)
  | _ => none
set_option maxHeartbeats 1000000 in
theorem run_pureA {P : Program} {tb : Nat → Option TI} (hT : TbOk P tb) {M : Mod} {ev : Operand → Option V} {evr : Operand → Value} (hev : ∀ x v, ev x = some v → VRel M v (evr x))
    {o : Oper} {v : V} (h : pureA tb ev o.op = some v) (w : World) : ∃ z, (execOp evr o).run P w = .ok (.value z) w ∧ VRel M v z := by
  unfold pureA at h
  unfold execOp
  split at h <;> (try (rename_i ho; rw [ho]))
  · exact ⟨_, by simp, hev _ _ h⟩
  · exact ⟨_, by simp, hev _ _ h⟩
  · split at h <;> first | (cases h; done) | skip
    · rename_i hc
      have := hev _ _ hc
      simp only [VRel] at this
      exact ⟨_, by simp [this, asBool], hev _ _ h⟩
    · rename_i hc
      have := hev _ _ hc
      simp only [VRel] at this
      exact ⟨_, by simp [this, asBool], hev _ _ h⟩
  · split at h <;> first | (cases h; done) | skip
    rename_i a hx
    split at h <;> first | (cases h; done) | skip
    rename_i hok
    cases h
    have hr := hev _ _ hx
    refine ⟨_, ?_, hr⟩
    cases v <;> simp [okCheck] at hok
    · simp only [VRel] at hr; obtain ⟨_, hr⟩ := hr; simp [hr]
    · rename_i fn first cap
      simp only [VRel] at hr; obtain ⟨fs, cs, hr, _⟩ := hr
      cases fn <;> simp at hok
      simp [hr]
  · rename_i op t x y yt
    split at h <;> first | (cases h; done) | skip
    rename_i a c hx hy
    obtain ⟨z, hz, hv⟩ := run_binA (p := x) (q := y) hT (by simp) h (hev _ _ hx) (hev _ _ hy) w
    refine ⟨z, ?_, hv⟩
    simp only [Sem.run_bind] at hz ⊢
    rw [hz]; simp
  · split at h <;> first | (cases h; done) | skip
    rename_i hx
    obtain ⟨z, hz, hv⟩ := run_unA h (hev _ _ hx) P w
    exact ⟨z, by simp [hz], hv⟩
  · split at h <;> first | (cases h; done) | skip
    rename_i hx
    obtain ⟨z, hz, hv⟩ := run_convA hT h (hev _ _ hx) w
    exact ⟨z, by simp [hz], hv⟩
  · rename_i t x
    split at h <;> first | (cases h; done) | skip
    rename_i ti a ht hx
    split at h <;> first | (cases h; done) | skip
    rename_i hni
    cases h
    have us := (hT.is ht).runUnd w
    refine ⟨.iface t (evr x), ?_, by simp only [VRel]; exact ⟨_, rfl, hev _ _ hx⟩⟩
    cases hd : ti.d <;> rw [hd] at us hni <;> first | (simp [notIface] at hni; done) | simp [Instr.makeInterface, us]
  · rename_i fn a b
    split at h <;> first | (cases h; done) | skip
    rename_i u c hu hc
    cases h
    refine ⟨.func fn (a.map evr) (b.map evr), by simp [Instr.makeFunc], ?_⟩
    simp only [VRel]
    exact ⟨_, _, rfl, by simpa using evs_rel hev hu, by simpa using evs_rel hev hc⟩
  · split at h <;> first | (cases h; done) | skip
    rename_i hx
    obtain ⟨z, hz, hv⟩ := run_fieldAddrA hT h (hev _ _ hx) w
    exact ⟨z, by simp [hz], hv⟩
  · split at h <;> first | (cases h; done) | skip
    rename_i hx
    obtain ⟨z, hz, hv⟩ := run_fieldA hT h (hev _ _ hx) w
    exact ⟨z, by simp [hz], hv⟩
  · split at h <;> first | (cases h; done) | skip
    rename_i hx hi
    obtain ⟨z, hz, hv⟩ := run_indexA hT h (hev _ _ hx) (hev _ _ hi) w
    exact ⟨z, by simp [hz], hv⟩
  · split at h <;> first | (cases h; done) | skip
    rename_i hx hi
    obtain ⟨z, hz, hv⟩ := run_indexAddrA hT h (hev _ _ hx) (hev _ _ hi) w
    exact ⟨z, by simp [hz], hv⟩
  · split at h <;> first | (cases h; done) | skip
    rename_i hx h1 h2 h3
    obtain ⟨z, hz, hv⟩ := run_sliceA hT hev h1 h2 h3 h (hev _ _ hx) w
    exact ⟨z, by simp [hz], hv⟩
  · rename_i x i
    split at h <;> first | (cases h; done) | skip
    rename_i l hx
    have := hev _ _ hx
    simp only [VRel] at this
    obtain ⟨cs, hcs, hr⟩ := this
    obtain ⟨y, hy, hv⟩ := hr.get h
    have hy' : cs[i]? = some y := by simpa using hy
    exact ⟨y, by simp [hcs, Instr.extract, hy'], hv⟩
  · rename_i x xt t ok
    split at h <;> first | (cases h; done) | skip
    rename_i hx
    obtain ⟨z, hz, hv⟩ := run_assertA (xt := xt) hT h (hev _ _ hx) w
    exact ⟨z, by simp [hz], hv⟩
  · rename_i c
    split at h <;> first | (cases h; done) | skip
    rename_i b hb
    split at h <;> first | (cases h; done) | skip
    rename_i l hl
    obtain ⟨z, hz, hv⟩ := run_bltA (A := c.args.map evr) hT h (by simpa using evs_rel hev hl) o.type (c.args.map fun | .const _ => true | _ => false) w
    refine ⟨z, ?_, hv⟩
    simp only [resolve, hb, Sem.run_bind, Sem.run_pure, Result.andThen_ok, invoke]
    exact hz
  · cases h
end Go.Mx

namespace Go.Mx
def loadA (tb : Nat → Option TI) (h : Hp) (t : Nat) (p : V) : Option V :=
  match tb t, p with
  | some ti, .p b o => (match h.get b with
    | some (.blk _ cells _) => partV ti cells o
    | _ => none)
  | _, _ => none
theorem VRels.of_block {M : Mod} {cells : List V} {cs : Array Value} {bas : Nat} (h : ∀ (j : Nat) (v : V), cells[j]? = some v → ∃ y, cs[bas + j]? = some y ∧ VRel M v y) (hl : bas + cells.length ≤ cs.size) :
    VRels M cells ((cs.toList.drop bas).take cells.length) := by
  refine VRels.of_get ?_ fun j x y hx hy => ?_
  · simp; omega
  · obtain ⟨z, hz, hv⟩ := h j x hx
    have hj : j < cells.length := (List.getElem?_eq_some_iff.1 hx).1
    rw [List.getElem?_take_of_lt hj, List.getElem?_drop] at hy
    simp at hy
    rw [hz] at hy; cases hy
    exact hv
theorem run_loadCells_block {P : Program} {w : World} {b : Nat} {cs : Array Value} {t : Nat} {fr : Nat × Nat} (h : w.heap[b]? = some (.cells cs t fr)) (o n : Nat) (hn : o + n ≤ cs.size) :
    (loadCells ⟨b, o, none⟩ n).run P w = .ok ((cs.toList.drop o).take n).toArray w := by
  have hl : ((cs.toList.drop o).take n).length = n := by simp; omega
  have := run_loadCells_list (P := P) w ⟨b, o, none⟩ ((cs.toList.drop o).take n) (fun j v hv => by
    have hj : j < n := by have := (List.getElem?_eq_some_iff.1 hv).1; omega
    rw [addr_add, cell_of_row w b _ cs t fr h]
    rw [List.getElem?_take_of_lt hj, List.getElem?_drop] at hv
    simpa using hv)
  rw [hl] at this
  exact this
theorem run_loadA {P : Program} {tb : Nat → Option TI} (hT : TbOk P tb) {M : Mod} {B : Base} {h : Hp} {w : World} (H : HRel M B h w) {t : Nat} {p v : V} {X : Value} (hl : loadA tb h t p = some v) (hx : VRel M p X) :
    ∃ z, (Instr.loadAt t X).run P w = .ok z w ∧ VRel M v z := by
  unfold loadA at hl
  split at hl <;> first | (cases hl; done) | skip
  rename_i ti b o ht
  split at hl <;> first | (cases hl; done) | skip
  rename_i ty cells rw_ hg
  simp only [VRel] at hx
  obtain ⟨hb, rfl⟩ := hx
  obtain ⟨cs, fr, a1, a2, a3, a4, a5, a6, a7, a8⟩ := H.blk b _ hg hb
  unfold partV at hl
  split at hl
  · rename_i hag
    split at hl <;> first | (cases hl; done) | skip
    rename_i hle
    cases hl
    have hld := run_loadCells_block (P := P) a1 (M.bas b + o) ti.size (by omega)
    refine ⟨.agg ((cs.toList.drop (M.bas b + o)).take ti.size).toArray, ?_, ?_⟩
    · simp [Instr.loadAt, Instr.sureAddr, loadVar, (hT.is ht).runAgg w, hag, (hT.is ht).size, hld]
    · simp only [VRel]
      refine ⟨_, rfl, ?_⟩
      have hr := ((VRels.of_block a5 (by omega)).drop o).take ti.size
      have e : List.take ti.size (List.drop o (List.take cells.length (List.drop (M.bas b) cs.toList))) = List.take ti.size (List.drop (M.bas b + o) cs.toList) := by
        rw [List.drop_take, List.drop_drop, List.take_take]
        congr 1; omega
      rw [e] at hr
      simpa using hr
  · rename_i hag
    have hag' : ti.agg = false := by simpa using hag
    obtain ⟨y, hy, hv⟩ := a5 o v hl
    refine ⟨y, ?_, hv⟩
    have hc : w.cell? ⟨M.blk b, M.bas b + o, none⟩ = some y := by rw [cell_of_row w _ _ cs _ fr a1]; exact hy
    simp [Instr.loadAt, Instr.sureAddr, loadVar, (hT.is ht).runAgg w, hag', hc]
theorem HRel.congr {M : Mod} {B : Base} {h h' : Hp} {w : World} (H : HRel M B h w) (hn : h'.n = h.n) (hg : ∀ x, h'.get x = h.get x) : HRel M B h' w :=
  ⟨H.n.trans hn.symm, H.os, H.tape, H.output, H.size, H.old, fun id ob hi => by rw [hn]; exact H.lt id ob (by rw [← hg]; exact hi), fun id hk => by rw [hn]; exact H.okn id hk, fun id ob hi => H.blk id ob (by rw [← hg]; exact hi),
    fun id id' ob ob' hne hi hi' => H.sep id id' ob ob' hne (by rw [← hg]; exact hi) (by rw [← hg]; exact hi')⟩
theorem HRel.setAll {P : Program} {B : Base} {M : Mod} {id ty : Nat} (hok : M.ok id) {vs : List V} {ys : List Value} {cells : List V} {j : Nat} {h : Hp} {w : World} (H : HRel M B h w) (hg : h.get id = some (.blk ty cells true))
    (hl : j + vs.length ≤ cells.length) (hv : VRels M vs ys) (h1 : vs.all V.one = true) :
    ∃ w', (storeCells ⟨M.blk id, M.bas id + j, none⟩ ys).run P w = .ok () w' ∧ HRel M B (h.set id (.blk ty (setAll cells j vs) true)) w' := by
  obtain ⟨w', r, h', H', n', g', o'⟩ := HRel.stores (P := P) hok vs ys cells j 0 h w H hg (by omega) hv h1
  refine ⟨w', r, H'.congr n'.symm fun x => ?_⟩
  by_cases e : x = id
  · subst e; rw [Hp.get_set_self, g']; rfl
  · rw [Hp.get_set_ne _ _ e, o' x e]
def sameB : V → Option V → Bool
  | .b t, some (.b t') => t == t'
  | _, _ => false
theorem HRel.blk_lt {M : Mod} {B : Base} {h : Hp} {w : World} (H : HRel M B h w) {b : Nat} {ob : Ob} (hg : h.get b = some ob) (hok : M.ok b) (hl : ob.live = true) : M.blk b < w.heap.size := by
  have := H.blk b ob hg hok
  cases ob with
  | dead => simp [Ob.live] at hl
  | oth k => obtain ⟨⟨o, a1, _⟩, _⟩ := this; exact (Array.getElem?_eq_some_iff.1 a1).1
  | blk ty cells rw =>
    obtain ⟨cs, fr, a1, _⟩ := this
    exact (Array.getElem?_eq_some_iff.1 a1).1
theorem HRel.samew {M : Mod} {B : Base} {h : Hp} {w w' : World} (H : HRel M B h w) (h1 : w'.os = w.os) (h2 : w'.tape = w.tape) (h3 : w'.output = w.output) (h4 : w.heap.size ≤ w'.heap.size) (h5 : ∀ k, k < w.heap.size → w'.heap[k]? = w.heap[k]?) : HRel M B h w' :=
  ⟨H.n, h1.trans H.os, h2.trans H.tape, h3.trans H.output, Nat.le_trans H.size h4, fun k hk hn => (h5 k (Nat.lt_of_lt_of_le hk H.size)).trans (H.old k hk hn), H.lt, H.okn,
    fun id ob hg hk => (H.blk id ob hg hk).mono (Mod.le0.refl M) hk fun hl => h5 _ (H.blk_lt hg hk hl), H.sep⟩
def storeA (tb : Nat → Option TI) (h : Hp) (t : Nat) (p v : V) : Option Hp :=
  match tb t, p with
  | some ti, .p b o => (match h.get b with
    | some (.blk ty cells true) => if v.cells.length = ti.size ∧ o + v.cells.length ≤ cells.length ∧ v.cells.all V.one = true then some (h.set b (.blk ty (setAll cells o v.cells) true)) else none
    | some (.blk ty cells false) => if ty % 2 = 1 ∧ ti.size = 1 ∧ sameB v cells[o]? = true then some h else none
    | _ => none)
  | _, _ => none
theorem run_storeA {P : Program} {tb : Nat → Option TI} (hT : TbOk P tb) {M : Mod} {B : Base} {h h' : Hp} {w : World} (H : HRel M B h w) {t : Nat} {p v : V} {X Y : Value} (hs : storeA tb h t p v = some h') (hx : VRel M p X) (hy : VRel M v Y) :
    ∃ w', (Instr.storeAt t X Y).run P w = .ok () w' ∧ HRel M B h' w' := by
  unfold storeA at hs
  split at hs <;> first | (cases hs; done) | skip
  rename_i ti b o ht
  simp only [VRel] at hx
  obtain ⟨hb, rfl⟩ := hx
  split at hs <;> first | (cases hs; done) | skip
  · rename_i ty cells hg
    split at hs <;> first | (cases hs; done) | skip
    rename_i hc
    cases hs
    have hv := hy.cells
    obtain ⟨w', r, H'⟩ := H.setAll (P := P) hb hg hc.2.1 hv hc.2.2
    refine ⟨w', ?_, H'⟩
    have hsz : Y.cells.size = ti.size := by rw [← hc.1]; have := hv.length; simpa using this.symm
    simp [Instr.storeAt, Instr.sureAddr, storeVar, hsz, (hT.is ht).size, r]
  · rename_i ty cells hg
    split at hs <;> first | (cases hs; done) | skip
    rename_i hc
    cases hs
    obtain ⟨c1, c2, c3⟩ := hc
    obtain ⟨t, rfl, hcell⟩ : ∃ t, v = .b t ∧ cells[o]? = some (.b t) := by
      unfold sameB at c3
      split at c3 <;> first | (cases c3; done) | skip
      rename_i t t' hh
      have : t = t' := by simpa using c3
      subst this
      exact ⟨t, rfl, hh⟩
    simp only [VRel] at hy
    subst hy
    obtain ⟨cs, fr, a1, a2, a3, a4, a5, a6, a7, a8⟩ := H.blk b _ hg hb
    obtain ⟨y, hy1, hy2⟩ := a5 o _ hcell
    simp only [VRel] at hy2
    subst hy2
    have ho : o < cells.length := (List.getElem?_eq_some_iff.1 hcell).1
    have hlt : M.bas b + o < cs.size := (Array.getElem?_eq_some_iff.1 hy1).1
    have hcw : w.cell? ⟨M.blk b, M.bas b + o, none⟩ = some (.bool t) := by rw [cell_of_row w _ _ cs _ fr a1]; exact hy1
    have hfz : w.frozen? ⟨M.blk b, M.bas b + o, none⟩ = false := by
      simp only [World.frozen?, a1]
      have := a8 rfl c1 (M.bas b + o) (by omega) (by omega)
      simp; intro hx; omega
    have hst : (store (⟨M.blk b, M.bas b + o, none⟩ : Addr) (.bool t)).run P w = .ok () (w.setCell ⟨M.blk b, M.bas b + o, none⟩ (.bool t)) := by
      rw [run_store P w _ (.bool t) _ rfl, hcw, hfz]; rfl
    refine ⟨w.setCell ⟨M.blk b, M.bas b + o, none⟩ (.bool t), ?_, H.samew rfl rfl rfl ?_ fun k hk => ?_⟩
    · have hadd : (⟨M.blk b, M.bas b + o, none⟩ : Addr).add 0 = ⟨M.blk b, M.bas b + o, none⟩ := by simp [Addr.add]
      simp [Instr.storeAt, Instr.sureAddr, storeVar, (hT.is ht).size, c2, Value.cells, storeCells, hadd, hst]
    · show w.heap.size ≤ (w.heap.modify _ _).size
      rw [Array.size_modify]; exact Nat.le_refl _
    · by_cases e : k = M.blk b
      · subst e
        rw [heap_setCell_self a1 (.bool t), a1]
        congr 2
        apply Array.ext
        · simp
        · intro i h1 h2
          rw [Array.getElem_setIfInBounds h2]
          split
          · rename_i e; subst e
            have := Array.getElem?_eq_some_iff.1 hy1
            exact this.2.symm
          · rfl
      · exact heap_setCell_ne e _
theorem HRel.fresh {M : Mod} {B : Base} {h : Hp} {w : World} (H : HRel M B h w) (ty : Nat) {tag : Nat} (htag : tag / 2 = ty) {cells : List V} {cs : Array Value} (hc : VRels M cells cs.toList) :
    HRel (M.push w.heap.size 0 cells.length cs.size) B (h.push (.blk tag cells true)) { w with heap := w.heap.push (.cells cs ty) } := by
  have hl : cells.length = cs.size := by have := hc.length; simpa using this
  have := H.alloc ty htag cells cs (by omega) (fun j v hj => by
    obtain ⟨y, hy, hv⟩ := hc.get hj
    exact ⟨y, by simpa using hy, hv⟩) true
  exact this
theorem Mod.push_rel (M : Mod) (blk bas len siz o : Nat) : VRel (M.push blk bas len siz) (.p M.n o) (.pointer (some ⟨blk, bas + o, none⟩)) := by
  simp [VRel, Mod.push]
theorem Mod.push_sl (M : Mod) (blk bas len siz o n k z : Nat) (hn : n ≤ k) (hk : o + k * z ≤ len) (hs : len ≤ siz) : VRel (M.push blk bas len siz) (.sl M.n o n (some k) z) (.slice (some ⟨blk, bas + o, none⟩) n k) := by
  have : n * z ≤ k * z := Nat.mul_le_mul_right _ hn
  simp only [VRel, Mod.push]
  refine ⟨.inl trivial, k, by simp, hn, by simp; omega, by simp; omega, rfl, by simp; omega⟩
def fillA (place : Nat → Option (Nat × Nat)) (cells : List V) : List (Nat × V) → Option (List V)
  | [] => some cells
  | (i, v) :: rest =>
    match place i with
    | none => none
    | some (off, size) => if v.cells.length ≠ size ∨ off + v.cells.length > cells.length then none else fillA place (setAll cells off v.cells) rest
theorem VRels.set {M : Mod} : ∀ {xs : List V} {ys : List Value} {j : Nat} {x : V} {y : Value}, VRels M xs ys → VRel M x y → VRels M (xs.set j x) (ys.set j y)
  | [], [], _, _, _, _, _ => by simp [VRels]
  | a :: xs, b :: ys, 0, x, y, h, hv => by simp only [VRels] at h; simp only [List.set_cons_zero, VRels]; exact ⟨hv, h.2⟩
  | a :: xs, b :: ys, j + 1, x, y, h, hv => by simp only [VRels] at h; simp only [List.set_cons_succ, VRels]; exact ⟨h.1, h.2.set hv⟩
  | [], _ :: _, _, _, _, h, _ => by simp [VRels] at h
  | _ :: _, [], _, _, _, h, _ => by simp [VRels] at h
theorem setAll_rel {M : Mod} (off : Nat) : ∀ (vs : List V) (ys : List Value) (k : Nat) (cells : List V) (cs : Array Value), VRels M vs ys → VRels M cells cs.toList →
    VRels M (setAll cells (off + k) vs) ((ys.zipIdx k).foldl (fun (cs : Array Value) (x : Value × Nat) => cs.setIfInBounds (off + x.2) x.1) cs).toList
  | [], ys, k, cells, cs, hv, hc => by
    have : ys = [] := by cases ys with
      | nil => rfl
      | cons => simp [VRels] at hv
    subst this; simpa [setAll] using hc
  | v :: vs, ys, k, cells, cs, hv, hc => by
    cases ys with
    | nil => simp [VRels] at hv
    | cons y ys =>
      simp only [VRels] at hv
      simp only [List.zipIdx_cons, List.foldl_cons, setAll]
      exact setAll_rel off vs ys (k + 1) _ _ hv.2 (by simpa using hc.set hv.1)
theorem run_fillA {M : Mod} {place : Nat → Option (Nat × Nat)} : ∀ (parts : List (Nat × V)) (PS : List (Nat × Value)) (cells : List V) (cs : Array Value) (r : List V), fillA place cells parts = some r →
    VRels M cells cs.toList → PS.map (·.1) = parts.map (·.1) → VRels M (parts.map (·.2)) (PS.map (·.2)) → ∃ R, Instr.fill place cs PS = some R ∧ VRels M r R.toList
  | [], PS, cells, cs, r, h, hc, h1, h2 => by
    have : PS = [] := by simpa using h1
    subst this
    simp [fillA] at h; subst h
    exact ⟨cs, rfl, hc⟩
  | (i, v) :: rest, PS, cells, cs, r, h, hc, h1, h2 => by
    cases PS with
    | nil => simp at h1
    | cons q PS =>
      obtain ⟨i', y⟩ := q
      simp at h1
      obtain ⟨rfl, h1⟩ := h1
      simp only [List.map_cons, VRels] at h2
      simp only [fillA] at h
      split at h
      · cases h
      rename_i off size hp
      split at h
      · cases h
      rename_i hs
      have hvl := h2.1.cells
      have hl : v.cells.length = y.cells.size := by have := hvl.length; simpa using this
      have hl2 : cells.length = cs.size := by have := hc.length; simpa using this
      have hst := setAll_rel (M := M) off v.cells y.cells.toList 0 cells cs hvl hc
      simp only [Nat.add_zero] at hst
      obtain ⟨R, hR, hv⟩ := run_fillA rest PS _ _ r h hst h1 h2.2
      refine ⟨R, ?_, hv⟩
      have hs' : (decide (y.cells.size ≠ size) || decide (off + y.cells.size > cs.size)) = false := by
        rw [← hl, ← hl2]; simp; omega
      simp only [Instr.fill, hp]
      rw [hs']
      simp only [Bool.false_eq_true, if_false]
      have e : (y.cells.zipIdx.foldl (fun cs x => cs.setIfInBounds (off + x.2) x.1) cs) = (y.cells.toList.zipIdx.foldl (fun (cs : Array Value) (x : Value × Nat) => cs.setIfInBounds (off + x.2) x.1) cs) := by
        rw [← Array.foldl_toList, Array.toList_zipIdx]
      rw [e]; exact hR
end Go.Mx

namespace Go.Mx
def partsA (ev : Operand → Option V) : List (Nat × Operand) → Option (List (Nat × V))
  | [] => some []
  | (i, x) :: r => match ev x, partsA ev r with
    | some v, some vs => some ((i, v) :: vs)
    | _, _ => none
theorem partsA_rel {M : Mod} {ev : Operand → Option V} {evr : Operand → Value} (h : ∀ x v, ev x = some v → VRel M v (evr x)) : ∀ {ps : List (Nat × Operand)} {vs : List (Nat × V)}, partsA ev ps = some vs →
    (ps.map fun p => (p.1, evr p.2)).map (·.1) = vs.map (·.1) ∧ VRels M (vs.map (·.2)) ((ps.map fun p => (p.1, evr p.2)).map (·.2))
  | [], vs, he => by simp [partsA] at he; subst he; simp [VRels]
  | (i, x) :: r, vs, he => by
    simp only [partsA] at he
    split at he
    · rename_i v vs' h1 h2
      cases he
      obtain ⟨a, b⟩ := partsA_rel h h2
      refine ⟨by simp at a; simp [a], ?_⟩
      simp only [List.map_cons, VRels]
      exact ⟨h x v h1, b⟩
    · cases he
def placesA (tb : Nat → Option TI) : List Field → Option (List (Nat × Nat))
  | [] => some []
  | f :: r => match tb f.type, placesA tb r with
    | some ti, some l => some ((f.offset, ti.size) :: l)
    | _, _ => none
theorem run_placesA {P : Program} {tb : Nat → Option TI} (hT : TbOk P tb) (w : World) : ∀ {fs : List Field} {l : List (Nat × Nat)}, placesA tb fs = some l →
    (fs.mapM fun f => (do pure (f.offset, ← sizeOf f.type) : Sem (Nat × Nat))).run P w = .ok l w
  | [], l, h => by simp [placesA] at h; subst h; simp
  | f :: r, l, h => by
    simp only [placesA] at h
    split at h
    · rename_i ti l' h1 h2
      cases h
      have := run_placesA hT w h2
      simp only [List.mapM_cons, Sem.run_bind, (hT.is h1).size w, Result.andThen_ok, Sem.run_pure, this]
    · cases h
def buildA (tb : Nat → Option TI) (t : Nat) (parts : List (Nat × V)) : Option V :=
  match tb t with
  | none => none
  | some ti => match ti.d with
    | .struct fs => (match placesA tb fs.toList with
      | some pl => (match fillA (fun i => pl[i]?) ti.zero parts with
        | some cells => some (.agg cells)
        | none => none)
      | none => none)
    | .array _ e => (match tb e with
      | some te => (match fillA (fun i => some (i * te.size, te.size)) ti.zero parts with
        | some cells => some (.agg cells)
        | none => none)
      | none => none)
    | _ => none
theorem run_buildA {P : Program} {tb : Nat → Option TI} (hT : TbOk P tb) {M : Mod} {t : Nat} {parts : List (Nat × V)} {v : V} (h : buildA tb t parts = some v) {PS : Array (Nat × Value)} (h1 : PS.toList.map (·.1) = parts.map (·.1))
    (h2 : VRels M (parts.map (·.2)) (PS.toList.map (·.2))) (w : World) : ∃ z, (Instr.build t PS).run P w = .ok z w ∧ VRel M v z := by
  unfold buildA at h
  split at h
  · cases h
  rename_i ti ht
  have us := (hT.is ht).runUnd w
  obtain ⟨z, hz, hzv⟩ := (hT.is ht).zero
  have hc := (hzv M).cells
  split at h <;> first | (cases h; done) | skip
  · rename_i fs hd
    rw [hd] at us
    split at h <;> first | (cases h; done) | skip
    rename_i pl hpl
    split at h <;> first | (cases h; done) | skip
    rename_i cells hf
    cases h
    obtain ⟨R, hR, hv⟩ := run_fillA parts PS.toList ti.zero z.cells cells hf hc h1 h2
    have hp := run_placesA (P := P) hT w hpl
    refine ⟨.agg R, ?_, by simp only [VRel]; exact ⟨R, rfl, hv⟩⟩
    have hm : (fs.mapM fun f => (do pure (f.offset, ← sizeOf f.type) : Sem (Nat × Nat))).run P w = .ok pl.toArray w := by
      have e : (fs.mapM fun f => (do pure (f.offset, ← sizeOf f.type) : Sem (Nat × Nat))) = List.toArray <$> (fs.toList.mapM fun f => (do pure (f.offset, ← sizeOf f.type) : Sem (Nat × Nat))) := by
        rw [Array.mapM_eq_mapM_toList]
      rw [e]
      simp only [Sem.run_map, hp]
      rfl
    have hfe : (fun (i : Nat) => pl.toArray[i]?) = (fun (i : Nat) => pl[i]?) := by funext i; simp
    simp only [Instr.build, Sem.run_bind, hz, us, Result.andThen_ok, hm]
    rw [hfe, hR]
    simp
  · rename_i n e hd
    rw [hd] at us
    split at h <;> first | (cases h; done) | skip
    rename_i te he
    split at h <;> first | (cases h; done) | skip
    rename_i cells hf
    cases h
    obtain ⟨R, hR, hv⟩ := run_fillA parts PS.toList ti.zero z.cells cells hf hc h1 h2
    refine ⟨.agg R, ?_, by simp only [VRel]; exact ⟨R, rfl, hv⟩⟩
    simp [Instr.build, hz, us, (hT.is he).size w, hR]
def rep (n : Nat) (l : List V) : List V :=
  match n with
  | 0 => []
  | n + 1 => l ++ rep n l
theorem rep_length (l : List V) : ∀ n, (rep n l).length = n * l.length
  | 0 => by simp [rep]
  | n + 1 => by simp [rep, rep_length l n, Nat.succ_mul]; omega
theorem rep_get (l : List V) (hl : 0 < l.length) : ∀ (n j : Nat), j < n * l.length → (rep n l)[j]? = l[j % l.length]?
  | 0, j, h => by simp at h
  | n + 1, j, h => by
    simp only [rep]
    by_cases hj : j < l.length
    · rw [List.getElem?_append_left hj, Nat.mod_eq_of_lt hj]
    · rw [List.getElem?_append_right (by omega), rep_get l hl n (j - l.length) (by rw [Nat.succ_mul] at h; omega)]
      congr 1
      rw [← Nat.mod_eq_sub_mod (by omega)]
theorem rel_rep {M : Mod} {zs : List V} {Z : Array Value} (h : VRels M zs Z.toList) (n : Nat) : VRels M (rep n zs) ((Array.range (n * Z.size)).map (fun i => Z[i % Z.size]!)).toList := by
  have hl : zs.length = Z.size := by have := h.length; simpa using this
  refine VRels.of_get (by simp [rep_length, hl]) fun j x y hx hy => ?_
  have hj : j < n * zs.length := by
    have := (List.getElem?_eq_some_iff.1 hx).1; rw [rep_length] at this; exact this
  have hz : 0 < zs.length := by
    rcases Nat.eq_zero_or_pos zs.length with h0 | h0
    · rw [h0] at hj; simp at hj
    · exact h0
  rw [rep_get zs hz n j hj] at hx
  obtain ⟨y', hy', hv⟩ := h.get hx
  have hm : j % zs.length < Z.size := by rw [← hl]; exact Nat.mod_lt _ hz
  have : Z[j % Z.size]! = y' := by
    rw [← hl]
    rw [getElem!_pos Z _ hm]
    have : Z[j % zs.length]? = some y' := by simpa using hy'
    rw [Array.getElem?_eq_getElem hm] at this
    simpa using this
  simp only [Array.toList_map, Array.toList_range, List.getElem?_map] at hy
  rw [List.getElem?_range (by rw [← hl]; exact hj)] at hy
  simp only [Option.map_some, Option.some.injEq] at hy
  rw [← hy, this]; exact hv
def buildSliceA (tb : Nat → Option TI) (h : Hp) (t n : Nat) (parts : List (Nat × V)) : Option (V × Hp) :=
  match tb t with
  | none => none
  | some ti => match ti.d with
    | .slice e => (match tb e with
      | some te => if n * te.size ≤ 16777216 ∧ 0 < te.size ∧ te.zero.length = te.size then (match fillA (fun i => some (i * te.size, te.size)) (rep n te.zero) parts with
        | some cells => some (.sl h.n 0 n (some n) te.size, h.push (.blk (2 * e) cells true))
        | none => none) else none
      | none => none)
    | _ => none
theorem fillA_length {place : Nat → Option (Nat × Nat)} : ∀ (parts : List (Nat × V)) (cells r : List V), fillA place cells parts = some r → r.length = cells.length
  | [], cells, r, h => by simp [fillA] at h; subst h; rfl
  | (i, v) :: rest, cells, r, h => by
    simp only [fillA] at h
    split at h
    · cases h
    split at h
    · cases h
    rw [fillA_length rest _ r h, length_setAll]
theorem run_buildSliceA {P : Program} {tb : Nat → Option TI} (hT : TbOk P tb) {M : Mod} {B : Base} {h h' : Hp} {w : World} (H : HRel M B h w) {t n : Nat} {parts : List (Nat × V)} {v : V} (hb : buildSliceA tb h t n parts = some (v, h'))
    {PS : Array (Nat × Value)} (h1 : PS.toList.map (·.1) = parts.map (·.1)) (h2 : VRels M (parts.map (·.2)) (PS.toList.map (·.2))) :
    ∃ M' w' z, (Instr.buildSlice t n PS).run P w = .ok z w' ∧ M.le M' ∧ HRel M' B h' w' ∧ VRel M' v z := by
  unfold buildSliceA at hb
  split at hb
  · cases hb
  rename_i ti ht
  have us := (hT.is ht).runUnd w
  split at hb <;> first | (cases hb; done) | skip
  rename_i e hd
  rw [hd] at us
  split at hb <;> first | (cases hb; done) | skip
  rename_i te he
  split at hb <;> first | (cases hb; done) | skip
  rename_i hc
  split at hb <;> first | (cases hb; done) | skip
  rename_i cells hf
  cases hb
  obtain ⟨Z, hz, hzv⟩ := (hT.is he).zero
  have hZ := (hzv M).cells
  have hZl : Z.cells.size = te.size := by have := hZ.length; simp at this; rw [← this]; exact hc.2.2
  have hrep := rel_rep (M := M) hZ n
  rw [hZl] at hrep
  obtain ⟨R, hR, hv⟩ := run_fillA parts PS.toList _ _ cells hf hrep h1 h2
  have hfr := H.fresh e (tag := 2 * e) (by omega) hv
  have hlen : cells.length = n * te.size := by
    rw [fillA_length parts _ cells hf, rep_length]; congr 1; exact hc.2.2
  have hRs : cells.length = R.size := by have := hv.length; simpa using this
  refine ⟨M.push w.heap.size 0 cells.length R.size, { w with heap := w.heap.push (.cells R e) }, .slice (some ⟨w.heap.size, 0, none⟩) n n, ?_, M.le_push H.okM _ _ _ _, hfr, ?_⟩
  · have hk : ¬ (n * te.size > 2 ^ 24) := by omega
    have e0 : ∀ f : Nat → Value, Array.map f (Array.range 0) = #[] := fun f => by simp
    simp only [Instr.buildSlice, Sem.run_bind, us, (hT.is he).size w, Result.andThen_ok, hk, if_false]
    by_cases h0 : n * te.size = 0
    · rw [h0, e0] at hR
      simp only [h0, if_true, e0, hR]
      simp [newRow]
    · simp only [h0, if_false, hz, Result.andThen_ok, Sem.run_bind, Sem.run_pure, hZl, hR]
      simp [newRow]
  · have := M.push_sl w.heap.size 0 cells.length R.size 0 n n te.size (Nat.le_refl _) (by omega) (by omega)
    rw [H.n] at this
    simpa using this
def makeSliceA (tb : Nat → Option TI) (h : Hp) (t : Nat) (n c : V) : Option (V × Hp) :=
  match tb t, n, c with
  | some ti, .i .i64 n, .i .i64 c => (match ti.d with
    | .slice e => (match tb e with
      | some te => if 0 ≤ n ∧ n ≤ c ∧ c ≤ 9223372036854775807 ∧ te.bytes * c ≤ 281474976710656 ∧ te.zero.length = te.size then some (.sl h.n 0 n.toNat (some c.toNat) te.size, h.push (.blk (2 * e) (rep c.toNat te.zero) true)) else none
      | none => none)
    | _ => none)
  | _, _, _ => none
theorem wrap_i64 {n : Int} (h0 : 0 ≤ n) (h1 : n ≤ 9223372036854775807) : IntKind.i64.wrap n = n := by
  have e1 : (2 ^ IntKind.i64.bits : Int) = 18446744073709551616 := by decide
  have e2 : (2 ^ (IntKind.i64.bits - 1) : Int) = 9223372036854775808 := by decide
  have e3 : n % 18446744073709551616 = n := Int.emod_eq_of_lt h0 (by omega)
  unfold IntKind.wrap
  simp only [e1, e2, e3]
  have : ¬ (n ≥ 9223372036854775808) := by omega
  simp [this]
theorem run_makeSliceA {P : Program} {tb : Nat → Option TI} (hT : TbOk P tb) {M : Mod} {B : Base} {h h' : Hp} {w : World} (H : HRel M B h w) {t : Nat} {n c v : V} {X Y : Value} (hb : makeSliceA tb h t n c = some (v, h'))
    (hx : VRel M n X) (hy : VRel M c Y) : ∃ M' w' z, (Instr.makeSlice t X Y).run P w = .ok z w' ∧ M.le M' ∧ HRel M' B h' w' ∧ VRel M' v z := by
  unfold makeSliceA at hb
  split at hb <;> first | (cases hb; done) | skip
  rename_i ti n c ht
  have us := (hT.is ht).runUnd w
  split at hb <;> first | (cases hb; done) | skip
  rename_i e hd
  rw [hd] at us
  split at hb <;> first | (cases hb; done) | skip
  rename_i te he
  split at hb <;> first | (cases hb; done) | skip
  rename_i hc
  cases hb
  simp only [VRel] at hx hy; subst hx; subst hy
  obtain ⟨Z, hz, hzv⟩ := (hT.is he).zero
  have hZ := (hzv M).cells
  have hZl : Z.cells.size = te.size := by have := hZ.length; simp at this; rw [← this]; exact hc.2.2.2.2
  have hrep := rel_rep (M := M) hZ c.toNat
  rw [hZl] at hrep
  have hfr := H.fresh e (tag := 2 * e) (by omega) hrep
  obtain ⟨i, z0, ri, hi1, hi2, _⟩ := (hT.is he).runInfo
  have hlen : (rep c.toNat te.zero).length = c.toNat * te.size := by rw [rep_length, hc.2.2.2.2]
  refine ⟨_, _, .slice (some ⟨w.heap.size, 0, none⟩) n.toNat c.toNat, ?_, M.le_push H.okM _ _ _ _, hfr, ?_⟩
  · have w1 := wrap_i64 hc.1 (by omega)
    have w2 := wrap_i64 (n := c) (by omega) hc.2.2.1
    have k1 : ¬ (c < 0) := by omega
    have k2 : ¬ ((te.bytes : Int) * c > 2 ^ 48) := by have := hc.2.2.2.1; omega
    have k3 : ¬ (n < 0) := by omega
    have k4 : ¬ (n > c) := by omega
    simp only [Instr.makeSlice, Sem.run_bind, us, Result.andThen_ok, asInt, asIntOf, Sem.run_pure, ri, hi2, w1, w2, k1, k2, k3, k4, decide_false, Bool.or_false, Bool.false_eq_true, if_false, run_askRoom, (hT.is he).size w]
    have e0 : ∀ f : Nat → Value, Array.map f (Array.range 0) = #[] := fun f => by simp
    by_cases h0 : c.toNat * te.size = 0
    · simp only [h0, if_true, e0]
      simp [newRow]
    · simp only [h0, if_false, Sem.run_bind, hz, Result.andThen_ok, Sem.run_pure, hZl]
      simp [newRow]
  · have := M.push_sl w.heap.size 0 (rep c.toNat te.zero).length (Array.map (fun i => Z.cells[i % te.size]!) (Array.range (c.toNat * te.size))).size 0 n.toNat c.toNat te.size (by omega) (by omega) (by simp; omega)
    rw [H.n] at this
    simpa [TI.zero] using this
end Go.Mx
