/- The abstract machine: append, copy. -/
import Derived.Laws.Append
import Derived.Test.YtedekdoelkdniaaGreatDoorKb
set_option linter.all false
namespace Go.Mx
def srcA (tb : Nat → Option TI) (h : Hp) (xT : Nat) (te : TI) (x : V) : Option (Nat × List V) :=
  match tb xT with
  | none => none
  | some xi => match xi.d, x with
    | .int _, .i .i64 n => if 0 ≤ n ∧ n ≤ 9223372036854775807 ∧ n * te.bytes ≤ 281474976710656 then some (n.toNat, rep n.toNat te.zero) else none
    | .slice _, .nils => some (0, [])
    | .slice _, .se _ _ => some (0, [])
    | .slice _, .sl b o n _ z => if n = 0 then some (0, []) else if z = te.size then (match h.get b with
      | some (.blk _ cells _) => if o + n * z ≤ cells.length then some (n, (cells.drop o).take (n * z)) else none
      | _ => none) else none
    | .string, .s l => if te.size = 1 then some (l.length, l.map fun c => .i .u8 c.toNat) else none
    | _, _ => none
inductive Src (P : Program) (w : World) (xT e size : Nat) (X : Value) (n : Nat) (new : Array Value) : Prop
  | ints (k : IntKind) (m : Int) (ud : ∀ w, (underlying xT).run P w = .ok (.int k) w) (hX : X = .int .i64 m) (h0 : 0 ≤ m) (h1 : m ≤ 9223372036854775807) (h2 : m.toNat = n)
      (hi : ∃ i : TypeInfo, (∀ w, (typeInfo e).run P w = .ok i w) ∧ m * i.bytes ≤ 281474976710656)
      (hz : ∃ z, (∀ w, (zeroValue e).run P w = .ok z w) ∧ new = Builtin.zeroCells z.cells n) (hn : n * size = 0 → new = #[]) : Src P w xT e size X n new
  | other (d : TypeDesc) (ud : ∀ w, (underlying xT).run P w = .ok d w) (hni : (d matches .int _) = false) (hl : ∀ w, (Builtin.lenOf X).run P w = .ok n w)
      (hf : ∀ dr, (Builtin.firstCells size n X).run P { w with drawn := dr } = .ok new { w with drawn := dr }) : Src P w xT e size X n new
theorem rep_zeroCells {M : Mod} {zs : List V} {Z : Array Value} (h : VRels M zs Z.toList) (n : Nat) : VRels M (rep n zs) (Builtin.zeroCells Z n).toList := rel_rep h n
theorem run_srcA {P : Program} {tb : Nat → Option TI} (hT : TbOk P tb) {M : Mod} {B : Base} {h : Hp} {w : World} (H : HRel M B h w) {xT e n : Nat} {te : TI} (he : tb e = some te) (hzl : te.zero.length = te.size) {x : V} {xs : List V} {X : Value}
    (hs : srcA tb h xT te x = some (n, xs)) (hx : VRel M x X) : ∃ new : Array Value, Src P w xT e te.size X n new ∧ VRels M xs new.toList ∧ xs.length = n * te.size := by
  unfold srcA at hs
  split at hs
  · cases hs
  rename_i xi hxi
  have us := (hT.is hxi).runUnd
  obtain ⟨z, hz, hzv⟩ := (hT.is he).zero
  have hZ := (hzv M).cells
  obtain ⟨i, z0, ri, hi1, hi2, _⟩ := (hT.is he).runInfo
  split at hs <;> first | (cases hs; done) | skip
  · rename_i k m hd
    rw [hd] at us
    split at hs <;> first | (cases hs; done) | skip
    rename_i hc
    cases hs
    simp only [VRel] at hx; subst hx
    have hl : (rep m.toNat te.zero).length = m.toNat * te.size := by rw [rep_length, hzl]
    have hv := rep_zeroCells hZ m.toNat
    refine ⟨_, .ints k m us rfl hc.1 hc.2.1 rfl ⟨i, ri, by rw [hi2]; exact hc.2.2⟩ ⟨z, hz, rfl⟩ (fun h0 => ?_), hv, hl⟩
    have hvl := hv.length
    rw [show te.zv.cells = te.zero from rfl, hl, h0] at hvl
    exact Array.eq_empty_of_size_eq_zero (by simpa using hvl.symm)
  · rename_i e' hd
    rw [hd] at us
    cases hs
    simp only [VRel] at hx; subst hx
    exact ⟨#[], .other _ us rfl (fun w => by simp [Builtin.lenOf]) (fun dr => by simp [Builtin.firstCells]), by simp [VRels], by simp⟩
  · rename_i e' b z hd
    rw [hd] at us
    cases hs
    simp only [VRel] at hx
    obtain ⟨_, o, c, rfl, _⟩ := hx
    exact ⟨#[], .other _ us rfl (fun w => by simp [Builtin.lenOf]) (fun dr => by simp [Builtin.firstCells, loadCells, loadCellsFrom]), by simp [VRels], by simp⟩
  · rename_i e' b o m cap z' hd
    rw [hd] at us
    by_cases hm0 : m = 0
    · rw [if_pos hm0] at hs
      cases hs
      subst hm0
      simp only [VRel] at hx
      obtain ⟨_, c, rfl, _⟩ := hx
      exact ⟨#[], .other _ us rfl (fun w => by simp [Builtin.lenOf]) (fun dr => by simp [Builtin.firstCells, loadCells, loadCellsFrom]), by simp [VRels], by simp⟩
    rw [if_neg hm0] at hs
    split at hs <;> first | (cases hs; done) | skip
    rename_i hz'
    split at hs <;> first | (cases hs; done) | skip
    rename_i ty cells rw_ hg
    split at hs <;> first | (cases hs; done) | skip
    rename_i hle
    cases hs
    subst hz'
    simp only [VRel] at hx
    obtain ⟨hb, c, rfl, _⟩ := hx
    obtain ⟨cs, fr, a1, a2, a3, a4, a5, a6, a7, a8⟩ := H.blk b _ hg hb
    have hr := ((VRels.of_block a5 (by omega)).drop o).take (n * te.size)
    have e2 : List.take (n * te.size) (List.drop o (List.take cells.length (List.drop (M.bas b) cs.toList))) = List.take (n * te.size) (List.drop (M.bas b + o) cs.toList) := by
      rw [List.drop_take, List.drop_drop, List.take_take]
      congr 1; omega
    rw [e2] at hr
    refine ⟨((cs.toList.drop (M.bas b + o)).take (n * te.size)).toArray, .other _ us rfl (fun w => by simp [Builtin.lenOf]) (fun dr => ?_), by simpa using hr, by simp; omega⟩
    have := run_loadCells_block (P := P) (w := { w with drawn := dr }) a1 (M.bas b + o) (n * te.size) (by omega)
    simp only [Builtin.firstCells, this]
  · rename_i l hd
    rw [hd] at us
    split at hs <;> first | (cases hs; done) | skip
    rename_i h1
    cases hs
    simp only [VRel] at hx; subst hx
    have e1 : (ByteArray.mk l.toArray).size = l.length := by simp [ByteArray.size]
    have e2 : (ByteArray.mk l.toArray).extract 0 l.length = ⟨l.toArray⟩ := by rw [bytes_extract]; simp
    refine ⟨(l.map fun c => Value.int .u8 c.toNat).toArray, .other _ us rfl (fun w => by simp [Builtin.lenOf, e1]) (fun dr => ?_), ?_, by simp [h1]⟩
    · simp only [Builtin.firstCells, e2]; simp
    · refine VRels.of_get (by simp) fun j x y hx hy => ?_
      simp at hx hy
      obtain ⟨c, hc, rfl⟩ := hx
      obtain ⟨c', hc', rfl⟩ := hy
      rw [hc] at hc'; cases hc'
      simp [VRel]
set_option maxHeartbeats 2000000 in
theorem run_append_room {P : Program} {w w' : World} {sT xT e size n sLen sCap : Nat} {ty : Nat} {X : Value} {new : Array Value} {base : Option Addr} (us : ∀ w, (underlying sT).run P w = .ok (.slice e) w) (hsz : ∀ w, (sizeOf e).run P w = .ok size w)
    (hS : Src P w xT e size X n new) (hr : sLen + n ≤ sCap) (hst : (match base with | none => w' = w | some a => (storeCells (a.add (sLen * size)) new.toList).run P w = .ok () w')) :
    (Builtin.append_ #[sT, xT] ty #[.slice base sLen sCap, X]).run P w = .ok (.slice base (sLen + n) sCap) w' := by
  cases hS with
  | ints k m ud hX h0 h1 h2 hi hz hn =>
    subst hX
    obtain ⟨i, ri, hi⟩ := hi
    obtain ⟨z, hz, hnew⟩ := hz
    have w1 := wrap_i64 h0 h1
    have k1 : ¬ (m < 0) := by omega
    have k2 : ¬ (281474976710656 < m * (i.bytes : Int)) := by omega
    by_cases e0 : n * size = 0
    · have hn' := hn e0
      subst hn'
      cases base with
      | none => simp at hst; subst hst; simp [Builtin.append_, us, hsz, ud, asInt, asIntOf, w1, k1, k2, ri, h2, hr, e0]
      | some a => simp [storeCells] at hst; subst hst; simp [Builtin.append_, us, hsz, ud, asInt, asIntOf, w1, k1, k2, ri, h2, hr, e0, storeCells]
    · cases base with
      | none => simp at hst; subst hst; simp [Builtin.append_, us, hsz, ud, asInt, asIntOf, w1, k1, k2, ri, h2, hr, hz]
      | some a => simp [hnew] at hst; simp [Builtin.append_, us, hsz, ud, asInt, asIntOf, w1, k1, k2, ri, h2, hr, e0, hz, hst]
  | other d ud hni hl hf =>
    have hf' : (Builtin.firstCells size n X).run P w = .ok new w := hf w.drawn
    cases base with
    | none => simp at hst; subst hst; cases d <;> first | (cases hni; done) | simp [Builtin.append_, us, hsz, ud, hl, hr, hf']
    | some a => simp at hst; cases d <;> first | (cases hni; done) | simp [Builtin.append_, us, hsz, ud, hl, hr, hf', hst]
set_option maxHeartbeats 2000000 in
theorem run_append_grows {P : Program} {w : World} {sT xT e size n sLen sCap : Nat} {ty : Nat} {X : Value} {new old : Array Value} {base : Option Addr} {bytes : Nat} (us : ∀ w, (underlying sT).run P w = .ok (.slice e) w) (hsz : ∀ w, (sizeOf e).run P w = .ok size w)
    (hS : Src P w xT e size X n new) (hr : sCap < sLen + n) (hby : ∃ i : TypeInfo, (∀ w, (typeInfo e).run P w = .ok i w) ∧ i.bytes = bytes) (hfit : (sLen + n) * bytes ≤ 140737488355328) (h63 : sLen + n ≤ 9223372036854775807)
    {Z : Value} (hz : ∀ w, (zeroValue e).run P w = .ok Z w) (hold : (Builtin.firstCells size sLen (.slice base sLen sCap)).run P w.drew = .ok old w.drew) :
    ∃ cap, sLen + n ≤ cap ∧ (Builtin.append_ #[sT, xT] ty #[.slice base sLen sCap, X]).run P w =
      .ok (.slice (some ⟨w.heap.size, 0, none⟩) (sLen + n) cap) (w.drew.alloc (.cells (old ++ new ++ Builtin.zeroCells Z.cells (cap - (sLen + n))) e)) := by
  obtain ⟨i, ri, hi⟩ := hby
  have hn : ¬ (sLen + n ≤ sCap) := by omega
  have hfit' := growslice_fits hr hfit
  have h48 : ¬ (281474976710656 < Builtin.nextslicecap (sLen + n) sCap * i.bytes) := by rw [hi]; omega
  have h63' : ¬ (9223372036854775807 < (sLen : Int) + (n : Int)) := by omega
  refine ⟨(Question.appendCap (sLen + n) sCap e).cut (w.tape w.drawn (.appendCap (sLen + n) sCap e)), by simp [Question.cut], ?_⟩
  clear hfit hfit'
  cases hS with
  | ints k m ud hX h0 h1 h2 hi' hz' hn' =>
    subst hX
    subst h2
    obtain ⟨i', ri', hi'⟩ := hi'
    obtain ⟨z, hz', hnew⟩ := hz'
    have hii : i' = i := by have a := ri w; have b := ri' w; rw [a] at b; cases b; rfl
    subst hii
    have hzz : z = Z := by have a := hz w; have b := hz' w; rw [a] at b; cases b; rfl
    subst hzz
    have w1 := wrap_i64 h0 h1
    have k1 : ¬ (m < 0) := by omega
    have k2 : ¬ (281474976710656 < m * (i'.bytes : Int)) := by omega
    have k3 : ¬ (9223372036854775807 < (sLen : Int) + max m 0) := by omega
    by_cases e0 : m.toNat * size = 0
    · have hn'' := hn' e0
      rw [hn'']
      simp only [Builtin.append_]
      simp [us, hsz, ud, asInt, asIntOf, w1, k1, k2, k3, ri, hn, e0, h48, hold, hz, newRow, Question.forced]
    · subst hnew
      simp only [Builtin.append_]
      simp [us, hsz, ud, asInt, asIntOf, w1, k1, k2, k3, ri, hn, e0, h48, hold, hz, newRow, Question.forced]
  | other d ud hni hl hf =>
    have hf' : (Builtin.firstCells size n X).run P w.drew = .ok new w.drew := hf (w.drawn + 1)
    simp only [Builtin.append_]
    cases d <;> first | (cases hni; done) | simp [us, hsz, ud, hl, hn, ri, h63', h48, hold, hf', hz, newRow, Question.forced]
end Go.Mx

namespace Go.Mx
def fitsA (te : TI) (n : Nat) : Bool := decide (n * te.bytes ≤ 140737488355328) && decide (n ≤ 9223372036854775807)
def growA (h : Hp) (e : Nat) (te : TI) (n : Nat) (cells : List V) : Option (V × Hp) :=
  if fitsA te n = true then some (.sl h.n 0 n none te.size, h.push (.blk (2 * e + 1) cells true)) else none
def appendB (h : Hp) (e : Nat) (te : TI) (s : V) (m : Nat) (xs : List V) : Option (V × Hp) :=
  match s with
  | .nils => growA h e te m xs
  | .sl b o n cap z => if z = te.size then (match h.get b with
    | some (.blk ty cells rw) =>
      (match cap with
      | some k => if n + m ≤ k then (if rw = true ∧ o + (n + m) * z ≤ cells.length then some (.sl b o (n + m) cap z, h.set b (.blk ty (setAll cells (o + n * z) xs) true)) else none)
        else growA h e te (n + m) ((cells.drop o).take (n * z) ++ xs)
      | none => if o + (n + m) * z ≤ cells.length then (if rw = true then some (.sl b o (n + m) cap z, h.set b (.blk ty (setAll cells (o + n * z) xs) true)) else none)
        else if rw = true ∧ ty / 2 = e then growA (h.set b .dead) e te (n + m) ((cells.drop o).take (n * z) ++ xs) else none)
    | _ => none) else none
  | .se b z => if z = te.size then (match h.get b with
    | some (.blk ty _ rw) => if rw = true ∧ ty / 2 = e then growA (h.set b .dead) e te m xs else none
    | _ => none) else none
  | _ => none
def sliceLike : V → Bool
  | .nils => true
  | .sl _ _ _ _ _ => true
  | .se _ _ => true
  | _ => false
def appendA (tb : Nat → Option TI) (h : Hp) (sT xT : Nat) (s x : V) : Option (V × Hp) :=
  match tb sT with
  | none => none
  | some si => match si.d with
    | .slice e => (match tb e with
      | none => none
      | some te => if te.zero.length = te.size ∧ 0 < te.size then (match srcA tb h xT te x with
        | none => none
        | some (m, xs) => if m = 0 then (if sliceLike s = true then some (s, h) else none) else if xs.all V.one = true then appendB h e te s m xs else none) else none)
    | _ => none
theorem HRel.adopt {M : Mod} {B : Base} {h : Hp} {w : World} (H : HRel M B h w) {r bas siz ty : Nat} {cs : Array Value} {fr : Nat × Nat} (hr : w.heap[r]? = some (.cells cs ty fr)) (hb : bas + siz ≤ cs.size)
    (hw : B.w0.heap.size ≤ r ∨ B.wr r) (hfz : ∀ o, bas ≤ o → ¬ (fr.1 ≤ o ∧ o < fr.2)) (cs' : List V) (hl : cs'.length ≤ siz) (hc : ∀ (j : Nat) (v : V), cs'[j]? = some v → ∃ y, cs[bas + j]? = some y ∧ VRel M v y)
    (hsep : ∀ id ob, h.get id = some ob → M.ok id → ob.live = true → M.blk id ≠ r) : HRel (M.push r bas cs'.length siz) B (h.push (.blk (2 * ty + 1) cs' true)) w := by
  have hle := M.le_push H.okM r bas cs'.length siz
  have hMn := H.n
  have pb : ∀ i, i ≠ h.n → (M.push r bas cs'.length siz).blk i = M.blk i := fun i hi => by simp [Mod.push, hMn, hi]
  have pb2 : (M.push r bas cs'.length siz).blk h.n = r := by simp [Mod.push, hMn]
  have hoks : ∀ id, (M.push r bas cs'.length siz).ok id → id ≠ h.n → M.ok id := fun id hk e => by
    rcases hk with hk | hk
    · exact absurd (hk.trans hMn) e
    · exact hk.2
  refine ⟨by simp [Mod.push, hMn], H.os, H.tape, H.output, H.size, H.old, ?_, ?_, ?_, ?_⟩
  · intro id ob hi
    by_cases e : id = h.n
    · subst e; simp
    · rw [Hp.get_push_ne _ _ e] at hi
      have := H.lt id ob hi; simp; omega
  · intro id hk
    by_cases e : id = h.n
    · subst e; simp
    · have := H.okn id (hoks id hk e); simp; omega
  · intro id ob hi hk
    by_cases e : id = h.n
    · subst e
      rw [Hp.get_push_self] at hi; cases hi
      refine ⟨cs, fr, by rw [pb2, show (2 * ty + 1) / 2 = ty by omega]; exact hr, by simp [Mod.push, hMn], by simp [Mod.push, hMn]; omega, by simp [Mod.push, hMn]; omega, ?_, ?_, fun h => by omega, fun h => by cases h⟩
      · intro j v hj
        obtain ⟨y, hy, hv⟩ := hc j v hj
        exact ⟨y, by simp [Mod.push, hMn]; exact hy, hv.mono hle⟩
      · intro _
        refine ⟨by rw [pb2]; exact hw, fun q hq => hfz q ?_⟩
        simp [Mod.push, hMn] at hq; omega
    · rw [Hp.get_push_ne _ _ e] at hi
      exact (H.blk id ob hi (hoks id hk e)).mono hle.toLe0 (hoks id hk e) fun _ => rfl
  · intro id id' ob ob' hne hi hi' hk hk' hl hl' hrr
    by_cases e : id = h.n
    · have e' : id' ≠ h.n := fun x => hne (e.trans x.symm)
      rw [Hp.get_push_ne _ _ e'] at hi'
      rw [e, pb2, pb _ e']
      exact fun x => hsep id' ob' hi' (hoks id' hk' e') hl' x.symm
    · rw [Hp.get_push_ne _ _ e] at hi
      by_cases e' : id' = h.n
      · rw [e', pb2, pb _ e]
        exact hsep id ob hi (hoks id hk e) hl
      · rw [Hp.get_push_ne _ _ e'] at hi'
        rw [pb _ e, pb _ e']
        exact H.sep id id' ob ob' hne hi hi' (hoks id hk e) (hoks id' hk' e') hl hl' hrr
theorem HRel.raw {M : Mod} {B : Base} {h : Hp} {w w' : World} (H : HRel M B h w) {r : Nat} (hw : B.w0.heap.size ≤ r ∨ B.wr r) (hsep : ∀ id ob, h.get id = some ob → M.ok id → ob.live = true → M.blk id ≠ r)
    (h1 : w'.os = w.os) (h2 : w'.tape = w.tape) (h3 : w'.output = w.output) (h4 : w'.heap.size = w.heap.size) (h5 : ∀ k, k ≠ r → w'.heap[k]? = w.heap[k]?) : HRel M B h w' := by
  refine ⟨H.n, h1.trans H.os, h2.trans H.tape, h3.trans H.output, by rw [h4]; exact H.size, fun k hk hn => ?_, H.lt, H.okn, fun id ob hi hk => ?_, H.sep⟩
  · rw [h5 k (fun e => ?_)]
    · exact H.old k hk hn
    · subst e
      rcases hw with hw | hw
      · omega
      · exact hn hw
  · exact (H.blk id ob hi hk).mono (Mod.le0.refl M) hk fun hl => h5 _ (hsep id ob hi hk hl)
theorem stores_raw {P : Program} {r ty : Nat} {fr : Nat × Nat} (o : Nat) : ∀ (ys : List Value) (i : Nat) (cs : Array Value) (w : World), w.heap[r]? = some (.cells cs ty fr) → o + i + ys.length ≤ cs.size → (∀ q, o ≤ q → ¬ (fr.1 ≤ q ∧ q < fr.2)) →
    (∀ y ∈ ys, y.oneCell' = true) → ∃ w' cs', (storeCells ⟨r, o, none⟩ ys i).run P w = .ok () w' ∧ w'.heap[r]? = some (.cells cs' ty fr) ∧ cs'.size = cs.size ∧ (∀ j, j < ys.length → cs'[o + i + j]? = ys[j]?) ∧
      (∀ j, j < o + i → cs'[j]? = cs[j]?) ∧ w'.os = w.os ∧ w'.tape = w.tape ∧ w'.output = w.output ∧ w'.heap.size = w.heap.size ∧ ∀ k, k ≠ r → w'.heap[k]? = w.heap[k]?
  | [], i, cs, w, h, _, _, _ => ⟨w, cs, rfl, h, rfl, fun j hj => by simp at hj, fun _ _ => rfl, rfl, rfl, rfl, rfl, fun _ _ => rfl⟩
  | y :: ys, i, cs, w, h, hl, hf, h1 => by
    simp only [List.length_cons] at hl
    have hcell : w.cell? ⟨r, o + i, none⟩ = some (cs[o + i]'(by omega)) := by rw [cell_of_row w _ _ cs ty fr h]; simp
    have hfz : w.frozen? ⟨r, o + i, none⟩ = false := by
      simp only [World.frozen?, h]
      have := hf (o + i) (by omega)
      simp; intro hx; omega
    have hst : (store ((⟨r, o, none⟩ : Addr).add i) y).run P w = .ok () (w.setCell ⟨r, o + i, none⟩ y) := by
      rw [addr_add, run_store P w _ y _ (h1 y (by simp)), hcell, hfz]; rfl
    have hsz : (w.setCell ⟨r, o + i, none⟩ y).heap.size = w.heap.size := by
      show (w.heap.modify _ _).size = _
      rw [Array.size_modify]
    obtain ⟨w', cs', r1, r2, r3, r4, r5, r6, r7, r8, r9, r10⟩ := stores_raw (P := P) o ys (i + 1) _ _ (heap_setCell_self h y) (by simp; omega) hf (fun x hx => h1 x (by simp [hx]))
    refine ⟨w', cs', ?_, r2, by simpa using r3, ?_, ?_, r6, r7, r8, r9.trans hsz, fun k hk => (r10 k hk).trans (heap_setCell_ne hk y)⟩
    · simp only [storeCells, Sem.run_bind, hst, Result.andThen_ok, r1]
    · intro j hj
      cases j with
      | zero =>
        rw [Nat.add_zero, r5 (o + i) (by omega), Array.getElem?_setIfInBounds_self_of_lt (by omega)]; rfl
      | succ j =>
        have := r4 j (by simpa using hj)
        rw [show o + i + (j + 1) = o + (i + 1) + j by omega, this]; simp
    · intro j hj
      rw [r5 j (by omega), Array.getElem?_setIfInBounds_ne (by omega)]
theorem VRels.append_arr {M : Mod} {xs ys : List V} {A C : Array Value} (h1 : VRels M xs A.toList) (h2 : VRels M ys C.toList) : VRels M (xs ++ ys) (A ++ C).toList := by
  simpa using h1.append h2
theorem HRel.freshMore {M : Mod} {B : Base} {h : Hp} {w : World} (H : HRel M B h w) (e : Nat) {cells : List V} {cs more : Array Value} (hc : VRels M cells cs.toList) :
    HRel (M.push w.heap.size 0 cells.length (cs ++ more).size) B (h.push (.blk (2 * e + 1) cells true)) (w.drew.alloc (.cells (cs ++ more) e)) := by
  have hl : cells.length = cs.size := by have := hc.length; simpa using this
  have H' : HRel M B h w.drew := H.drawn (w.drawn + 1)
  exact H'.alloc e (tag := 2 * e + 1) (by omega) cells (cs ++ more) (by simp; omega) (fun j v hj => by
    obtain ⟨y, hy, hv⟩ := hc.get hj
    refine ⟨y, ?_, hv⟩
    have hj' : j < cs.size := by have := (List.getElem?_eq_some_iff.1 hj).1; omega
    rw [Array.getElem?_append_left hj']; simpa using hy) true
theorem run_growA {P : Program} {tb : Nat → Option TI} (hT : TbOk P tb) {M : Mod} {B : Base} {h h' : Hp} {w : World} (H : HRel M B h w) {sT xT e ty n m sCap : Nat} {si te : TI} (hs : tb sT = some si) (hd : si.d = .slice e) (he : tb e = some te) (hzl : te.zero.length = te.size)
    {X : Value} {new : Array Value} (hS : Src P w xT e te.size X m new) {base : Option Addr} (hcap : sCap < n + m) {old : List V} {xs : List V} (hxs : VRels M xs new.toList) (hxl : xs.length = m * te.size)
    (hold : ∃ OLD : Array Value, (Builtin.firstCells te.size n (.slice base n sCap)).run P w.drew = .ok OLD w.drew ∧ VRels M old OLD.toList) (hol : old.length = n * te.size) {v : V} (hgr : growA h e te (n + m) (old ++ xs) = some (v, h')) :
    ∃ M' w' z, (Builtin.append_ #[sT, xT] ty #[.slice base n sCap, X]).run P w = .ok z w' ∧ M.le M' ∧ HRel M' B h' w' ∧ VRel M' v z := by
  unfold growA at hgr
  split at hgr <;> first | (cases hgr; done) | skip
  rename_i hf
  cases hgr
  simp only [fitsA, Bool.and_eq_true, decide_eq_true_eq] at hf
  have us := (hT.is hs).runUnd
  rw [hd] at us
  obtain ⟨Z, hz, hzv⟩ := (hT.is he).zero
  have hZ := (hzv M).cells
  have hZl : Z.cells.size = te.size := by have := hZ.length; simp at this; rw [← this]; exact hzl
  obtain ⟨i, z0, ri, hi1, hi2, _⟩ := (hT.is he).runInfo
  obtain ⟨OLD, ho, hov⟩ := hold
  obtain ⟨cap, hcl, hrun⟩ := run_append_grows (ty := ty) us (hT.is he).size hS hcap ⟨i, ri, hi2⟩ hf.1 hf.2 hz ho
  have hall := hov.append_arr hxs
  refine ⟨_, _, _, hrun, M.le_push H.okM _ _ _ _, H.freshMore e (more := Builtin.zeroCells Z.cells (cap - (n + m))) hall, ?_⟩
  have hsz : (OLD ++ new ++ Builtin.zeroCells Z.cells (cap - (n + m))).size = cap * te.size := by
    have a1 := hov.length
    have a2 := hxs.length
    simp only [Array.length_toList] at a1 a2
    rw [Array.size_append, Array.size_append, ← a1, ← a2, hol, hxl]
    simp only [Builtin.zeroCells, Array.size_map, Array.size_range, hZl]
    rw [← Nat.add_mul, ← Nat.add_mul]; congr 1; omega
  have hll : (old ++ xs).length = (n + m) * te.size := by rw [List.length_append, hol, hxl, Nat.add_mul]
  have hcm : (n + m) * te.size ≤ cap * te.size := Nat.mul_le_mul_right _ hcl
  rw [← H.n]
  simp only [VRel, Mod.push, hsz, hll]
  exact ⟨.inl trivial, cap, by simp, hcl, by simp, by simp, by simp; omega⟩
theorem all_one {M : Mod} : ∀ {xs : List V} {ys : List Value}, VRels M xs ys → xs.all V.one = true → ∀ y ∈ ys, y.oneCell' = true
  | [], [], _, _, y, hy => by simp at hy
  | x :: xs, y' :: ys, h, h1, y, hy => by
    simp only [VRels] at h
    simp only [List.all_cons, Bool.and_eq_true] at h1
    rcases List.mem_cons.1 hy with rfl | hy
    · exact h.1.one h1.1
    · exact all_one h.2 h1.2 y hy
  | [], _ :: _, h, _, _, _ => by simp [VRels] at h
  | _ :: _, [], h, _, _, _ => by simp [VRels] at h
theorem run_appendB {P : Program} {tb : Nat → Option TI} (hT : TbOk P tb) {M : Mod} {B : Base} {h h' : Hp} {w : World} (H : HRel M B h w) {sT xT e ty m : Nat} {si te : TI} (hs : tb sT = some si) (hd : si.d = .slice e) (he : tb e = some te) (hzl : te.zero.length = te.size) (hzp : 0 < te.size)
    {X S : Value} {new : Array Value} (hS : Src P w xT e te.size X m new) {xs : List V} (hxs : VRels M xs new.toList) (hxl : xs.length = m * te.size) (hm : m ≠ 0) (hone : xs.all V.one = true) {s v : V} (hsr : VRel M s S) (hb : appendB h e te s m xs = some (v, h')) :
    ∃ M' w' z, (Builtin.append_ #[sT, xT] ty #[S, X]).run P w = .ok z w' ∧ M.le M' ∧ HRel M' B h' w' ∧ VRel M' v z := by
  have us := (hT.is hs).runUnd
  rw [hd] at us
  have hxpos : 0 < xs.length := by rw [hxl]; exact Nat.mul_pos (by omega) hzp
  unfold appendB at hb
  split at hb
  ·
    simp only [VRel] at hsr; subst hsr
    exact run_growA hT H hs hd he hzl hS (n := 0) (base := none) (sCap := 0) (by omega) (old := []) hxs hxl ⟨#[], by simp [Builtin.firstCells], by simp [VRels]⟩ (by simp) (by simpa using hb)
  · rename_i b o n cap z
    split at hb <;> first | (cases hb; done) | skip
    rename_i hz; subst hz
    split at hb <;> first | (cases hb; done) | skip
    rename_i bty cells rw_ hg
    simp only [VRel] at hsr
    obtain ⟨hbn, c, rfl, hnc, hn, hc, hcap⟩ := hsr
    obtain ⟨cs, fr, a1, a2, a3, a4, a5, a6, a7, a8⟩ := H.blk b _ hg hbn
    have hold : ∃ OLD : Array Value, (Builtin.firstCells te.size n (.slice (some ⟨M.blk b, M.bas b + o, none⟩) n c)).run P w.drew = .ok OLD w.drew ∧ VRels M ((cells.drop o).take (n * te.size)) OLD.toList := by
      have hr := ((VRels.of_block a5 (by omega)).drop o).take (n * te.size)
      have e2 : List.take (n * te.size) (List.drop o (List.take cells.length (List.drop (M.bas b) cs.toList))) = List.take (n * te.size) (List.drop (M.bas b + o) cs.toList) := by
        rw [List.drop_take, List.drop_drop, List.take_take]
        congr 1; omega
      rw [e2] at hr
      refine ⟨((cs.toList.drop (M.bas b + o)).take (n * te.size)).toArray, ?_, by simpa using hr⟩
      have := run_loadCells_block (P := P) (w := w.drew) a1 (M.bas b + o) (n * te.size) (by omega)
      simp only [Builtin.firstCells, this]
    have hol : ((cells.drop o).take (n * te.size)).length = n * te.size := by simp; omega
    have hnm : (n + m) * te.size = n * te.size + m * te.size := Nat.add_mul _ _ _
    have room : rw_ = true → o + (n + m) * te.size ≤ cells.length → n + m ≤ c → (∀ cap', (match cap' with | some k => c = k ∧ o + k * te.size ≤ M.len b | none => M.len b ≤ o + c * te.size) →
        ∃ M' w' z, (Builtin.append_ #[sT, xT] ty #[.slice (some ⟨M.blk b, M.bas b + o, none⟩) n c, X]).run P w = .ok z w' ∧ M.le M' ∧ HRel M' B (h.set b (.blk bty (setAll cells (o + n * te.size) xs) true)) w' ∧ VRel M' (.sl b o (n + m) cap' te.size) z) := by
      intro hr hle hcm cap' hcap'
      subst hr
      obtain ⟨w', r, H'⟩ := H.setAll (P := P) hbn (j := o + n * te.size) hg (by omega) hxs hone
      refine ⟨M, w', .slice (some ⟨M.blk b, M.bas b + o, none⟩) (n + m) c, ?_, Mod.le.refl M, H', ?_⟩
      · refine run_append_room us (hT.is he).size hS hcm ?_
        simp only [addr_add]
        rw [Nat.add_assoc]; exact r
      · simp only [VRel]
        exact ⟨hbn, c, rfl, hcm, by omega, hc, hcap'⟩
    cases cap with
    | some k =>
      simp only [] at hb hcap
      split at hb
      · split at hb <;> first | (cases hb; done) | skip
        rename_i hk hrl
        cases hb
        exact room hrl.1 hrl.2 (by omega) (some k) hcap
      · rename_i hk
        exact run_growA hT H hs hd he hzl hS (by omega) hxs hxl hold hol hb
    | none =>
      simp only [] at hb hcap
      split at hb
      · rename_i hle
        split at hb <;> first | (cases hb; done) | skip
        rename_i hr
        cases hb
        have hcm : n + m ≤ c := by
          have : (n + m) * te.size ≤ c * te.size := by omega
          exact Nat.le_of_mul_le_mul_right this hzp
        exact room hr hle hcm none hcap
      · rename_i hle
        split at hb <;> first | (cases hb; done) | skip
        rename_i hrt
        obtain ⟨rfl, rfl⟩ := hrt
        by_cases hcm : n + m ≤ c
        ·
          unfold growA at hb
          split at hb <;> first | (cases hb; done) | skip
          cases hb
          have hcmz : (n + m) * te.size ≤ c * te.size := Nat.mul_le_mul_right _ hcm
          obtain ⟨w1, w2⟩ := a6 rfl
          have hyl : new.toList.length = m * te.size := by rw [← hxl]; exact hxs.length.symm
          obtain ⟨w', cs', r1, r2, r3, r4, r5, r6, r7, r8, r9, r10⟩ := stores_raw (P := P) (M.bas b + (o + n * te.size)) new.toList 0 cs w a1 (by rw [hyl]; omega) (fun q hq => w2 q (by omega)) (all_one hxs hone)
          have hdead : ∀ id ob, (h.set b .dead).get id = some ob → M.ok id → ob.live = true → M.blk id ≠ M.blk b := by
            intro id ob hi hk hl
            by_cases e : id = b
            · subst e; rw [Hp.get_set_self] at hi; cases hi; simp [Ob.live] at hl
            · rw [Hp.get_set_ne _ _ e] at hi
              exact fun x => H.sep b id _ ob (Ne.symm e) hg hi hbn hk rfl hl rfl x.symm
          have H2 := (H.set_dead b (H.lt b _ hg)).raw w1 hdead r6 r7 r8 r9 r10
          have hll : ((cells.drop o).take (n * te.size) ++ xs).length = (n + m) * te.size := by rw [List.length_append, hol, hxl, hnm]
          have H3 := H2.adopt (bas := M.bas b + o) (siz := M.siz b - o) r2 (by rw [r3]; omega) w1 (fun q hq => w2 q (by omega)) ((cells.drop o).take (n * te.size) ++ xs) (by rw [hll]; omega) (fun j v hj => ?_) hdead
          · refine ⟨_, w', .slice (some ⟨M.blk b, M.bas b + o, none⟩) (n + m) c, ?_, M.le_push H.okM _ _ _ _, H3, ?_⟩
            · refine run_append_room us (hT.is he).size hS hcm ?_
              simp only [addr_add]
              rw [Nat.add_assoc]; exact r1
            · have e1 : (h.set b .dead).n = M.n := H.n.symm
              rw [e1]
              simp only [VRel, Mod.push, hll, if_true]
              exact ⟨.inl trivial, c, by simp, hcm, by omega, by omega, by omega⟩
          · by_cases hj1 : j < n * te.size
            · rw [List.getElem?_append_left (by omega), List.getElem?_take_of_lt hj1, List.getElem?_drop] at hj
              obtain ⟨y, hy, hv⟩ := a5 _ v hj
              refine ⟨y, ?_, hv⟩
              rw [r5 _ (by omega), Nat.add_assoc]; exact hy
            · rw [List.getElem?_append_right (by omega), hol] at hj
              obtain ⟨y, hy, hv⟩ := hxs.get hj
              have hjl : j - n * te.size < new.toList.length := (List.getElem?_eq_some_iff.1 hy).1
              refine ⟨y, ?_, hv⟩
              have := r4 _ hjl
              rw [hy] at this
              rw [← this]; congr 1; omega
        · refine run_growA hT (H.set_dead b (H.lt b _ hg)) hs hd he hzl hS (by omega) hxs hxl hold hol hb
  · rename_i b z
    split at hb <;> first | (cases hb; done) | skip
    rename_i hz; subst hz
    split at hb <;> first | (cases hb; done) | skip
    rename_i bty cells rw_ hg
    split at hb <;> first | (cases hb; done) | skip
    rename_i hrt
    obtain ⟨rfl, rfl⟩ := hrt
    simp only [VRel] at hsr
    obtain ⟨hbn, o, c, rfl, hc⟩ := hsr
    obtain ⟨cs, fr, a1, a2, a3, a4, a5, a6, a7, a8⟩ := H.blk b _ hg hbn
    by_cases hcm : m ≤ c
    · unfold growA at hb
      split at hb <;> first | (cases hb; done) | skip
      cases hb
      have hcmz : m * te.size ≤ c * te.size := Nat.mul_le_mul_right _ hcm
      obtain ⟨w1, w2⟩ := a6 rfl
      have hyl : new.toList.length = m * te.size := by rw [← hxl]; exact hxs.length.symm
      obtain ⟨w', cs', r1, r2, r3, r4, r5, r6, r7, r8, r9, r10⟩ := stores_raw (P := P) (M.bas b + o) new.toList 0 cs w a1 (by rw [hyl]; omega) (fun q hq => w2 q (by omega)) (all_one hxs hone)
      have hdead : ∀ id ob, (h.set b .dead).get id = some ob → M.ok id → ob.live = true → M.blk id ≠ M.blk b := by
        intro id ob hi hk hl
        by_cases e : id = b
        · subst e; rw [Hp.get_set_self] at hi; cases hi; simp [Ob.live] at hl
        · rw [Hp.get_set_ne _ _ e] at hi
          exact fun x => H.sep b id _ ob (Ne.symm e) hg hi hbn hk rfl hl rfl x.symm
      have H2 := (H.set_dead b (H.lt b _ hg)).raw w1 hdead r6 r7 r8 r9 r10
      have H3 := H2.adopt (bas := M.bas b + o) (siz := M.siz b - o) r2 (by rw [r3]; omega) w1 (fun q hq => w2 q (by omega)) xs (by rw [hxl]; omega) (fun j v hj => ?_) hdead
      · refine ⟨_, w', .slice (some ⟨M.blk b, M.bas b + o, none⟩) (0 + m) c, ?_, M.le_push H.okM _ _ _ _, H3, ?_⟩
        · refine run_append_room us (hT.is he).size hS (by omega) ?_
          simp only [addr_add, Nat.zero_mul, Nat.add_zero]
          exact r1
        · have e1 : (h.set b .dead).n = M.n := H.n.symm
          rw [e1]
          simp only [VRel, Mod.push, hxl, if_true, Nat.zero_add]
          exact ⟨.inl trivial, c, by simp, hcm, by omega, by omega, by omega⟩
      · obtain ⟨y, hy, hv⟩ := hxs.get hj
        have hjl : j < new.toList.length := (List.getElem?_eq_some_iff.1 hy).1
        refine ⟨y, ?_, hv⟩
        have := r4 _ hjl
        rw [hy] at this
        rw [← this]; congr 1
    · exact run_growA hT (H.set_dead b (H.lt b _ hg)) hs hd he hzl hS (n := 0) (by omega) (old := []) hxs hxl ⟨#[], by simp [Builtin.firstCells, loadCells, loadCellsFrom], by simp [VRels]⟩ (by simp) (by simpa using hb)
  · cases hb
theorem run_appendA {P : Program} {tb : Nat → Option TI} (hT : TbOk P tb) {M : Mod} {B : Base} {h h' : Hp} {w : World} (H : HRel M B h w) {sT xT ty : Nat} {X S : Value} {s x v : V} (hsr : VRel M s S) (hxr : VRel M x X) (ha : appendA tb h sT xT s x = some (v, h')) :
    ∃ M' w' z, (Builtin.append_ #[sT, xT] ty #[S, X]).run P w = .ok z w' ∧ M.le M' ∧ HRel M' B h' w' ∧ VRel M' v z := by
  unfold appendA at ha
  split at ha
  · cases ha
  rename_i si hs
  split at ha <;> first | (cases ha; done) | skip
  rename_i e hd
  split at ha
  · cases ha
  rename_i te he
  split at ha <;> first | (cases ha; done) | skip
  rename_i hz
  split at ha
  · cases ha
  rename_i m xs hsrc
  obtain ⟨new, hS, hxs, hxl⟩ := run_srcA hT H he hz.1 hsrc hxr
  split at ha
  · rename_i hm
    subst hm
    split at ha <;> first | (cases ha; done) | skip
    rename_i hsl
    cases ha
    have us := (hT.is hs).runUnd
    rw [hd] at us
    have hne : new = #[] := by
      have a1 := hxs.length
      rw [hxl] at a1
      exact Array.eq_empty_of_size_eq_zero (by simpa using a1.symm)
    subst hne
    have key : ∀ base n c, n ≤ c → (Builtin.append_ #[sT, xT] ty #[.slice base n c, X]).run P w = .ok (.slice base (n + 0) c) w := fun base n c hnc =>
      run_append_room us (hT.is he).size hS (by omega) (by cases base <;> simp [storeCells])
    cases s <;> simp [sliceLike] at hsl
    · simp only [VRel] at hsr; subst hsr
      exact ⟨M, w, _, key none 0 0 (Nat.le_refl _), Mod.le.refl M, H, by simp [VRel]⟩
    · have hsr' := hsr
      simp only [VRel] at hsr
      obtain ⟨_, c, rfl, hnc, _⟩ := hsr
      exact ⟨M, w, _, key _ _ c hnc, Mod.le.refl M, H, hsr'⟩
    · have hsr' := hsr
      simp only [VRel] at hsr
      obtain ⟨_, o, c, rfl, _⟩ := hsr
      exact ⟨M, w, _, key _ _ c (Nat.zero_le _), Mod.le.refl M, H, hsr'⟩
  · rename_i hm
    split at ha <;> first | (cases ha; done) | skip
    rename_i hone
    exact run_appendB hT H hs hd he hz.1 hz.2 hS hxs hxl hm hone hsr ha
end Go.Mx
