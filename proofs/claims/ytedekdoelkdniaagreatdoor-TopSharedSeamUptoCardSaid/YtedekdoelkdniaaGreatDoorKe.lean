/- The abstract machine: operations; regions whose order is drawn, the definitions. -/
import Derived.Test.YtedekdoelkdniaaGreatDoorKd
set_option linter.all false
namespace Go.Mx
theorem HRel.freeze {M : Mod} {B : Base} {h : Hp} {w : World} (H : HRel M B h w) {b ty : Nat} {cells : List V} (hok : M.ok b) (hg : h.get b = some (.blk ty cells true)) (off n : Nat) :
    HRel M B (h.set b (.blk (2 * (ty / 2)) cells false)) (w.freeze ⟨M.blk b, off, none⟩ n) := by
  obtain ⟨cs, fr, a1, a2, a3, a4, a5, a6, a7, a8⟩ := H.blk b _ hg hok
  have hlt := H.blk_lt hg hok rfl
  by_cases hn : n = 0
  · subst hn
    have e : w.freeze ⟨M.blk b, off, none⟩ 0 = w := by simp [World.freeze]
    rw [e]
    exact H.put hok hg rfl rfl ⟨cs, fr, by rw [show 2 * (ty / 2) / 2 = ty / 2 by omega]; exact a1, a2, a3, a4, a5, (fun h => by cases h), (fun _ h => by cases h), fun _ h => by omega⟩ rfl rfl rfl rfl fun _ _ => rfl
  · have hheap : (w.freeze ⟨M.blk b, off, none⟩ n).heap[M.blk b]? = some (.cells cs (ty / 2) (if fr.1 == fr.2 then (off, off + n) else (min fr.1 off, max fr.2 (off + n)))) := by
      simp only [World.freeze, hn, if_false]
      rw [Array.getElem?_modify, if_pos rfl, a1]
      rfl
    refine H.put hok hg rfl rfl ⟨cs, _, by rw [show 2 * (ty / 2) / 2 = ty / 2 by omega]; exact hheap, a2, a3, a4, a5, (fun h => by cases h), (fun _ h => by cases h), fun _ h => by omega⟩ ?_ ?_ ?_ ?_ fun k hk => ?_
    · simp only [World.freeze, hn, if_false]
    · simp only [World.freeze, hn, if_false]
    · simp only [World.freeze, hn, if_false]
    · simp only [World.freeze, hn, if_false, Array.size_modify]
    · simp only [World.freeze, hn, if_false]
      rw [Array.getElem?_modify, if_neg (fun e => hk e.symm)]
theorem bytesA_rel {M : Mod} : ∀ {vs : List V} {ys : List Value} {l : List UInt8}, bytesA vs = some l → VRels M vs ys → l.length = vs.length ∧ ∀ (j : Nat) (x : UInt8), l[j]? = some x → ys[j]? = some (.int .u8 x.toNat)
  | [], [], l, h, _ => by simp [bytesA] at h; subst h; simp
  | v :: vs, y :: ys, l, h, hr => by
    simp only [VRels] at hr
    unfold bytesA at h
    split at h <;> first | (cases h; done) | skip
    · rename_i he; cases he
    rename_i n r he
    cases he
    split at h <;> first | (cases h; done) | skip
    rename_i l' hl'
    split at h <;> first | (cases h; done) | skip
    rename_i hn
    cases h
    obtain ⟨h1, h2⟩ := bytesA_rel hl' hr.2
    refine ⟨by simp [h1], fun j x hj => ?_⟩
    cases j with
    | zero =>
      simp only [List.getElem?_cons_zero, Option.some.injEq] at hj ⊢
      subst hj
      have := hr.1
      simp only [VRel] at this
      rw [this]
      congr 1
      have : n.toNat < 256 := by omega
      simp [Nat.mod_eq_of_lt this]
      omega
    | succ j =>
      simp only [List.getElem?_cons_succ] at hj ⊢
      exact h2 j x hj
  | [], _ :: _, _, _, h => by simp [VRels] at h
  | _ :: _, [], _, _, h => by simp [VRels] at h
theorem liesAt_bytes' {P : Program} {e : TypeId} (hc : P.cellsOf e = 1) (count off n : Nat) (hn : off + n ≤ count) : liesAt P P.depth e count off e n = true := by
  have hd : P.depth = (2 * (P.types.size + Made.depth) + 1) + 1 := rfl
  rw [hd]
  simp only [liesAt, Bool.or_eq_true]
  left
  rw [hd]
  simp [rowAt, hc, hn, sameLayout, Nat.mod_one]
theorem run_unsafeStr {P : Program} (w : World) (pt it ty e : TypeId) (hp : (underlying pt).run P w = .ok (.pointer e) w) (hc : P.cellsOf e = 1) (g off cells : Nat) (hsh : w.shape? g = some (e, cells)) (l : List UInt8) (h0 : l ≠ []) (hn : off + l.length ≤ cells) (h63 : l.length ≤ 9223372036854775807)
    (hcell : ∀ j x, l[j]? = some x → w.cell? ((⟨g, off, none⟩ : Addr).add j) = some (.int .u8 x.toNat)) :
    (Builtin.unsafeString_ #[pt, it] ty #[.pointer (some ⟨g, off, none⟩), .int .i64 l.length]).run P w = .ok (.string ⟨l.toArray⟩) (w.freeze ⟨g, off, none⟩ l.length) := by
  have hl : l.length ≠ 0 := by simpa using h0
  have hlb := Lib.run_loadBytes (P := P) w l ⟨g, off, none⟩ .empty hcell
  have hlies := liesAt_bytes' (P := P) hc (cells / P.cellsOf e) off l.length (by rw [hc]; simpa using hn)
  have h63' : ¬ (9223372036854775807 : Int) < (l.length : Int) := by omega
  have hdef : Builtin.unsafeString_ #[pt, it] ty #[.pointer (some ⟨g, off, none⟩), .int .i64 l.length] =
      (do
        let n ← asInt (.int .i64 l.length)
        if n < 0 then runtimePanic (.error "unsafe.String: len out of range")
        if n > IntKind.i64.max then unsupported (.unsafePointer "String: a length above the largest int")
        if n = 0 then pure (.string .empty)
        else if ← variablesAt ⟨g, off, none⟩ (← elemOf pt) n.toNat then do
          let s ← loadBytes ⟨g, off, none⟩ .empty n.toNat
          freeze ⟨g, off, none⟩ n.toNat
          pure (.string s)
        else unsupported (.unsafePointer "String: not so many bytes at ptr")) := rfl
  rw [hdef]
  have hmax : IntKind.i64.max = 9223372036854775807 := rfl
  have hneg : ¬ (l.length : Int) < 0 := by omega
  simp [asInt, asIntOf, hmax, h63', hneg, hl, variablesAt, hsh, elemOf, hp, hlies, hlb]
theorem run_nextMapA {P : Program} {M : Mod} {B : Base} {h h' : Hp} {w : World} (H : HRel M B h w) {b m since last clock ty : Nat} {seen : List Nat} {es : List (V × V × Nat)} {v : V} (hb : M.ok b) (hgb : h.get b = some (.oth (.iter m since seen last))) (hgm : h.get m = some (.oth (.map es clock)))
    (hn : nextMapA h b m since seen last es clock = some (v, h')) : ∃ w' z, (Instr.next (.pointer (some ⟨M.blk b, M.bas b, none⟩)) false ty).run P w = .ok z w' ∧ HRel M B h' w' ∧ VRel M v z := by
  obtain ⟨o, h1, h2, h3⟩ := oth_of H hb hgb
  simp only [ORel] at h2
  obtain ⟨hm, rfl⟩ := h2
  obtain ⟨o2, q1, q2, q3⟩ := oth_of H hm hgm
  simp only [ORel] at q2
  obtain ⟨E, rfl, hE⟩ := q2
  unfold nextMapA at hn
  split at hn <;> first | (cases hn; done) | skip
  rename_i hc
  simp only [Bool.and_eq_true, decide_eq_true_eq] at hc
  have hold : ∀ x ∈ E.toList, x.born < since := hE.born hc.1
  have hf := hE.filter (p := fun e => !seen.contains e.2.2) (q := fun e => !seen.contains e.born) (fun _ _ _ => rfl)
  have hEf : (E.filter fun e => !seen.toArray.contains e.born).toList = E.toList.filter fun e => !seen.contains e.born := by simp
  rw [h3]
  rcases hl : es.filter (fun e => !seen.contains e.2.2) with _ | ⟨⟨k, x, s⟩, _ | _⟩ <;> rw [hl] at hf hn <;> simp only at hn
  · cases hn
    have hz : (E.filter fun e => !seen.toArray.contains e.born) = #[] := by
      apply Array.ext'
      rw [hEf]
      cases hq : E.toList.filter (fun e => !seen.contains e.born) with
      | nil => rfl
      | cons => rw [hq] at hf; simp [MapRel] at hf
    refine ⟨w, .tuple #[.bool false], ?_, H, by simp only [VRel]; exact ⟨_, rfl, by simp [VRels, VRel]⟩⟩
    simp only [Instr.next, getObj, Sem.run_bind, Sem.run, h1, q1, Result.andThen, next_test_false seen.toArray E since last hold hc.2, Bool.false_eq_true, if_false, hz]
    simp [choose, Sem.run, Question.forced]
  · cases hn
    cases hq : E.toList.filter (fun e => !seen.contains e.born) with
    | nil => rw [hq] at hf; simp [MapRel] at hf
    | cons e r =>
      rw [hq] at hf
      simp only [MapRel] at hf
      obtain ⟨e1, e2, rfl, hr⟩ := hf
      have hrn : r = [] := by cases r with
        | nil => rfl
        | cons => simp [MapRel] at hr
      subst hrn
      have hz : (E.filter fun e => !seen.toArray.contains e.born) = #[e] := by
        apply Array.ext'
        rw [hEf, hq]
      have hme : e ∈ E.toList := by
        have : e ∈ E.toList.filter (fun e => !seen.contains e.born) := by rw [hq]; simp
        exact (List.mem_filter.1 this).1
      have hlt := hold e hme
      have hnl : ¬ since ≤ e.born := by omega
      have hset : ∀ o', (setObj (M.blk b) o').run P w = .ok () (putO w (M.blk b) o') := fun o' => run_setO o' h1 (by intro c t f h; cases h)
      refine ⟨putO w (M.blk b) (.mapIter (some (M.blk m)) since (seen.toArray.push e.born) clock), .tuple #[.bool true, e.key, e.val], ?_, H.putOth hb hgb ?_, by simp only [VRel]; exact ⟨_, rfl, by simp [VRels, VRel, e1, e2]⟩⟩
      · simp only [Instr.next, getObj, Sem.run_bind, Sem.run, h1, q1, Result.andThen, next_test_false seen.toArray E since last hold hc.2, Bool.false_eq_true, if_false, hz]
        simp [choose, Sem.run, Question.forced, hlt, hnl, hset]
      · simp only [ORel]
        exact ⟨hm, by simp⟩
  · cases hn
end Go.Mx

namespace Go.Mx
theorem tup_nil (M : Mod) : VRel M (.tup []) (.tuple #[]) := by simp only [VRel]; exact ⟨#[], rfl, by simp [VRels]⟩
theorem run_sliceMore {P : Program} {tb : Nat → Option TI} (hT : TbOk P tb) {M : Mod} {B : Base} {h : Hp} {w : World} (H : HRel M B h w) {ev : Operand → Option V} {evr : Operand → Value} (hev : ∀ x v, ev x = some v → VRel M v (evr x)) {t e b o n z ty : Nat} {ti te : TI} {cells : List V} {rw_ : Bool}
    (ht : tb t = some ti) (hd : ti.d = .slice e) (he : tb e = some te) (hz : te.size = z ∧ 0 < z) (hg : h.get b = some (.blk ty cells rw_)) {X : Value} (hx : VRel M (.sl b o n none z) X) {lo hi : Option Operand} {l' : Option Int} {h' : Int} (h1 : bnd ev lo = some l') (h2 : bnd ev hi = some (some h'))
    {l hh m : Nat} (hb : bnds n ((cells.length - o) / z) l' (some h') none = some (l, hh, m)) (hl : l < hh) : ∃ y, (Instr.sliceAt t X (lo.map evr) (hi.map evr) none).run P w = .ok y w ∧ VRel M (.sl b (o + l * z) (hh - l) none z) y := by
  have us := (hT.is ht).runUnd w
  rw [hd] at us
  obtain ⟨hz1, hz2⟩ := hz
  have hzz := (hT.is he).size w
  rw [hz1] at hzz
  simp only [VRel] at hx
  obtain ⟨hbk, c, rfl, hnc, hn, hc, hcap⟩ := hx
  obtain ⟨cs, fr, a1, a2, a3, a4, a5, a6, a7, a8⟩ := H.blk b _ hg hbk
  have hkz : (cells.length - o) / z * z ≤ cells.length - o := Nat.div_mul_le_self _ _
  have hkc : (cells.length - o) / z ≤ c := by
    refine Nat.div_le_of_le_mul ?_
    rw [Nat.mul_comm]
    omega
  have hbn' := bnds_top hkc hb
  have hr := run_bnds (P := P) hev (mx := none) h1 h2 (by simp [bnd]) hbn' true w
  have hle := bnds_le (.inr (by simp)) hb
  simp only [Option.isSome_none, Bool.false_eq_true, if_false, Option.map_none] at hr
  refine ⟨_, run_slice_slice us hzz hr, ?_⟩
  have hne : ¬ c = l := by omega
  have e2 : (c - l) * z + l * z = c * z := by rw [← Nat.add_mul]; congr 1; omega
  have e3 : (hh - l) * z + l * z = hh * z := by rw [← Nat.add_mul]; congr 1; omega
  have e4 : hh * z ≤ (cells.length - o) / z * z := Nat.mul_le_mul_right _ (by omega)
  have e5 : 0 < hh * z := Nat.mul_pos (by omega) hz2
  simp only [hne, if_false, VRel, Option.map_some, addr_add]
  exact ⟨hbk, c - l, by rw [Nat.add_assoc], by omega, by omega, by omega, by omega⟩
theorem liesAt_one {P : Program} {e s count : Nat} (hc : P.cellsOf e = s) (hs : 0 < s) (hn : 1 ≤ count) : liesAt P P.depth e count 0 e 1 = true := by
  have hd : P.depth = (2 * (P.types.size + Made.depth) + 1) + 1 := rfl
  rw [hd]
  simp only [liesAt, Bool.or_eq_true]
  left
  rw [hd]
  have : s ≠ 0 := by omega
  simp [rowAt, hc, hn, sameLayout, this]
theorem cellsOf_tb {P : Program} {tb : Nat → Option TI} (hT : TbOk P tb) {t : Nat} {ti : TI} (ht : tb t = some ti) : P.cellsOf t = ti.size := by
  obtain ⟨i, z, h1, h2, _⟩ := (hT.is ht).info
  simp [Program.cellsOf, h1, h2]
theorem args1 {M : Mod} {ev : Operand → Option V} {evr : Operand → Value} (hev : ∀ x v, ev x = some v → VRel M v (evr x)) {args : Array Operand} {v : V} (h : evs ev args.toList = some [v]) : ∃ X, args.map evr = #[X] ∧ VRel M v X := by
  have hA := evs_rel hev h
  have hA' : VRels M [v] (args.map evr).toList := by simpa using hA
  rcases hq : args.map evr with ⟨_ | ⟨X, _ | _⟩⟩ <;> rw [hq] at hA' <;> simp [VRels] at hA'
  exact ⟨X, rfl, hA'⟩
theorem args2 {M : Mod} {ev : Operand → Option V} {evr : Operand → Value} (hev : ∀ x v, ev x = some v → VRel M v (evr x)) {args : Array Operand} {v u : V} (h : evs ev args.toList = some [v, u]) : ∃ X Y, args.map evr = #[X, Y] ∧ VRel M v X ∧ VRel M u Y := by
  have hA := evs_rel hev h
  have hA' : VRels M [v, u] (args.map evr).toList := by simpa using hA
  rcases hq : args.map evr with ⟨_ | ⟨X, _ | ⟨Y, _ | _⟩⟩⟩ <;> rw [hq] at hA' <;> simp [VRels] at hA'
  exact ⟨X, Y, rfl, hA'⟩
theorem all_rep {p : V → Bool} {l : List V} (h : l.all p = true) : ∀ n, (rep n l).all p = true
  | 0 => rfl
  | n + 1 => by simp only [rep, List.all_append, h, all_rep h n, Bool.and_self]
set_option maxHeartbeats 1000000 in
theorem run_objA {P : Program} {tb : Nat → Option TI} (hT : TbOk P tb) {M : Mod} {B : Base} {h h' : Hp} {w : World} (H : HRel M B h w) {ev : Operand → Option V} {evr : Operand → Value} (hev : ∀ x v, ev x = some v → VRel M v (evr x))
    {o : Oper} {v : V} (ho : objA tb ev o.op h = some (v, h')) : ∃ M' w' z, ((execOp evr o).run P w = .ok (.value z) w' ∨ ((execOp evr o).run P w = .ok .skip w' ∧ z = undef)) ∧ M.le M' ∧ HRel M' B h' w' ∧ VRel M' v z := by
  unfold objA at ho
  unfold execOp
  have hmm : ∀ (len siz : Nat), VRel (M.push w.heap.size 0 len siz) (.m h.n) (.map (some w.heap.size)) := fun len siz => by
    simp [VRel, Mod.push, H.n]
  have hpp : ∀ (len siz : Nat), VRel (M.push w.heap.size 0 len siz) (.p h.n 0) (.pointer (some ⟨w.heap.size, 0, none⟩)) := fun len siz => by
    have := M.push_rel w.heap.size 0 len siz 0
    rw [H.n] at this
    simpa using this
  split at ho <;> (try (rename_i hop; rw [hop]))
  ·
    split at ho
    · cases ho
      exact ⟨_, _, .map (some w.heap.size), .inl (by simp [Instr.makeMap]), M.le_push H.okM _ _ _ _, H.pushOth (k := .map [] 0) (o := .map #[] 0) (by simp only [ORel]; exact ⟨#[], rfl, by simp [MapRel]⟩), hmm _ _⟩
    · split at ho <;> first | (cases ho; done) | skip
      rename_i ti k n ht hx
      split at ho <;> first | (cases ho; done) | skip
      rename_i a c hd
      cases ho
      have ut := (hT.is ht).runUnd w
      rw [hd] at ut
      have hv := hev _ _ hx
      simp only [VRel] at hv
      exact ⟨_, _, .map (some w.heap.size), .inl (by simp [Instr.makeMap, ut, hv, asInt, asIntOf]), M.le_push H.okM _ _ _ _, H.pushOth (k := .map [] 0) (o := .map #[] 0) (by simp only [ORel]; exact ⟨#[], rfl, by simp [MapRel]⟩), hmm _ _⟩
  ·
    split at ho <;> first | (cases ho; done) | skip
    rename_i ti ht
    split at ho <;> first | (cases ho; done) | skip
    rename_i kt et hd
    split at ho <;> first | (cases ho; done) | skip
    rename_i tk xv kv hk hx hkv
    split at ho <;> first | (cases ho; done) | skip
    rename_i hka
    have hX := hev _ _ hx
    split at ho <;> first | (cases ho; done) | skip
    · split at ho <;> first | (cases ho; done) | skip
      rename_i r hl
      cases ho
      simp only [VRel] at hX
      obtain ⟨z, hz, hv⟩ := run_lookupA (P := P) (w := w) hT ht hd hk (hev _ _ hkv) hka (.inl ⟨hX, rfl⟩) (es := []) (by simp [MapRel]) (r := none) (by simp [findA]) hl
      exact ⟨M, w, z, .inl (by simp [hz]), Mod.le.refl M, H, hv⟩
    · rename_i b
      split at ho <;> first | (cases ho; done) | skip
      rename_i es cl hg
      split at ho <;> first | (cases ho; done) | skip
      rename_i r hf
      split at ho <;> first | (cases ho; done) | skip
      rename_i v' hl
      cases ho
      simp only [VRel] at hX
      obtain ⟨hb, hX⟩ := hX
      obtain ⟨ob, q1, q2, _⟩ := oth_of H hb hg
      simp only [ORel] at q2
      obtain ⟨E, rfl, hE⟩ := q2
      obtain ⟨z, hz, hv⟩ := run_lookupA (P := P) (w := w) hT ht hd hk (hev _ _ hkv) hka (.inr ⟨_, _, hX, q1⟩) hE hf hl
      exact ⟨M, w, z, .inl (by simp [hz]), Mod.le.refl M, H, hv⟩
  ·
    split at ho <;> first | (cases ho; done) | skip
    rename_i ti ht
    split at ho <;> first | (cases ho; done) | skip
    rename_i kt et hd
    split at ho <;> first | (cases ho; done) | skip
    rename_i tk b kv v' hk hx hkv hy
    split at ho <;> first | (cases ho; done) | skip
    rename_i hka
    split at ho <;> first | (cases ho; done) | skip
    rename_i es cl hg
    have hX := hev _ _ hx
    simp only [VRel] at hX
    obtain ⟨hb, hX⟩ := hX
    obtain ⟨ob, q1, q2, _⟩ := oth_of H hb hg
    simp only [ORel] at q2
    obtain ⟨E, rfl, hE⟩ := q2
    split at ho <;> first | (cases ho; done) | skip
    · rename_i i y hf
      cases ho
      obtain ⟨E', hr, hm⟩ := run_mapUpdateA (P := P) hT ht hd hk (hev _ _ hkv) (hev _ _ hy) hka q1 hE hf
      exact ⟨M, putO w (M.blk b) (.map E' cl), undef, .inr ⟨by simp [hX, hr], rfl⟩, Mod.le.refl M, H.putOth hb hg (by simp only [ORel]; exact ⟨E', rfl, hm⟩), tup_nil M⟩
    · rename_i hf
      cases ho
      obtain ⟨E', hr, hm⟩ := run_mapUpdateA (P := P) hT ht hd hk (hev _ _ hkv) (hev _ _ hy) hka q1 hE hf
      exact ⟨M, putO w (M.blk b) (.map E' (cl + 1)), undef, .inr ⟨by simp [hX, hr], rfl⟩, Mod.le.refl M, H.putOth hb hg (by simp only [ORel]; exact ⟨E', rfl, hm⟩), tup_nil M⟩
  ·
    split at ho <;> first | (cases ho; done) | skip
    rename_i ti ht
    have ut := (hT.is ht).runUnd w
    split at ho <;> first | (cases ho; done) | skip
    · rename_i l hd hx
      rw [hd] at ut
      cases ho
      have hX := hev _ _ hx
      simp only [VRel] at hX
      exact ⟨_, _, .pointer (some ⟨w.heap.size, 0, none⟩), .inl (by simp [Instr.range, ut, hX]), M.le_push H.okM _ _ _ _, H.pushOth (k := .str l 0) (o := .stringIter ⟨l.toArray⟩ 0) (by simp only [ORel]), hpp _ _⟩
    · rename_i a c b hd hx
      rw [hd] at ut
      split at ho <;> first | (cases ho; done) | skip
      rename_i es cl hg
      cases ho
      have hX := hev _ _ hx
      simp only [VRel] at hX
      obtain ⟨hb, hX⟩ := hX
      obtain ⟨ob, q1, q2, _⟩ := oth_of H hb hg
      simp only [ORel] at q2
      obtain ⟨E, rfl, hE⟩ := q2
      have hgo : (getObj (M.blk b)).run P w = .ok (.map E cl) w := run_getO q1 (by intro c t f h; cases h)
      exact ⟨_, _, .pointer (some ⟨w.heap.size, 0, none⟩), .inl (by simp [Instr.range, ut, hX, hgo]), M.le_push H.okM _ _ _ _, H.pushOth (k := .iter b cl [] cl) (o := .mapIter (some (M.blk b)) cl #[] cl) (by simp only [ORel]; exact ⟨hb, trivial⟩), hpp _ _⟩
  ·
    split at ho <;> first | (cases ho; done) | skip
    rename_i b hx
    have hX := hev _ _ hx
    simp only [VRel] at hX
    obtain ⟨hb, hX⟩ := hX
    simp only [Nat.add_zero] at hX
    split at ho <;> first | (cases ho; done) | skip
    · rename_i l pos hg
      obtain ⟨ob, q1, q2, q3⟩ := oth_of H hb hg
      simp only [ORel] at q2; subst q2
      rw [q3] at hX
      split at ho
      · rename_i hdr
        cases ho
        have : ¬ pos < (⟨l.toArray⟩ : ByteArray).size := by
          have := congrArg List.length hdr
          simp at this
          simp [ByteArray.size]; omega
        exact ⟨M, w, .tuple #[.bool false], .inl (by simp [hX, Lib.run_next_end_at w _ _ pos o.type q1 this]), Mod.le.refl M, H, by simp only [VRel]; exact ⟨_, rfl, by simp [VRels, VRel]⟩⟩
      · rename_i c r hdr
        split at ho <;> first | (cases ho; done) | skip
        rename_i hc
        cases ho
        have hlt : pos < l.length := by
          have := congrArg List.length hdr
          simp at this; omega
        have hpl : pos < (⟨l.toArray⟩ : ByteArray).size := by simpa [ByteArray.size] using hlt
        have hcc : (⟨l.toArray⟩ : ByteArray)[pos]'hpl = c := by
          have h1 : l[pos] = c := by
            have h2 : (l.drop pos)[0]? = some c := by rw [hdr]; rfl
            rw [List.getElem?_drop] at h2
            simpa [hlt] using h2
          exact h1
        have hrun := Lib.run_next_ascii_at (P := P) w _ _ pos o.type q1 hpl (by rw [hcc]; exact hc)
        rw [hcc] at hrun
        refine ⟨M, w.iterAt (M.blk b) ⟨l.toArray⟩ (pos + 1), .tuple #[.bool true, .int .i64 pos, .int .i32 c.toNat], .inl (by simp [hX, hrun]), Mod.le.refl M, ?_, by simp only [VRel]; exact ⟨_, rfl, by simp [VRels, VRel]⟩⟩
        exact H.putOth hb hg (by simp only [ORel])
    · rename_i m since seen last hg
      split at ho <;> first | (cases ho; done) | skip
      rename_i es clock hgm
      obtain ⟨w', z, hz, H', hv⟩ := run_nextMapA (P := P) (ty := o.type) H hb hg hgm ho
      exact ⟨M, w', z, .inl (by simp only [hX]; simp [hz]), Mod.le.refl M, H', hv⟩
  ·
    split at ho <;> first | (cases ho; done) | skip
    rename_i b hx
    have hX := hev _ _ hx
    simp only [VRel] at hX
    obtain ⟨hb, hX⟩ := hX
    split at ho <;> first | (cases ho; done) | skip
    rename_i m since seen last hg
    obtain ⟨ob, q1, q2, q3⟩ := oth_of H hb hg
    simp only [ORel] at q2
    obtain ⟨hm, rfl⟩ := q2
    rw [q3] at hX
    split at ho <;> first | (cases ho; done) | skip
    rename_i es clock st hgm hst
    obtain ⟨ob2, p1, p2, p3⟩ := oth_of H hm hgm
    simp only [ORel] at p2
    obtain ⟨E, rfl, hE⟩ := p2
    split at ho <;> first | (cases ho; done) | skip
    rename_i hcl
    split at ho <;> first | (cases ho; done) | skip
    rename_i e hfe
    cases ho
    obtain ⟨e', hf', k1, k2⟩ := hE.find hfe
    have hf2 : E.find? (fun e => e.born == st) = some e' := by rw [← Array.find?_toList]; exact hf'
    have g1 : (getObj (M.blk b)).run P w = .ok (.mapIter (some (M.blk m)) since seen.toArray last) w := run_getO q1 (by intro c t f h; cases h)
    have g2 : (getObj (M.blk m)).run P w = .ok (.map E clock) w := run_getO p1 (by intro c t f h; cases h)
    subst hcl
    exact ⟨M, w, .tuple #[e'.key, e'.val], .inl (by simp [hX, Instr.entry, g1, g2, hst, hf2]), Mod.le.refl M, H, by simp only [VRel]; exact ⟨_, rfl, by simp [VRels, k1, k2]⟩⟩
  ·
    rename_i c
    split at ho <;> first | (cases ho; done) | skip
    ·
      rename_i hc
      split at ho <;> first | (cases ho; done) | skip
      rename_i t b hat har
      split at ho <;> first | (cases ho; done) | skip
      rename_i ti es cl ht hg
      split at ho <;> first | (cases ho; done) | skip
      rename_i a c' hd
      cases ho
      have ut := (hT.is ht).runUnd w
      rw [hd] at ut
      have e1 : c.argTypes = #[t] := by apply Array.ext'; simpa using hat
      have hA := evs_rel hev har
      obtain ⟨X, hX1, hX2⟩ : ∃ X, c.args.map evr = #[X] ∧ VRel M (.m b) X := by
        have hA' : VRels M [.m b] (c.args.map evr).toList := by simpa using hA
        rcases hq : c.args.map evr with ⟨_ | ⟨X, _ | _⟩⟩ <;> rw [hq] at hA' <;> simp [VRels] at hA'
        exact ⟨X, rfl, hA'⟩
      simp only [VRel] at hX2
      obtain ⟨hb, rfl⟩ := hX2
      obtain ⟨ob, q1, q2, _⟩ := oth_of H hb hg
      simp only [ORel] at q2
      obtain ⟨E, rfl, hE⟩ := q2
      have g1 : (getObj (M.blk b)).run P w = .ok (.map E cl) w := run_getO q1 (by intro c t f h; cases h)
      exact ⟨M, w, .int .i64 E.size, .inl (by simp [resolve, hc, invoke, builtin, hX1, Builtin.len_, e1, ut, g1, goInt]), Mod.le.refl M, H, by simp only [VRel]; rw [hE.length]; simp⟩
    ·
      rename_i hc
      split at ho <;> first | (cases ho; done) | skip
      · rename_i har
        cases ho
        have hA := evs_rel hev har
        obtain ⟨X, hX1, hX2⟩ : ∃ X, c.args.map evr = #[X] ∧ VRel M .nils X := by
          have hA' : VRels M [.nils] (c.args.map evr).toList := by simpa using hA
          rcases hq : c.args.map evr with ⟨_ | ⟨X, _ | _⟩⟩ <;> rw [hq] at hA' <;> simp [VRels] at hA'
          exact ⟨X, rfl, hA'⟩
        simp only [VRel] at hX2; subst hX2
        have hr : (Builtin.unsafeSliceData_ c.argTypes o.type #[.slice none 0 0]).run P w = .ok (.pointer none) w := rfl
        exact ⟨M, w, .pointer none, .inl (by simp [resolve, hc, invoke, builtin, hX1, hr]), Mod.le.refl M, H, by simp [VRel]⟩
      · rename_i b q n cap z har
        split at ho <;> first | (cases ho; done) | skip
        rename_i hn
        cases ho
        obtain ⟨X, hX1, hX2⟩ := args1 hev har
        simp only [VRel] at hX2
        obtain ⟨hb, cc, rfl, hnc, _⟩ := hX2
        have hr := Lib.run_unsafeSliceData_row (P := P) w c.argTypes o.type ⟨M.blk b, M.bas b + q, none⟩ n cc (by omega)
        exact ⟨M, w, .pointer (some ⟨M.blk b, M.bas b + q, none⟩), .inl (by simp [resolve, hc, invoke, builtin, hX1, hr]), Mod.le.refl M, H, by simp only [VRel]; exact ⟨hb, trivial⟩⟩
    ·
      rename_i hc
      split at ho <;> first | (cases ho; done) | skip
      · rename_i pt it hat har
        cases ho
        have e1 : c.argTypes = #[pt, it] := by apply Array.ext'; simpa using hat
        obtain ⟨X, Y, hX1, hX2, hY2⟩ := args2 hev har
        simp only [VRel] at hX2 hY2; subst hX2; subst hY2
        have hr := Lib.run_unsafeString_none (P := P) w pt it o.type none
        exact ⟨M, w, .string .empty, .inl (by simp [resolve, hc, invoke, builtin, hX1, e1, hr]), Mod.le.refl M, H, by simp only [VRel]; rfl⟩
      · rename_i pt it b q n hat har
        split at ho <;> first | (cases ho; done) | skip
        rename_i tp ty cells ht hg
        split at ho <;> first | (cases ho; done) | skip
        rename_i e hd
        split at ho <;> first | (cases ho; done) | skip
        rename_i te he
        split at ho <;> first | (cases ho; done) | skip
        rename_i hcond
        obtain ⟨c1, c2, c3, c4, c5⟩ := hcond
        split at ho <;> first | (cases ho; done) | skip
        rename_i l hl
        cases ho
        have e1 : c.argTypes = #[pt, it] := by apply Array.ext'; simpa using hat
        obtain ⟨X, Y, hX1, hX2, hY2⟩ := args2 hev har
        simp only [VRel] at hX2 hY2; subst hY2
        obtain ⟨hb, rfl⟩ := hX2
        obtain ⟨cs, fr, a1, a2, a3, a4, a5, a6, a7, a8⟩ := H.blk b _ hg hb
        have ut := (hT.is ht).runUnd w
        rw [hd] at ut
        have hrel := ((VRels.of_block a5 (by omega)).drop q).take n.toNat
        obtain ⟨l1, l2⟩ := bytesA_rel hl hrel
        have hll : l.length = n.toNat := by rw [l1]; simp; omega
        have hn : (n : Int) = (l.length : Int) := by omega
        have hr := run_unsafeStr (P := P) w pt it o.type e ut ((cellsOf_tb hT he).trans c1) (M.blk b) (M.bas b + q) cs.size (by simp [World.shape?, a1, c2]) l (by intro e; subst e; simp at hll; omega) (by omega) (by omega) (fun j x hj => by
          rw [addr_add, cell_of_row w _ _ cs _ fr a1]
          have h1 := l2 j x hj
          have hjl : j < l.length := (List.getElem?_eq_some_iff.1 hj).1
          rw [List.getElem?_take_of_lt (by omega), List.getElem?_drop, List.getElem?_take_of_lt (by omega), List.getElem?_drop] at h1
          rw [← Array.getElem?_toList]
          rw [← h1]; congr 1; omega)
        rw [← hn] at hr
        exact ⟨M, w.freeze ⟨M.blk b, M.bas b + q, none⟩ l.length, .string ⟨l.toArray⟩, .inl (by simp [resolve, hc, invoke, builtin, hX1, e1, hr]), Mod.le.refl M, H.freeze hb hg _ _, by simp only [VRel]⟩
    ·
      rename_i hc
      split at ho <;> first | (cases ho; done) | skip
      rename_i t x hat har
      split at ho <;> first | (cases ho; done) | skip
      rename_i ti ht
      have e1 : c.argTypes = #[t] := by apply Array.ext'; simpa using hat
      have ut := (hT.is ht).runUnd w
      obtain ⟨X, hX1, hX2⟩ := args1 hev har
      split at ho <;> first | (cases ho; done) | skip
      · rename_i hd
        rw [hd] at ut
        cases ho
        simp only [VRel] at hX2; subst hX2
        exact ⟨M, w, .tuple #[], .inl (by simp [resolve, hc, invoke, builtin, hX1, e1, Builtin.clear_, ut]), Mod.le.refl M, H, tup_nil M⟩
      · rename_i hd
        rw [hd] at ut
        cases ho
        simp only [VRel] at hX2
        obtain ⟨_, q, cc, rfl, _⟩ := hX2
        exact ⟨M, w, .tuple #[], .inl (by simp [resolve, hc, invoke, builtin, hX1, e1, Builtin.clear_, ut]), Mod.le.refl M, H, tup_nil M⟩
      · rename_i e b q n cap z hd
        rw [hd] at ut
        split at ho <;> first | (cases ho; done) | skip
        rename_i te ty cells he hg
        split at ho <;> first | (cases ho; done) | skip
        rename_i hcond
        obtain ⟨c1, c2, c3, c4, c5⟩ := hcond
        cases ho
        simp only [VRel] at hX2
        obtain ⟨hb, cc, rfl, hnc, _⟩ := hX2
        obtain ⟨Z, hz, hzv⟩ := (hT.is he).zero
        have hZ := (hzv M).cells
        have hrep := rel_rep (M := M) hZ n
        have hone : (rep n te.zero).all V.one = true := all_rep c5 n
        have hzl : te.zv.cells.length = te.size := c3
        obtain ⟨w', hst, H'⟩ := H.setAll (P := P) (j := q) hb hg (by rw [rep_length, hzl, ← c2]; omega) hrep hone
        obtain ⟨m, rfl⟩ : ∃ m, n = m + 1 := ⟨n - 1, by omega⟩
        have hst2 : (storeCells ⟨M.blk b, M.bas b + q, none⟩ (Builtin.zeroCells Z.cells (m + 1)).toList).run P w = .ok () w' := hst
        have hcl : (Builtin.clear_ #[t] o.type #[.slice (some ⟨M.blk b, M.bas b + q, none⟩) (m + 1) cc]).run P w = .ok (.tuple #[]) w' := by
          have hdef : Builtin.clear_ #[t] o.type #[.slice (some ⟨M.blk b, M.bas b + q, none⟩) (m + 1) cc] = (do
              match ← underlying t, (Value.slice (some ⟨M.blk b, M.bas b + q, none⟩) (m + 1) cc) with
              | _, .map none | _, .slice none _ _ | _, .slice _ 0 _ => pure ()
              | _, .map (some r) =>
                let .map _ clock ← getObj r | stuck "clear: map expected"
                setObj r (.map #[] clock)
              | .slice elem, .slice (some a) n _ =>
                storeCells a (Builtin.zeroCells (← zeroValue elem).cells n).toList
              | _, _ => stuck "clear: map or slice expected"
              pure (.tuple #[])) := rfl
          rw [hdef]
          simp [ut, hz, hst2]
        exact ⟨M, w', .tuple #[], .inl (by simp [resolve, hc, invoke, builtin, hX1, e1, hcl]), Mod.le.refl M, H', tup_nil M⟩
    ·
      rename_i hc
      split at ho <;> first | (cases ho; done) | skip
      rename_i t ts b kv hat har
      split at ho <;> first | (cases ho; done) | skip
      rename_i ti es cl ht hg
      split at ho <;> first | (cases ho; done) | skip
      rename_i kt et hd
      split at ho <;> first | (cases ho; done) | skip
      rename_i tk hk
      split at ho <;> first | (cases ho; done) | skip
      rename_i hka
      have ut := (hT.is ht).runUnd w
      rw [hd] at ut
      have uk := (hT.is hk).runUnd w
      have e1 : c.argTypes[0]? = some t := by rw [← Array.getElem?_toList, hat]; rfl
      obtain ⟨X, Y, hX1, hX2, hY2⟩ := args2 hev har
      simp only [VRel] at hX2
      obtain ⟨hb, rfl⟩ := hX2
      obtain ⟨ob, q1, q2, _⟩ := oth_of H hb hg
      simp only [ORel] at q2
      obtain ⟨E, rfl, hE⟩ := q2
      have g1 : (getObj (M.blk b)).run P w = .ok (.map E cl) w := run_getO q1 (by intro c t f h; cases h)
      have hs : ∀ o, (setObj (M.blk b) o).run P w = .ok () (putO w (M.blk b) o) := fun o => run_setO o q1 (by intro c t f h; cases h)
      have hck := run_checkKeyA (P := P) (n := 9999) uk hka hY2 E.isEmpty
      split at ho <;> first | (cases ho; done) | skip
      · rename_i i y hf
        cases ho
        obtain ⟨r', h1, h2⟩ := run_findA (P := P) uk hY2 hf hE
        obtain ⟨y', e, rfl, _, he, _⟩ := h2
        have hi : i < E.size := (Array.getElem?_eq_some_iff.1 he).1
        have hE' : MapRel M (es.eraseIdx i) (E.eraseIdxIfInBounds i).toList := by
          have := hE.eraseIdx i
          simpa [Array.eraseIdxIfInBounds, hi] using this
        exact ⟨M, putO w (M.blk b) (.map (E.eraseIdxIfInBounds i) cl), .tuple #[], .inl (by simp [resolve, hc, invoke, builtin, hX1, e1, Builtin.delete_, ut, g1, hck, h1, hs]), Mod.le.refl M, H.putOth hb hg (by simp only [ORel]; exact ⟨_, rfl, hE'⟩), tup_nil M⟩
      · rename_i hf
        cases ho
        obtain ⟨r', h1, h2⟩ := run_findA (P := P) uk hY2 hf hE
        subst h2
        exact ⟨M, putO w (M.blk b) (.map E cl), .tuple #[], .inl (by simp [resolve, hc, invoke, builtin, hX1, e1, Builtin.delete_, ut, g1, hck, h1, hs]), Mod.le.refl M, H.putOth hb hg (by simp only [ORel]; exact ⟨_, rfl, hE⟩), tup_nil M⟩
  ·
    split at ho <;> first | (cases ho; done) | skip
    rename_i b q n z l' h'' hx h1 h2
    split at ho <;> first | (cases ho; done) | skip
    rename_i ti ty cells rw_ ht hg
    split at ho <;> first | (cases ho; done) | skip
    rename_i e hd
    split at ho <;> first | (cases ho; done) | skip
    rename_i te he
    split at ho <;> first | (cases ho; done) | skip
    rename_i hz
    split at ho <;> first | (cases ho; done) | skip
    rename_i l hh m hb
    split at ho <;> first | (cases ho; done) | skip
    rename_i hl
    cases ho
    obtain ⟨y, hy, hv⟩ := run_sliceMore (P := P) hT H hev ht hd he hz hg (hev _ _ hx) h1 h2 hb hl
    exact ⟨M, w, y, .inl (by simp [hy]), Mod.le.refl M, H, hv⟩
  ·
    rename_i sT dT xo
    split at ho <;> first | (cases ho; done) | skip
    rename_i si di b q hs hd hx
    split at ho <;> first | (cases ho; done) | skip
    rename_i ty cells rw_ hg
    have us := (hT.is hs).runUnd w
    have ud := (hT.is hd).runUnd w
    have hX := hev _ _ hx
    have hX' := hX
    simp only [VRel] at hX
    obtain ⟨hb, hX⟩ := hX
    obtain ⟨cs, fr, a1, a2, a3, a4, a5, a6, a7, a8⟩ := H.blk b _ hg hb
    split at ho <;> first | (cases ho; done) | skip
    · rename_i t h1 h2
      rw [h1] at us; rw [h2] at ud
      split at ho <;> first | (cases ho; done) | skip
      rename_i ti ht
      split at ho <;> first | (cases ho; done) | skip
      rename_i hc
      cases ho
      obtain ⟨i, z, k1, k2, _⟩ := (hT.is ht).info
      have hq : M.bas b + q < cs.size := by omega
      have hcell : w.cell? ⟨M.blk b, M.bas b + q, none⟩ = some cs[M.bas b + q] := by rw [cell_of_row w _ _ cs _ fr a1]; simp [hq]
      have hi : P.underlying _ = some (.pointer t) := (h1 ▸ (hT.is hs).und)
      have hi2 : P.underlying _ = some .unsafePointer := (h2 ▸ (hT.is hd).und)
      have hr := run_convert_to_unsafe (P := P) hi hi2 (by rw [k1]; simp [k2]; omega) hcell
      exact ⟨M, w, _, .inl (by simp only [hX]; simp [hr]; rfl), Mod.le.refl M, H, by rw [← hX]; exact hX'⟩
    · rename_i t h1 h2
      rw [h1] at us; rw [h2] at ud
      split at ho <;> first | (cases ho; done) | skip
      rename_i ti ht
      split at ho <;> first | (cases ho; done) | skip
      rename_i hc
      obtain ⟨c0, c1, c2, rfl, c4, c5⟩ := hc
      cases ho
      have h0 := a7 c2 c0
      rw [h0] at hX
      have hs0 := (hT.is ht).size w
      have hce := cellsOf_tb hT ht
      have hl := liesAt_one (P := P) (count := cs.size / ti.size) hce c4 ((Nat.le_div_iff_mul_le c4).2 (by omega))
      have hne : ¬ ti.size = 0 := by omega
      subst c1
      have hva : (variablesAt ⟨M.blk b, 0, none⟩ (ty / 2) 1).run P w = .ok true w := by
        simp [variablesAt, World.shape?, a1, hce, hl]
      have hr : (convert sT dT (evr xo)).run P w = .ok (.pointer (some ⟨M.blk b, 0, none⟩)) w := by
        rw [hX]
        simp [convert, Conv.unsafePointer, Conv.seenAt, viewAt, us, ud, World.shape?, a1, hs0, hne, hva]
      refine ⟨M, w, .pointer (some ⟨M.blk b, 0, none⟩), .inl ?_, Mod.le.refl M, H, by rw [hX] at hX'; exact hX'⟩
      rw [Sem.run_bind, hr]; rfl
  · cases ho
end Go.Mx

namespace Go.Mx
def Fw : Option Nat → Fence
  | none => Fence.wide
  | some l => Fence.wide.inRound l
theorem Fw_fn (ro : Option Nat) (f : FuncId) : (Fw ro).fn f := by cases ro <;> trivial
theorem Fw_depth (ro : Option Nat) : (Fw ro).depth = none := by cases ro <;> rfl
theorem Fw_round (ro : Option Nat) : (Fw ro).round = ro := by cases ro <;> rfl
def EnRel (M : Mod) : En → Ending → Prop
  | .ret v, e => ∃ y, e = .returned y ∧ VRel M v y
  | .panic v, e => ∃ y, e = .panicked [{ v := y, recovered := false }] ∧ VRel M v y
structure CallOk (P : Program) (B : Base) (call : Caller) : Prop where
  fn : ∀ {f args h r M w} {argsr : Array Value}, call (.fn f) args h = some r → HRel M B h w → VRels M args argsr.toList →
    ((∀ w, (callFunc f argsr).run P w = .ok (.enter f argsr) w) ∧ CallsIn Fence.wide 0 P f argsr w fun e w' => ∃ M', M.le M' ∧ HRel M' B r.2 w' ∧ EnRel M' r.1 e) ∨
    (∃ v w' y M', r.1 = .ret v ∧ (callFunc f argsr).run P w = .ok (.value y) w' ∧ M.le M' ∧ HRel M' B r.2 w' ∧ VRel M' v y)
  it : ∀ {f args h r M w} {argsr : Array Value}, call (.it f) args h = some r → HRel M B h w → VRels M args argsr.toList →
    (∀ w, (callFunc f argsr).run P w = .ok (.enter f argsr) w) ∧ CallsIn Fence.wide 0 P f argsr w fun e w' => ∃ M', M.le M' ∧ HRel M' B r.2 w' ∧ EnRel M' r.1 e
  yield : ∀ {l args h r M w} {argsr : Array Value}, call (.yield l) args h = some r → M.ok l → HRel M B h w → VRels M args argsr.toList →
    ∃ fn tmps assign body, (Instr.yield (M.blk l) argsr).run P w = .ok (.round (M.blk l) fn tmps assign body) w ∧
      RoundIn Fence.wide 0 P (M.blk l) fn tmps assign body w fun e w' => ∃ M', M.le M' ∧ HRel M' B r.2 w' ∧ EnRel M' r.1 e
def ExRel (M : Mod) : Ex → Exit → Prop
  | .normal, e => e = .normal
  | .ret, e => e = .ret
  | .exit id, e => e = .exit id
  | .goto l, e => e = .goto l
  | .panic v, e => ∃ y, e = .panic [{ v := y, recovered := false }] ∧ VRel M v y
def Post (B : Base) (M : Mod) (sz : Nat) (r : Ex × St) (e : Exit) (a : Act) (w : World) : Prop :=
  ∃ M', M.le M' ∧ HRel M' B r.2.h w ∧ FRel M' sz r.2.fr a.tmps ∧ DRels M' r.2.ds a.defers ∧ ExRel M' r.1 e
theorem Act.put_defers' (a : Act) (dst : Option Tmp) (v : Value) : (a.put dst v).defers = a.defers := by cases dst <;> rfl
def RoOk (M : Mod) : Option Nat → Option Nat → Prop
  | none, none => True
  | some l, some k => M.ok l ∧ k = M.blk l
  | _, _ => False
theorem RoOk.mono0 {M M' : Mod} (h : M.le0 M') {ro rr : Option Nat} (hx : RoOk M ro rr) : RoOk M' ro rr := by
  cases ro <;> cases rr <;> simp only [RoOk] at hx ⊢
  exact ⟨(h.same _ hx.1).1, by rw [(h.same _ hx.1).2.1]; exact hx.2⟩
theorem callsIn_zero {P : Program} {f : FuncId} {args : Array Value} {w : World} {R : Ending → World → Prop} (ro : Option Nat) (n : Nat) (h : CallsIn Fence.wide 0 P f args w R) : CallsIn (Fw ro) n P f args w R := by
  have h' : CallsIn Fence.wide n P f args w R := callsIn_wide.2 (callsIn_wide.1 h)
  cases ro with
  | none => exact h'
  | some l => exact CallsIn.inRound l h'
theorem roundIn_zero {P : Program} {l f : Nat} {tmps : Array Value} {assign body : Code} {w : World} {R : Ending → World → Prop} (ro : Option Nat) (n : Nat) (h : RoundIn Fence.wide 0 P l f tmps assign body w R) : RoundIn (Fw ro) n P l f tmps assign body w R := by
  refine ⟨Fw_fn ro f, fun c cs hr => ?_⟩
  have := h.2 c cs (fun d hd => by simp [Fence.wide] at hd)
  cases ro <;> exact this
set_option maxHeartbeats 1000000 in
theorem stepOp_sound {P : Program} {tb : Nat → Option TI} (hT : TbOk P tb) {B : Base} {call : Caller} (hC : CallOk P B call) {ro rr : Option Nat} {n : Nat} {ev : Operand → Option V} {o : Oper} {h : Hp} {r : Res} (hr : stepOp tb call ro ev o.op h = some r) {M : Mod} {a : Act} {w : World}
    (H : HRel M B h w) (hro : RoOk M ro rr) (hev : ∀ x v, ev x = some v → VRel M v (a.eval x)) {K : Act → World → Prop} {Q : Exit → Act → World → Prop}
    (hK : match (generalizing := false) r with
      | .val v h' => ∀ M' w' z, M.le M' → HRel M' B h' w' → VRel M' v z → K (a.put o.dst z) w'
      | .dfr d h' => ∀ M' w' d', M.le M' → HRel M' B h' w' → DRel M' d d' → K ({ a with defers := d' :: a.defers }.put o.dst undef) w'
      | .pan v h' => ∀ M' w' y, M.le M' → HRel M' B h' w' → VRel M' v y → Q (.panic [{ v := y, recovered := false }]) a w') :
    o.wpIn (Fw rr) n P a w K Q := by
  refine ⟨fun f _ => Fw_fn rr f, ?_⟩
  unfold stepOp at hr
  split at hr
  · rename_i v hp
    cases hr
    have hnd : ∀ c, o.op ≠ .defer c := by intro c e; rw [e] at hp; simp [pureA] at hp
    obtain ⟨z, hz, hv⟩ := run_pureA hT hev hp w
    rw [Oper.semAt_eq _ _ _ hnd, hz]
    exact hK M w z (Mod.le.refl M) H hv
  · split at hr
    · rename_i v h' hp
      cases hr
      have hnd : ∀ c, o.op ≠ .defer c := by intro c e; rw [e] at hp; simp [heapA] at hp
      obtain ⟨M', w', z, hz, hle, H', hv⟩ := run_heapA hT H hev hp
      rw [Oper.semAt_eq _ _ _ hnd]
      rcases hz with hz | ⟨hz, rfl⟩
      · rw [hz]; exact hK M' w' z hle H' hv
      · rw [hz]; exact hK M' w' undef hle H' hv
    · split at hr
      · rename_i v h' hp
        cases hr
        have hnd : ∀ c, o.op ≠ .defer c := by intro c e; rw [e] at hp; simp [objA] at hp
        obtain ⟨M', w', z, hz, hle, H', hv⟩ := run_objA hT H hev hp
        rw [Oper.semAt_eq _ _ _ hnd]
        rcases hz with hz | ⟨hz, rfl⟩
        · rw [hz]; exact hK M' w' z hle H' hv
        · rw [hz]; exact hK M' w' undef hle H' hv
      split at hr <;> first | (cases hr; done) | skip
      · rename_i c hop
        split at hr <;> first | (cases hr; done) | skip
        rename_i f hcal
        rw [Oper.semAt_eq _ _ _ (by intro c e; rw [hop] at e; cases e)]
        split at hr <;> first | (cases hr; done) | skip
        · rename_i g first cap as hf has
          have hfv := hev _ _ hf
          simp only [VRel] at hfv
          obtain ⟨fs, cs, hfe, hfs, hcs⟩ := hfv
          have hav := evs_rel hev has
          unfold backR at hr
          split at hr <;> first | (cases hr; done) | skip
          all_goals rename_i v h' hcl
          all_goals
            cases hr
            have hargs : VRels M (first ++ as ++ cap) (fs ++ c.args.map a.eval ++ cs).toList := by simpa using (hfs.append hav).append hcs
            rcases hC.fn hcl H hargs with ⟨hen, hcall⟩ | ⟨v2, w', y, M', hv2, hrunc, hle, H', hv⟩
            · have hrun : (execOp a.eval o).run P w = .ok (.enter g (fs ++ c.args.map a.eval ++ cs)) w := by
                simp [execOp, hop, resolve, hcal, hfe, Deferred.ofValue, invoke]
                simpa using hen w
              rw [hrun]
              refine ⟨fun h => by simp [Fw_depth] at h, (callsIn_zero rr _ hcall).mono ?_⟩
              rintro e w' ⟨M', hle, H', he⟩
              simp only [EnRel] at he
              obtain ⟨y, rfl, hv⟩ := he
              exact hK M' w' y hle H' hv
            · first
                | (cases hv2
                   have hrun : (execOp a.eval o).run P w = .ok (.value y) w' := by
                     simp [execOp, hop, resolve, hcal, hfe, Deferred.ofValue, invoke]
                     simpa using hrunc
                   rw [hrun]
                   exact hK M' w' y hle H' hv)
                | cases hv2
        · rename_i l as hf has
          have hfv := hev _ _ hf
          simp only [VRel] at hfv
          obtain ⟨hl, hfe⟩ := hfv
          have hav := evs_rel hev has
          unfold backR at hr
          split at hr <;> first | (cases hr; done) | skip
          all_goals rename_i v h' hcl
          all_goals
            cases hr
            have hargs : VRels M as (c.args.map a.eval).toList := by simpa using hav
            obtain ⟨fn, tmps, assign, body, hy, hround⟩ := hC.yield hcl hl H hargs
            have hrun : (execOp a.eval o).run P w = .ok (.round (M.blk l) fn tmps assign body) w := by
              simp [execOp, hop, resolve, hcal, hfe, Deferred.ofValue, invoke]
              simpa using hy
            rw [hrun]
            refine ⟨fun h => by simp [Fw_depth] at h, (roundIn_zero rr _ hround).mono ?_⟩
            rintro e w' ⟨M', hle, H', he⟩
            simp only [EnRel] at he
            obtain ⟨y, rfl, hv⟩ := he
            exact hK M' w' y hle H' hv
      · rename_i c hop
        split at hr <;> first | (cases hr; done) | skip
        rename_i f hcal
        split at hr <;> first | (cases hr; done) | skip
        rename_i g first cap as hf has
        cases hr
        have hfv := hev _ _ hf
        simp only [VRel] at hfv
        obtain ⟨fs, cs, hfe, hfs, hcs⟩ := hfv
        have hav := evs_rel hev has
        cases rr with
        | some k => simp [RoOk] at hro
        | none =>
          have hrun : (o.semAt (Fw none).round a.eval).run P w = .ok (.defer { target := .fn g cs, args := fs ++ c.args.map a.eval }) w := by
            rw [Fw_round, Oper.semAt_none]
            simp [execOp, hop, resolve, hcal, hfe, Deferred.ofValue]
          rw [hrun]
          exact hK M w _ (Mod.le.refl M) H ⟨cs, _, rfl, hcs, by simpa using hfs.append hav⟩
      · rename_i x hop
        split at hr <;> first | (cases hr; done) | skip
        rename_i t v hx
        cases hr
        have hxv := hev _ _ hx
        have hxv' := hxv
        simp only [VRel] at hxv
        obtain ⟨y, hy, _⟩ := hxv
        rw [Oper.semAt_eq _ _ _ (by intro c e; rw [hop] at e; cases e)]
        have hrun : (execOp a.eval o).run P w = .halt (.panic (.iface t y)) w := by
          simp [execOp, hop, hy, Instr.panic, Result.andThen]
        rw [hrun]
        rw [hy] at hxv'
        exact hK M w (.iface t y) (Mod.le.refl M) H hxv'
theorem undef_rel (M : Mod) : VRel M (.tup []) undef := by simp only [VRel, undef]; exact ⟨#[], rfl, by simp [VRels]⟩
theorem runOp_sound {P : Program} {tb : Nat → Option TI} (hT : TbOk P tb) {B : Base} {call : Caller} (hC : CallOk P B call) {ro rr : Option Nat} {n sz : Nat} {o : Oper} {s : St} {r : Ex × St} (hr : runOp tb call ro sz o s = some r) {M : Mod} {a : Act} {w : World}
    (H : HRel M B s.h w) (hro : RoOk M ro rr) (hF : FRel M sz s.fr a.tmps) (hd : DRels M s.ds a.defers) {K : Act → World → Prop} {Q : Exit → Act → World → Prop} (hK : r.1 = .normal → ∀ a' w', Post B M sz r .normal a' w' → K a' w') (hQ : r.1 ≠ .normal → ∀ e a' w', Post B M sz r e a' w' → Q e a' w') :
    o.wpIn (Fw rr) n P a w K Q := by
  unfold runOp at hr
  split at hr <;> first | (cases hr; done) | skip
  · rename_i v h hst
    split at hr <;> first | (cases hr; done) | skip
    rename_i fr hfr
    cases hr
    refine stepOp_sound hT hC hst H hro (evF_rel hF) ?_
    intro M' w' z hle H' hv
    exact hK rfl _ _ ⟨M', hle, H', putF_rel (hF.mono hle) hfr hv, by rw [Act.put_defers']; exact hd.mono hle, rfl⟩
  · rename_i d h hst
    split at hr <;> first | (cases hr; done) | skip
    rename_i fr hfr
    cases hr
    refine stepOp_sound hT hC hst H hro (evF_rel hF) ?_
    intro M' w' d' hle H' hv
    have hF' : FRel M' sz s.fr ({ a with defers := d' :: a.defers } : Act).tmps := hF.mono hle
    exact hK rfl _ _ ⟨M', hle, H', putF_rel hF' hfr (undef_rel M'), by rw [Act.put_defers']; exact ⟨hv, hd.mono hle⟩, rfl⟩
  · rename_i v h hst
    cases hr
    refine stepOp_sound hT hC hst H hro (evF_rel hF) ?_
    intro M' w' y hle H' hv
    exact hQ (by simp) _ _ _ ⟨M', hle, H', hF.mono hle, hd.mono hle, y, rfl, hv⟩
theorem wanted_of {M : Mod} {sz : Nat} {ops : Array Oper} {fr : List (Nat × V)} {a : Act} (hF : FRel M sz fr a.tmps) {o : Oper} {t : Bool} (h : wantedA ops fr o = some t) : Region.wanted o (yielded ops a.tmps) = t := by
  unfold wantedA at h
  unfold Region.wanted
  split at h
  · cases h; rename_i hg; simp [hg]
  · rename_i j want hg
    rw [hg]
    split at h <;> first | (cases h; done) | skip
    rename_i p hp
    split at h <;> first | (cases h; done) | skip
    rename_i d hd
    split at h <;> first | (cases h; done) | skip
    · rename_i t' hl
      cases h
      obtain ⟨y, hy, hv⟩ := hF.2 d _ hl
      simp only [VRel] at hv; subst hv
      simp [yielded, hp, hd, hy]
    · rename_i l hl
      cases h
      obtain ⟨y, hy, hv⟩ := hF.2 d _ hl
      simp only [VRel] at hv
      obtain ⟨cs, rfl, _⟩ := hv
      simp [yielded, hp, hd, hy]
theorem Post.mono {B : Base} {M M' : Mod} (h : M.le M') {sz : Nat} {r : Ex × St} {e : Exit} {a : Act} {w : World} (hp : Post B M' sz r e a w) : Post B M sz r e a w := by
  obtain ⟨M2, h2, rest⟩ := hp
  exact ⟨M2, h.trans h2, rest⟩
theorem runOps_sound {P : Program} {tb : Nat → Option TI} (hT : TbOk P tb) {B : Base} {call : Caller} (hC : CallOk P B call) {ro rr : Option Nat} {n sz : Nat} {ops : Array Oper} {Q : Exit → Act → World → Prop} : ∀ (l : List Nat) (os : List Oper) (s : St) (r : Ex × St) (M : Mod) (a : Act) (w : World),
    (l.map fun i => ops[i]?) = os.map some → runOps tb call ro sz ops os s = some r → HRel M B s.h w → RoOk M ro rr → FRel M sz s.fr a.tmps → DRels M s.ds a.defers → (∀ e a' w', Post B M sz r e a' w' → Q e a' w') → wpOpsIn (Fw rr) n P ops Q l a w
  | [], os, s, r, M, a, w, ho, hr, H, hro, hF, hd, hQ => by
    have : os = [] := by cases os with
      | nil => rfl
      | cons => simp at ho
    subst this
    simp [runOps] at hr; subst hr
    exact hQ _ _ _ ⟨M, Mod.le.refl M, H, hF, hd, rfl⟩
  | i :: l, os, s, r, M, a, w, ho, hr, H, hro, hF, hd, hQ => by
    cases os with
    | nil => simp at ho
    | cons o os =>
      simp only [List.map_cons, List.cons.injEq] at ho
      obtain ⟨hi, ho⟩ := ho
      simp only [runOps] at hr
      simp only [wpOpsIn, hi]
      split at hr
      · cases hr
      · rename_i hw
        rw [wanted_of hF hw]
        simp only [Bool.false_eq_true, if_false]
        refine ⟨fun f _ => Fw_fn rr f, ?_⟩
        split at hr <;> first | (cases hr; done) | skip
        rename_i fr hfr
        exact runOps_sound hT hC l os ⟨fr, s.ds, s.h⟩ r M _ w ho hr H hro (putF_rel hF hfr (undef_rel M)) (by rw [Act.put_defers']; exact hd) hQ
      · rename_i hw
        rw [wanted_of hF hw]
        simp only [if_true]
        split at hr
        · rename_i s' hop
          refine runOp_sound hT hC hop H hro hF hd (fun _ a' w' hp => ?_) (fun h => absurd rfl h)
          obtain ⟨M', hle, H', hF', hd', _⟩ := hp
          exact runOps_sound hT hC l os s' r M' a' w' ho hr H' (hro.mono0 hle.toLe0) hF' hd' (fun e a2 w2 h2 => hQ e a2 w2 (h2.mono hle))
        · rename_i x hx
          refine runOp_sound hT hC hr H hro hF hd (fun hn a' w' hp => ?_) (fun _ => hQ)
          obtain ⟨ex, s'⟩ := r
          simp only at hn; subst hn
          exact absurd hr (hx s')
end Go.Mx

namespace Go.Mx
mutual
def vbeq : V → V → Bool
  | .b a, .b c => a == c
  | .i k n, .i k' n' => decide (k = k') && decide (n = n')
  | .s a, .s c => decide (a = c)
  | .nilp, .nilp => true
  | .p a o, .p c o' => a == c && o == o'
  | .nils, .nils => true
  | .sl b o n c z, .sl b' o' n' c' z' => b == b' && o == o' && n == n' && decide (c = c') && z == z'
  | .se b z, .se b' z' => b == b' && z == z'
  | .nilm, .nilm => true
  | .m a, .m c => a == c
  | .nilf, .nilf => true
  | .f g x c, .f g' x' c' => decide (g = g') && vbeqs x x' && vbeqs c c'
  | .y a, .y c => a == c
  | .nili, .nili => true
  | .ifc t v, .ifc t' v' => t == t' && vbeq v v'
  | .agg l, .agg l' => vbeqs l l'
  | .tup l, .tup l' => vbeqs l l'
  | _, _ => false
def vbeqs : List V → List V → Bool
  | [], [] => true
  | x :: xs, y :: ys => vbeq x y && vbeqs xs ys
  | _, _ => false
end
mutual
theorem veq_of : ∀ {a b : V}, vbeq a b = true → a = b := by
  intro a b h
  cases a <;> cases b <;> simp only [vbeq, Bool.and_eq_true, decide_eq_true_eq, beq_iff_eq, Bool.false_eq_true] at h <;> first
    | rfl
    | (obtain ⟨h1, h2⟩ := h; subst h1; first | (subst h2; rfl) | (rw [veq_of h2]) | skip)
    | (subst h; rfl)
    | (rw [veqs_of h])
    | skip
  all_goals (try (obtain ⟨⟨⟨⟨h1, h2⟩, h3⟩, h4⟩, h5⟩ := h; subst h1 h2 h3 h4 h5; rfl))
  all_goals (try (obtain ⟨h1, h2⟩ := h1; subst h1; rw [veqs_of h2, veqs_of h3]))
  all_goals (try (obtain ⟨⟨h1, h2⟩, h3⟩ := h; subst h1; rw [veqs_of h2, veqs_of h3]))
theorem veqs_of : ∀ {a b : List V}, vbeqs a b = true → a = b
  | [], [], _ => rfl
  | x :: xs, y :: ys, h => by
    simp only [vbeqs, Bool.and_eq_true] at h
    rw [veq_of h.1, veqs_of h.2]
  | [], _ :: _, h => by simp [vbeqs] at h
  | _ :: _, [], h => by simp [vbeqs] at h
end
def clsA : Op → Nat
  | .load .. | .slice .. | .build .. => 1
  | .alloc _ | .makeSlice .. => 2
  | .move _ | .pick .. | .nilCheck _ | .binOp .. | .unOp .. | .convert .. | .makeInterface .. | .makeFunc .. | .fieldAddr .. | .field .. | .index .. | .indexAddr .. | .extract .. | .typeAssert .. => 0
  | .call { callee := .builtin .len, .. } | .call { callee := .builtin .cap, .. } | .call { callee := .builtin .min, .. } | .call { callee := .builtin .max, .. } => 0
  | _ => 3
def isRead : Op → Bool
  | .load .. | .slice .. | .build .. => true
  | _ => false
def readA (tb : Nat → Option TI) (ev : Operand → Option V) (o : Op) (h : Hp) : Option V :=
  match pureA tb ev o with
  | some v => some v
  | none => if isRead o then (match heapA tb ev o h with
    | some (v, _) => some v
    | none => (match objA tb ev o h with
      | some (v, _) => some v
      | none => none)) else none
def befs (acc : List Nat) : List Oper → List Nat
  | [] => acc
  | o :: r => befs (acc ++ [o.after.toList.foldl (fun s e => if Region.binds .any e then s ||| 2 ^ e.on ||| acc.getD e.on 0 else s) 0]) r
def badOf (l : List (Oper × Nat)) (bs : List Nat) (i : Nat) : List Nat :=
  l.filterMap fun p => if (bs.getD i 0).testBit p.2 then none else if clsA p.1.op == 3 && (bs.getD p.2 0).testBit i then none else p.1.dst
def evR (fr : List (Nat × V)) (bad : List Nat) : Operand → Option V
  | .tmp t => if bad.contains t then none else look fr t
  | x => evF fr x
def wantedR (l : List (Oper × Nat)) (ev : Operand → Option V) (o : Oper) : Option Bool :=
  match o.guard with
  | none => some true
  | some (j, want) => match l[j]? with
    | none => none
    | some (p, _) => match p.dst with
      | none => none
      | some d => match ev (.tmp d) with
        | some (.b t) => some (t == want)
        | some (.tup _) => some false
        | _ => none
def readyA (bs : List Nat) (S i : Nat) : Bool := !S.testBit i && ((bs.getD i 0) &&& S == bs.getD i 0)
structure Ld where
  i : Nat
  o : Op
  bad : List Nat
  v : V
structure Al where
  i : Nat
  nb : Nat
  t : Nat
  zero : List V
def ldsOk (tb : Nat → Option TI) (fr : List (Nat × V)) (h : Hp) (b : Nat) (lds : List Ld) : Bool :=
  lds.all fun x => b.testBit x.i || (match readA tb (evR fr x.bad) x.o h with
    | some v => vbeq v x.v
    | none => false)
def alsOk (h : Hp) (b : Nat) (als : List Al) : Bool :=
  als.all fun x => b.testBit x.i || (match h.get x.nb with
    | some (.blk t cells true) => t == 2 * x.t && vbeqs cells x.zero
    | _ => false)
def newS (tb : Nat → Option TI) (ev : Operand → Option V) (t : Nat) (n c : Operand) : Option (Nat × List V × (Nat → V)) :=
  match tb t, ev n, ev c with
  | some ti, some (.i .i64 n), some (.i .i64 c) => (match ti.d with
    | .slice e => (match tb e with
      | some te => if 0 ≤ n ∧ n ≤ c ∧ c ≤ 9223372036854775807 ∧ te.bytes * c ≤ 281474976710656 ∧ te.zero.length = te.size then some (e, rep c.toNat te.zero, fun b => .sl b 0 n.toNat (some c.toNat) te.size) else none
      | none => none)
    | _ => none)
  | _, _, _ => none
def drawGo (tb : Nat → Option TI) (call : Caller) (ro : Option Nat) (sz : Nat) (l : List (Oper × Nat)) (bs dsts : List Nat) : Nat → Nat → List Ld → List Al → St → Option (Ex × St)
  | 0, _, _, _, _ => none
  | fuel + 1, S, lds, als, s =>
    match l.find? (fun p => decide (clsA p.1.op < 3) && readyA bs S p.2) with
    | some (o, i) =>
      let bad := badOf l bs i
      (match wantedR l (evR s.fr bad) o with
      | none => none
      | some false => (match putF sz s.fr o.dst (.tup []) with
        | some fr => drawGo tb call ro sz l bs dsts fuel (S ||| 2 ^ i) lds als ⟨fr, s.ds, s.h⟩
        | none => none)
      | some true => (match o.op with
        | .alloc t => (match tb t, putF sz s.fr o.dst (.p s.h.n 0) with
          | some ti, some fr => if ldsOk tb s.fr (s.h.push (.blk (2 * t) ti.zero true)) 0 lds then
              drawGo tb call ro sz l bs dsts fuel (S ||| 2 ^ i) lds (⟨i, s.h.n, t, ti.zero⟩ :: als) ⟨fr, s.ds, s.h.push (.blk (2 * t) ti.zero true)⟩ else none
          | _, _ => none)
        | .makeSlice t n c => (match newS tb (evR s.fr bad) t n c with
          | some (e, zero, vf) => (match putF sz s.fr o.dst (vf s.h.n) with
            | some fr => if ldsOk tb s.fr (s.h.push (.blk (2 * e) zero true)) 0 lds then
                drawGo tb call ro sz l bs dsts fuel (S ||| 2 ^ i) lds (⟨i, s.h.n, e, zero⟩ :: als) ⟨fr, s.ds, s.h.push (.blk (2 * e) zero true)⟩ else none
            | none => none)
          | none => none)
        | _ => (match readA tb (evR s.fr bad) o.op s.h with
          | some v => (match putF sz s.fr o.dst v with
            | some fr => drawGo tb call ro sz l bs dsts fuel (S ||| 2 ^ i) (if clsA o.op = 1 then ⟨i, o.op, bad, v⟩ :: lds else lds) als ⟨fr, s.ds, s.h⟩
            | none => none)
          | none => none)))
    | none => match l.filter (fun p => readyA bs S p.2) with
      | [] => if S == 2 ^ l.length - 1 then some (.normal, s) else none
      | [(o, i)] =>
        (match wantedR l (evR s.fr (badOf l bs i)) o with
        | none => none
        | some false => (match putF sz s.fr o.dst (.tup []) with
          | some fr => drawGo tb call ro sz l bs dsts fuel (S ||| 2 ^ i) lds als ⟨fr, s.ds, s.h⟩
          | none => none)
        | some true => (match stepOp tb call ro (evR s.fr (badOf l bs i)) o.op s.h with
          | none => none
          | some (.pan v h) => some (.panic v, ⟨s.fr.filter (fun p => !dsts.contains p.1), s.ds, h⟩)
          | some (.dfr d h) => (match putF sz s.fr o.dst (.tup []) with
            | some fr => if ldsOk tb s.fr h (bs.getD i 0) lds && alsOk h (bs.getD i 0) als then drawGo tb call ro sz l bs dsts fuel (S ||| 2 ^ i) lds als ⟨fr, d :: s.ds, h⟩ else none
            | none => none)
          | some (.val v h) => (match putF sz s.fr o.dst v with
            | some fr => if ldsOk tb s.fr h (bs.getD i 0) lds && alsOk h (bs.getD i 0) als then drawGo tb call ro sz l bs dsts fuel (S ||| 2 ^ i) lds als ⟨fr, s.ds, h⟩ else none
            | none => none)))
      | _ => none
def distinctN : List Nat → Bool
  | [] => true
  | x :: r => !r.contains x && distinctN r
def downOk (l : List (Oper × Nat)) : Bool := l.all fun (o, i) => o.after.toList.all fun e => !Region.binds .any e || decide (e.on < i)
def drawA (tb : Nat → Option TI) (call : Caller) (ro : Option Nat) (sz : Nat) (ops : Array Oper) (s : St) : Option (Ex × St) :=
  let l := ops.toList.zipIdx
  let dsts := l.filterMap fun p => p.1.dst
  if distinctN dsts && downOk l then drawGo tb call ro sz l (befs [] ops.toList) dsts (2 * l.length + 1) 0 [] [] s else none
end Go.Mx

namespace Go.Mx
theorem run_readA {P : Program} {tb : Nat → Option TI} (hT : TbOk P tb) {M : Mod} {B : Base} {h : Hp} {w : World} (H : HRel M B h w) {ev : Operand → Option V} {evr : Operand → Value} (hev : ∀ x v, ev x = some v → VRel M v (evr x))
    {o : Oper} {v : V} (ho : readA tb ev o.op h = some v) : ∃ z, (execOp evr o).run P w = .ok (.value z) w ∧ VRel M v z := by
  unfold readA at ho
  split at ho
  · rename_i v' hp; cases ho; exact run_pureA hT hev hp w
  split at ho <;> first | (cases ho; done) | skip
  rename_i hrd
  split at ho
  · rename_i v' h' hh
    cases ho
    unfold heapA at hh
    unfold execOp
    unfold isRead at hrd
    split at hh <;> (try (rename_i hop; rw [hop])) <;> (try (rw [hop] at hrd; simp at hrd; done))
    · split at hh <;> first | (cases hh; done) | skip
      rename_i p hx
      split at hh <;> first | (cases hh; done) | skip
      rename_i v hl
      cases hh
      obtain ⟨z, hz, hv⟩ := run_loadA (P := P) hT H hl (hev _ _ hx)
      exact ⟨z, by simp [hz], hv⟩
    · split at hh <;> first | (cases hh; done) | skip
      rename_i l hl
      split at hh <;> first | (cases hh; done) | skip
      rename_i v hb
      cases hh
      obtain ⟨p1, p2⟩ := partsA_rel hev hl
      obtain ⟨z, hz, hv⟩ := run_buildA (P := P) hT hb (PS := (Array.map (fun (i, x) => (i, evr x)) _)) (by simpa using p1) (by simpa using p2) w
      exact ⟨z, by simp [hz], hv⟩
    · split at hh <;> first | (cases hh; done) | skip
      rename_i hx h1 h2
      split at hh <;> first | (cases hh; done) | skip
      rename_i hs
      cases hh
      obtain ⟨z, hz, hv⟩ := run_arrSliceA (P := P) (mx := none) (m' := none) hT H hev h1 h2 (by simp [bnd]) hs (hev _ _ hx)
      simp only [Option.map_none] at hz
      exact ⟨z, by simp [hz], hv⟩
    · cases hh
  · split at ho <;> first | (cases ho; done) | skip
    rename_i v' h' hh
    cases ho
    unfold objA at hh
    unfold execOp
    unfold isRead at hrd
    split at hh <;> (try (rename_i hop; rw [hop])) <;> (try (rw [hop] at hrd; simp at hrd; done))
    · split at hh <;> first | (cases hh; done) | skip
      rename_i b q n z l' h'' hx h1 h2
      split at hh <;> first | (cases hh; done) | skip
      rename_i ti ty cells rw_ ht hg
      split at hh <;> first | (cases hh; done) | skip
      rename_i e hd
      split at hh <;> first | (cases hh; done) | skip
      rename_i te he
      split at hh <;> first | (cases hh; done) | skip
      rename_i hz
      split at hh <;> first | (cases hh; done) | skip
      rename_i l hh' m hb
      split at hh <;> first | (cases hh; done) | skip
      rename_i hl
      cases hh
      obtain ⟨y, hy, hv⟩ := run_sliceMore (P := P) hT H hev ht hd he hz hg (hev _ _ hx) h1 h2 hb hl
      exact ⟨y, by simp [hy], hv⟩
    · cases hh
theorem readA_calm {tb : Nat → Option TI} {ev : Operand → Option V} {o : Op} (h1 : clsA o ≠ 1) (h h' : Hp) : readA tb ev o h = readA tb ev o h' := by
  have hr : isRead o = false := by cases o <;> simp_all [clsA, isRead]
  simp [readA, hr]
theorem fold_bit {α : Type} (p : α → Bool) (on : α → Nat) (g : α → Nat) (j : Nat) : ∀ (l : List α) (s : Nat), (l.foldl (fun s e => if p e then s ||| 2 ^ on e ||| g e else s) s).testBit j = true → s.testBit j = true ∨ ∃ e ∈ l, p e = true ∧ (on e = j ∨ (g e).testBit j = true)
  | [], s, h => .inl h
  | e :: l, s, h => by
    simp only [List.foldl_cons] at h
    rcases fold_bit p on g j l _ h with h1 | ⟨e', he, h2⟩
    · split at h1
      · rename_i hp
        simp only [Nat.testBit_or, Bool.or_eq_true, Nat.testBit_two_pow, decide_eq_true_eq] at h1
        rcases h1 with (h1 | h1) | h1
        · exact .inl h1
        · exact .inr ⟨e, by simp, hp, .inl h1⟩
        · exact .inr ⟨e, by simp, hp, .inr h1⟩
      · exact .inl h1
    · exact .inr ⟨e', by simp [he], h2⟩
def foldB (bs : List Nat) (o : Oper) : Nat := o.after.toList.foldl (fun s e => if Region.binds .any e then s ||| 2 ^ e.on ||| bs.getD e.on 0 else s) 0
theorem befs_prefix : ∀ (l : List Oper) (acc : List Nat) (k : Nat), k < acc.length → (befs acc l)[k]? = acc[k]?
  | [], _, _, _ => rfl
  | o :: l, acc, k, hk => by
    simp only [befs]
    rw [befs_prefix l _ k (by simp; omega), List.getElem?_append_left hk]
theorem befs_at : ∀ (l : List Oper) (acc : List Nat) (i : Nat) (o : Oper), l[i]? = some o → (befs acc l)[acc.length + i]? = some (foldB ((befs acc l).take (acc.length + i)) o)
  | [], _, i, o, h => by simp at h
  | p :: l, acc, 0, o, h => by
    simp at h; subst h
    simp only [befs, Nat.add_zero]
    rw [befs_prefix l _ acc.length (by simp)]
    have ht : (befs (acc ++ [foldB acc p]) l).take acc.length = acc := by
      apply List.ext_getElem?
      intro k
      by_cases hk : k < acc.length
      · rw [List.getElem?_take_of_lt hk, befs_prefix l _ k (by simp; omega), List.getElem?_append_left hk]
      · rw [List.getElem?_eq_none (by simp; omega), List.getElem?_eq_none (by omega)]
    show (acc ++ [foldB acc p])[acc.length]? = some (foldB ((befs (acc ++ [foldB acc p]) l).take acc.length) p)
    rw [ht]; simp
  | p :: l, acc, i + 1, o, h => by
    simp only [befs]
    have := befs_at l (acc ++ [foldB acc p]) i o (by simpa using h)
    simp only [List.length_append, List.length_singleton] at this
    rw [show acc.length + (i + 1) = acc.length + 1 + i by omega]
    exact this
theorem befs_edge {os : List Oper} {i : Nat} {o : Oper} (ho : os[i]? = some o) {j : Nat} (hj : ((befs [] os).getD i 0).testBit j = true) : ∃ e ∈ o.after, Region.binds .any e = true ∧ (e.on = j ∨ ((befs [] os).getD e.on 0).testBit j = true) := by
  have h1 := befs_at os [] i o ho
  simp only [List.length_nil, Nat.zero_add] at h1
  rw [List.getD_eq_getElem?_getD, h1] at hj
  simp only [Option.getD_some, foldB] at hj
  rcases fold_bit _ _ _ _ _ _ hj with h | ⟨e, he, hb, h⟩
  · simp at h
  · refine ⟨e, by simpa using he, hb, ?_⟩
    rcases h with h | h
    · exact .inl h
    · right
      rw [List.getD_eq_getElem?_getD] at h ⊢
      by_cases hk : e.on < i
      · rw [List.getElem?_take_of_lt hk] at h; exact h
      · rw [List.getElem?_eq_none (by simp; omega)] at h; simp at h
theorem all_of_ready {ops : Array Oper} {listed : Array Bool} (hd : downOk ops.toList.zipIdx = true) (hr : Region.ready .any ops listed = []) (hs : listed.size = ops.size) : ∀ i, i < ops.size → listed.getD i false = true := by
  intro i
  induction i using Nat.strongRecOn with
  | ind i ih =>
    intro hi
    apply Classical.byContradiction
    intro hn
    have hmem : i ∈ Region.ready .any ops listed := by
      rw [mem_ready]
      refine ⟨?_, ops[i], by simp [hi], fun e he hb => ?_⟩
      · have hli : i < listed.size := by omega
        simp [hli] at hn ⊢
        exact hn
      · have hon : e.on < i := by
          simp only [downOk, List.all_eq_true] at hd
          have := hd (ops[i], i) (by rw [List.mk_mem_zipIdx_iff_getElem?]; simp [hi])
          simp only [List.all_eq_true] at this
          have := this e (by simpa using he)
          simpa [hb] using this
        exact ih e.on hon (by omega)
    rw [hr] at hmem; cases hmem
end Go.Mx
