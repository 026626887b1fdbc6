/- The functions that compare; the law's frame. -/
import Derived.Test.YtedekdoelkdniaaGreatDoorKo
set_option linter.all false
namespace Go.Mx
open Go.Proofs
set_option maxRecDepth 100000
set_option maxHeartbeats 2000000
theorem S.fgreat_ok {tb fc} (T : S.Ty tb) {call call' : Caller} {lf : Nat} (hlf : 2000000000000 ≤ lf) (hc : ∀ args h, call' (.fn 25) args h = runF tb fc call lf Tryz.f25 args h) {h : Hp} {E : EyeS} (hE : EyeV 3 9 h E) (hl : E.ss.length ≤ 1000000000000) :
    ∃ t h', call' (.fn 25) [E.val] h = some (.ret (.b t), h') ∧ Ext h h' := by
  suffices H : Wf tb fc call lf Tryz.f25 [E.val] h (fun v h' => ∃ t, v = .b t ∧ Ext h h') by
    obtain ⟨v, h', h1, t, rfl, h2⟩ := H
    exact ⟨t, h', by rw [hc]; exact h1, h2⟩
  obtain ⟨hsl, hsx⟩ := (hE.s.ext (Ext.push h (.blk (2 * 54) [E.nv, E.sv, .b E.mark, .i .i64 E.at_, .b E.rm] true))).ix T.s
  obtain ⟨hnl, _⟩ := hE.n.ix T.n
  rw [List.length_map] at hsl hsx hnl
  refine Wf.intro (sz := 27) rfl rfl fun K hn0 hr0 => ?_
  repeat refine Wc.assoc ?_
  refine Wc.seq fun K1 hn1 hx1 => ?_
  refine Wc.rg ?_
  refine Wo.val rfl (by simp only [MS, Nat.reduceBEq, Nat.reduceBNe, Nat.reduceEqDiff, reduceIte, if_true, if_false, reduceCtorEq, Nat.reduceAdd, Nat.reduceMul, Nat.reduceLeDiff, Nat.reduceLT, Nat.reduceDiv, Nat.reduceSub, cval, cv, TS T, EyeS.val] <;> rfl) rfl ?_
  refine Wo.val rfl (by first | rfl | (simp only [MS, Nat.reduceBEq, Nat.reduceBNe, Nat.reduceEqDiff, reduceIte, if_true, if_false, reduceCtorEq, Nat.reduceAdd, Nat.reduceMul, Nat.reduceLeDiff, Nat.reduceLT, Nat.reduceDiv, Nat.reduceSub, cval, cv, TS T, EyeS.val] <;> rfl)) rfl ?_
  refine Wo.nil ?_
  refine hn1 _ ?_
  have hg1 : (h.push (.blk (2 * 54) [E.nv, E.sv, .b E.mark, .i .i64 E.at_, .b E.rm] true)).get h.n = some (.blk 108 [E.nv, E.sv, .b E.mark, .i .i64 E.at_, .b E.rm] true) := Hp.get_push_self _ _
  have hx0 := Ext.push h (.blk (2 * 54) [E.nv, E.sv, .b E.mark, .i .i64 E.at_, .b E.rm] true)
  generalize h.push (.blk (2 * 54) [E.nv, E.sv, .b E.mark, .i .i64 E.at_, .b E.rm] true) = h1 at hg1 hx0 hsx ⊢
  repeat refine Wc.assoc ?_
  refine Wc.seq fun K2 hn2 hx2 => ?_
  refine Wc.rg ?_
  refine Wo.val rfl (by first | rfl | (simp only [MS, Nat.reduceBEq, Nat.reduceBNe, Nat.reduceEqDiff, reduceIte, if_true, if_false, reduceCtorEq, Nat.reduceAdd, Nat.reduceMul, Nat.reduceLeDiff, Nat.reduceLT, Nat.reduceDiv, Nat.reduceSub, cval, cv, TS T] <;> rfl)) rfl ?_
  refine Wo.nil ?_
  refine hn2 _ ?_
  repeat refine Wc.assoc ?_
  refine Wc.seq fun K3 hn3 hx3 => ?_
  refine Wc.rg ?_
  refine Wo.val rfl (by first | rfl | (simp only [MS, Nat.reduceBEq, Nat.reduceBNe, Nat.reduceEqDiff, reduceIte, if_true, if_false, reduceCtorEq, Nat.reduceAdd, Nat.reduceMul, Nat.reduceLeDiff, Nat.reduceLT, Nat.reduceDiv, Nat.reduceSub, cval, cv, TS T] <;> rfl)) rfl ?_
  refine Wo.nil ?_
  refine hn3 _ ?_
  repeat refine Wc.assoc ?_
  refine Wc.seq fun K4 hn4 hx4 => ?_
  refine Wc.block fun K5 hb5 hx5 => ?_
  refine Wc.loop (fun k s => ∃ i fr x, s = ⟨fr, [], h1⟩ ∧ i + k = E.ss.length ∧ look fr 1 = some (.p h.n 0) ∧ look fr 3 = some (.i .i64 x) ∧ look fr 4 = some (.i .i64 (i : Nat))) E.ss.length (by omega) ⟨0, _, 0, rfl, by omega, rfl, rfl, rfl⟩ ?_
  rintro k _ ⟨i, fr, x, rfl, hik, f1, f3, f4⟩ KL hnL hxL
  repeat refine Wc.assoc ?_
  refine Wc.seq fun K6 hn6 hx6 => ?_
  refine Wc.rg ?_
  refine Wo.val rfl (by first | rfl | (simp only [MS, Nat.reduceBEq, Nat.reduceBNe, Nat.reduceEqDiff, reduceIte, if_true, if_false, reduceCtorEq, Nat.reduceAdd, Nat.reduceMul, Nat.reduceLeDiff, Nat.reduceLT, Nat.reduceDiv, Nat.reduceSub, TS T, f1, f4, hg1, hsl] <;> rfl)) rfl ?_
  refine Wo.val rfl (by simp only [MS, Nat.reduceBEq, Nat.reduceBNe, Nat.reduceEqDiff, reduceIte, if_true, if_false, reduceCtorEq, Nat.reduceAdd, Nat.reduceMul, Nat.reduceLeDiff, Nat.reduceLT, Nat.reduceDiv, Nat.reduceSub, TS T, f1, f4, hg1, hsl] <;> rfl) rfl ?_
  refine Wo.val rfl (by simp only [MS, Nat.reduceBEq, Nat.reduceBNe, Nat.reduceEqDiff, reduceIte, if_true, if_false, reduceCtorEq, Nat.reduceAdd, Nat.reduceMul, Nat.reduceLeDiff, Nat.reduceLT, Nat.reduceDiv, Nat.reduceSub, loadA, partV, TS T, f1, f4, hg1, hsl] <;> rfl) rfl ?_
  refine Wo.val rfl (by simp only [MS, Nat.reduceBEq, Nat.reduceBNe, Nat.reduceEqDiff, reduceIte, if_true, if_false, reduceCtorEq, Nat.reduceAdd, Nat.reduceMul, Nat.reduceLeDiff, Nat.reduceLT, Nat.reduceDiv, Nat.reduceSub, cval, cv, TS T, f1, f4, hg1, hsl] <;> rfl) rfl ?_
  refine Wo.val rfl (by simp only [MS, Nat.reduceBEq, Nat.reduceBNe, Nat.reduceEqDiff, reduceIte, if_true, if_false, reduceCtorEq, Nat.reduceAdd, Nat.reduceMul, Nat.reduceLeDiff, Nat.reduceLT, Nat.reduceDiv, Nat.reduceSub, binA, arithA, strA, isC, cval, cv, TS T, f1, f4, hg1, hsl] <;> rfl) rfl ?_
  refine Wo.nil ?_
  refine hn6 _ ?_
  refine Wc.seq fun K7 hn7 hx7 => ?_
  refine Wc.cond (t := decide ((i : Int) < (E.ss.length : Int))) rfl (fun hd => ?_) fun hd => ?_
  · refine Wc.skip (hn7 _ ?_)
    have hi : i < E.ss.length := by have := of_decide_eq_true hd; omega
    obtain ⟨b, ty, hia, hblt, hgb⟩ := hsx i hi
    have hgi : (E.ss.map V.s)[i]? = some (.s E.ss[i]) := by simp [hi]
    refine Wc.seq fun K8 hn8 hx8 => ?_
    refine Wc.block fun K9 hb9 hx9 => ?_
    repeat refine Wc.assoc ?_
    refine Wc.seq fun K10 hn10 hx10 => ?_
    refine Wc.rg ?_
    refine Wo.val rfl (by first | rfl | (simp only [MS, Nat.reduceBEq, Nat.reduceBNe, Nat.reduceEqDiff, reduceIte, if_true, if_false, reduceCtorEq, Nat.reduceAdd, Nat.reduceMul, Nat.reduceLeDiff, Nat.reduceLT, Nat.reduceDiv, Nat.reduceSub, TS T, f1, f3, f4, hg1, hia, hgb, hgi] <;> rfl)) rfl ?_
    refine Wo.val rfl (by simp only [MS, Nat.reduceBEq, Nat.reduceBNe, Nat.reduceEqDiff, reduceIte, if_true, if_false, reduceCtorEq, Nat.reduceAdd, Nat.reduceMul, Nat.reduceLeDiff, Nat.reduceLT, Nat.reduceDiv, Nat.reduceSub, TS T, f1, f3, f4, hg1, hia, hgb, hgi] <;> rfl) rfl ?_
    refine Wo.val rfl (by simp only [MS, Nat.reduceBEq, Nat.reduceBNe, Nat.reduceEqDiff, reduceIte, if_true, if_false, reduceCtorEq, Nat.reduceAdd, Nat.reduceMul, Nat.reduceLeDiff, Nat.reduceLT, Nat.reduceDiv, Nat.reduceSub, loadA, partV, TS T, f1, f3, f4, hg1, hia, hgb, hgi] <;> rfl) rfl ?_
    refine Wo.val rfl (by first | rfl | (simp only [MS, Nat.reduceBEq, Nat.reduceBNe, Nat.reduceEqDiff, reduceIte, if_true, if_false, reduceCtorEq, Nat.reduceAdd, Nat.reduceMul, Nat.reduceLeDiff, Nat.reduceLT, Nat.reduceDiv, Nat.reduceSub, TS T, f1, f3, f4, hg1, hia, hgb, hgi] <;> rfl)) rfl ?_
    refine Wo.val rfl (by simp only [MS, Nat.reduceBEq, Nat.reduceBNe, Nat.reduceEqDiff, reduceIte, if_true, if_false, reduceCtorEq, Nat.reduceAdd, Nat.reduceMul, Nat.reduceLeDiff, Nat.reduceLT, Nat.reduceDiv, Nat.reduceSub, cval, cv, TS T, f1, f3, f4, hg1, hia, hgb, hgi] <;> rfl) rfl ?_
    refine Wo.val rfl (by simp only [MS, Nat.reduceBEq, Nat.reduceBNe, Nat.reduceEqDiff, reduceIte, if_true, if_false, reduceCtorEq, Nat.reduceAdd, Nat.reduceMul, Nat.reduceLeDiff, Nat.reduceLT, Nat.reduceDiv, Nat.reduceSub, loadA, partV, TS T, f1, f3, f4, hg1, hia, hgb, hgi] <;> rfl) rfl ?_
    refine Wo.val rfl (by simp only [MS, Nat.reduceBEq, Nat.reduceBNe, Nat.reduceEqDiff, reduceIte, if_true, if_false, reduceCtorEq, Nat.reduceAdd, Nat.reduceMul, Nat.reduceLeDiff, Nat.reduceLT, Nat.reduceDiv, Nat.reduceSub, bltA, intsA, intsA.go, cval, cv, TS T, f1, f3, f4, hg1, hia, hgb, hgi] <;> rfl) rfl ?_
    refine Wo.val rfl (by simp only [MS, Nat.reduceBEq, Nat.reduceBNe, Nat.reduceEqDiff, reduceIte, if_true, if_false, reduceCtorEq, Nat.reduceAdd, Nat.reduceMul, Nat.reduceLeDiff, Nat.reduceLT, Nat.reduceDiv, Nat.reduceSub, bltA, intsA, intsA.go, cval, cv, TS T, f1, f3, f4, hg1, hia, hgb, hgi] <;> rfl) rfl ?_
    refine Wo.val rfl (by simp only [MS, Nat.reduceBEq, Nat.reduceBNe, Nat.reduceEqDiff, reduceIte, if_true, if_false, reduceCtorEq, Nat.reduceAdd, Nat.reduceMul, Nat.reduceLeDiff, Nat.reduceLT, Nat.reduceDiv, Nat.reduceSub, binA, arithA, strA, isC, cval, cv, TS T, f1, f3, f4, hg1, hia, hgb, hgi] <;> rfl) rfl ?_
    refine Wo.val rfl (by first | rfl | (simp only [MS, Nat.reduceBEq, Nat.reduceBNe, Nat.reduceEqDiff, reduceIte, if_true, if_false, reduceCtorEq, Nat.reduceAdd, Nat.reduceMul, Nat.reduceLeDiff, Nat.reduceLT, Nat.reduceDiv, Nat.reduceSub, cval, cv, TS T, f1, f3, f4, hg1, hia, hgb, hgi] <;> rfl)) rfl ?_
    refine Wo.nil ?_
    refine hn10 _ ?_
    repeat refine Wc.assoc ?_
    refine Wc.seq fun K11 hn11 hx11 => ?_
    refine Wc.rg ?_
    refine Wo.val rfl (by first | rfl | (simp only [MS, Nat.reduceBEq, Nat.reduceBNe, Nat.reduceEqDiff, reduceIte, if_true, if_false, reduceCtorEq, Nat.reduceAdd, Nat.reduceMul, Nat.reduceLeDiff, Nat.reduceLT, Nat.reduceDiv, Nat.reduceSub, TS T] <;> rfl)) rfl ?_
    refine Wo.val rfl (by simp only [MS, Nat.reduceBEq, Nat.reduceBNe, Nat.reduceEqDiff, reduceIte, if_true, if_false, reduceCtorEq, Nat.reduceAdd, Nat.reduceMul, Nat.reduceLeDiff, Nat.reduceLT, Nat.reduceDiv, Nat.reduceSub, binA, arithA, strA, isC, cval, cv, TS T] <;> rfl) rfl ?_
    refine Wo.nil ?_
    refine hn11 _ ?_
    refine Wc.cond rfl (fun hd => ?_) fun hd => ?_
    · repeat refine Wc.assoc ?_
      refine Wc.seq fun K12 hn12 hx12 => ?_
      refine Wc.rg ?_
      refine Wo.val rfl (by first | rfl | (simp only [MS, Nat.reduceBEq, Nat.reduceBNe, Nat.reduceEqDiff, reduceIte, if_true, if_false, reduceCtorEq, Nat.reduceAdd, Nat.reduceMul, Nat.reduceLeDiff, Nat.reduceLT, Nat.reduceDiv, Nat.reduceSub, cval, cv, TS T] <;> rfl)) rfl ?_
      refine Wo.nil ?_
      refine hn12 _ (Wc.ret (hx9 _ _ (by simp) (hx8 _ _ (by simp) (hxL _ _ (by simp) (hx5 _ _ (by simp) (hx4 _ _ (by simp) (hr0 _ _ [.b true] rfl ⟨true, rfl, hx0⟩)))))))
    · refine Wc.skip (hx9 _ _ (by simp) (hn8 _ ?_))
      have hw := w64 (n := i) (by omega)
      refine Wc.rg ?_
      refine Wo.val rfl (by first | rfl | (simp only [MS, Nat.reduceBEq, Nat.reduceBNe, Nat.reduceEqDiff, reduceIte, if_true, if_false, reduceCtorEq, Nat.reduceAdd, Nat.reduceMul, Nat.reduceLeDiff, Nat.reduceLT, Nat.reduceDiv, Nat.reduceSub, TS T, f4, hw] <;> rfl)) rfl ?_
      refine Wo.val rfl (by simp only [MS, Nat.reduceBEq, Nat.reduceBNe, Nat.reduceEqDiff, reduceIte, if_true, if_false, reduceCtorEq, Nat.reduceAdd, Nat.reduceMul, Nat.reduceLeDiff, Nat.reduceLT, Nat.reduceDiv, Nat.reduceSub, binA, arithA, strA, isC, cval, cv, TS T, f4, hw] <;> rfl) rfl ?_
      refine Wo.val rfl (by first | rfl | (simp only [MS, Nat.reduceBEq, Nat.reduceBNe, Nat.reduceEqDiff, reduceIte, if_true, if_false, reduceCtorEq, Nat.reduceAdd, Nat.reduceMul, Nat.reduceLeDiff, Nat.reduceLT, Nat.reduceDiv, Nat.reduceSub, cval, cv, TS T, f4, hw] <;> rfl)) rfl ?_
      refine Wo.nil ?_
      exact hnL _ (k - 1) (by omega) ⟨i + 1, _, _, rfl, by omega, by simp [look, f1], rfl, rfl⟩
  · refine Wc.exit (hx7 _ _ (by simp) (hxL _ _ (by simp) (hb5 _ (hn4 _ ?_))))
    refine Wc.seq fun K13 hn13 hx13 => ?_
    refine Wc.rg ?_
    refine Wo.val rfl (by simp only [MS, Nat.reduceBEq, Nat.reduceBNe, Nat.reduceEqDiff, reduceIte, if_true, if_false, reduceCtorEq, Nat.reduceAdd, Nat.reduceMul, Nat.reduceLeDiff, Nat.reduceLT, Nat.reduceDiv, Nat.reduceSub, TS T, f1, hg1, hnl] <;> rfl) rfl ?_
    refine Wo.val rfl (by simp only [MS, Nat.reduceBEq, Nat.reduceBNe, Nat.reduceEqDiff, reduceIte, if_true, if_false, reduceCtorEq, Nat.reduceAdd, Nat.reduceMul, Nat.reduceLeDiff, Nat.reduceLT, Nat.reduceDiv, Nat.reduceSub, loadA, partV, TS T, f1, hg1, hnl] <;> rfl) rfl ?_
    refine Wo.val rfl (by simp only [MS, Nat.reduceBEq, Nat.reduceBNe, Nat.reduceEqDiff, reduceIte, if_true, if_false, reduceCtorEq, Nat.reduceAdd, Nat.reduceMul, Nat.reduceLeDiff, Nat.reduceLT, Nat.reduceDiv, Nat.reduceSub, cval, cv, TS T, f1, hg1, hnl] <;> rfl) rfl ?_
    refine Wo.val rfl (by simp only [MS, Nat.reduceBEq, Nat.reduceBNe, Nat.reduceEqDiff, reduceIte, if_true, if_false, reduceCtorEq, Nat.reduceAdd, Nat.reduceMul, Nat.reduceLeDiff, Nat.reduceLT, Nat.reduceDiv, Nat.reduceSub, binA, arithA, strA, isC, cval, cv, TS T, f1, hg1, hnl] <;> rfl) rfl ?_
    refine Wo.val rfl (by first | rfl | (simp only [MS, Nat.reduceBEq, Nat.reduceBNe, Nat.reduceEqDiff, reduceIte, if_true, if_false, reduceCtorEq, Nat.reduceAdd, Nat.reduceMul, Nat.reduceLeDiff, Nat.reduceLT, Nat.reduceDiv, Nat.reduceSub, cval, cv, TS T, f1, hg1, hnl] <;> rfl)) rfl ?_
    refine Wo.nil ?_
    exact hn13 _ (Wc.ret (hr0 _ _ [_] rfl ⟨_, rfl, hx0⟩))
theorem S.fsame_ok {tb fc} (T : S.Ty tb) {call call' : Caller} {lf : Nat} (hlf : 2000000000000 ≤ lf) (hc : ∀ args h, call' (.fn 27) args h = runF tb fc call lf Tryz.f27 args h) {h : Hp} {E D : EyeS} (hE : EyeV 3 9 h E) (hD : EyeV 3 9 h D) (hn : E.ns = D.ns) (hs : E.ss = D.ss)
    (hl : E.ns.length ≤ 1000000000000) (hl2 : E.ss.length ≤ 1000000000000) : ∃ h', call' (.fn 27) [E.val, D.val] h = some (.ret (.b true), h') ∧ Ext h h' := by
  suffices H : Wf tb fc call lf Tryz.f27 [E.val, D.val] h (fun v h' => v = .b true ∧ Ext h h') by
    obtain ⟨v, h', h1, rfl, h2⟩ := H
    exact ⟨h', by rw [hc]; exact h1, h2⟩
  have x1 := Ext.push h (.blk (2 * 54) [E.nv, E.sv, .b E.mark, .i .i64 E.at_, .b E.rm] true)
  have x2 := Ext.push (h.push (.blk (2 * 54) [E.nv, E.sv, .b E.mark, .i .i64 E.at_, .b E.rm] true)) (.blk (2 * 54) [D.nv, D.sv, .b D.mark, .i .i64 D.at_, .b D.rm] true)
  have hx0 := x1.trans x2
  have hg1 : ((h.push (.blk (2 * 54) [E.nv, E.sv, .b E.mark, .i .i64 E.at_, .b E.rm] true)).push (.blk (2 * 54) [D.nv, D.sv, .b D.mark, .i .i64 D.at_, .b D.rm] true)).get h.n = some (.blk 108 [E.nv, E.sv, .b E.mark, .i .i64 E.at_, .b E.rm] true) := by simp [Hp.get_push]
  have hg2 : ((h.push (.blk (2 * 54) [E.nv, E.sv, .b E.mark, .i .i64 E.at_, .b E.rm] true)).push (.blk (2 * 54) [D.nv, D.sv, .b D.mark, .i .i64 D.at_, .b D.rm] true)).get (h.n + 1) = some (.blk 108 [D.nv, D.sv, .b D.mark, .i .i64 D.at_, .b D.rm] true) := by simp [Hp.get_push]
  refine Wf.intro (sz := 59) rfl rfl fun K hn0 hr0 => ?_
  repeat refine Wc.assoc ?_
  refine Wc.seq fun K1 hn1 hx1 => ?_
  refine Wc.rg ?_
  refine Wo.val rfl (by simp only [MS, Nat.reduceBEq, Nat.reduceBNe, Nat.reduceEqDiff, reduceIte, if_true, if_false, reduceCtorEq, Nat.reduceAdd, Nat.reduceMul, Nat.reduceLeDiff, Nat.reduceLT, Nat.reduceDiv, Nat.reduceSub, cval, cv, TS T, EyeS.val] <;> rfl) rfl ?_
  refine Wo.val rfl (by simp only [MS, Nat.reduceBEq, Nat.reduceBNe, Nat.reduceEqDiff, reduceIte, if_true, if_false, reduceCtorEq, Nat.reduceAdd, Nat.reduceMul, Nat.reduceLeDiff, Nat.reduceLT, Nat.reduceDiv, Nat.reduceSub, cval, cv, TS T, EyeS.val] <;> rfl) rfl ?_
  refine Wo.val rfl (by first | rfl | (simp only [MS, Nat.reduceBEq, Nat.reduceBNe, Nat.reduceEqDiff, reduceIte, if_true, if_false, reduceCtorEq, Nat.reduceAdd, Nat.reduceMul, Nat.reduceLeDiff, Nat.reduceLT, Nat.reduceDiv, Nat.reduceSub, cval, cv, TS T, EyeS.val] <;> rfl)) rfl ?_
  refine Wo.nil ?_
  refine hn1 _ ?_
  generalize ((h.push (.blk (2 * 54) [E.nv, E.sv, .b E.mark, .i .i64 E.at_, .b E.rm] true)).push (.blk (2 * 54) [D.nv, D.sv, .b D.mark, .i .i64 D.at_, .b D.rm] true)) = h1 at hg1 hg2 hx0 ⊢
  have eE := hE.ext hx0
  have eD := hD.ext hx0
  obtain ⟨hEn, hEnx⟩ := eE.n.ix T.n
  obtain ⟨hEs, hEsx⟩ := eE.s.ix T.s
  obtain ⟨hDn, hDnx⟩ := eD.n.ix T.n
  obtain ⟨hDs, hDsx⟩ := eD.s.ix T.s
  rw [List.length_map] at hEn hEnx hEs hEsx hDn hDnx hDs hDsx
  rw [← hn] at hDn hDnx
  rw [← hs] at hDs hDsx
  repeat refine Wc.assoc ?_
  refine Wc.seq fun K2 hn2 hx2 => ?_
  refine Wc.rg ?_
  refine Wo.val rfl (by simp only [MS, Nat.reduceBEq, Nat.reduceBNe, Nat.reduceEqDiff, reduceIte, if_true, if_false, reduceCtorEq, Nat.reduceAdd, Nat.reduceMul, Nat.reduceLeDiff, Nat.reduceLT, Nat.reduceDiv, Nat.reduceSub, TS T, hg1, hg2, hEn, hEs, hDn, hDs, bne_self_eq_false] <;> rfl) rfl ?_
  refine Wo.val rfl (by simp only [MS, Nat.reduceBEq, Nat.reduceBNe, Nat.reduceEqDiff, reduceIte, if_true, if_false, reduceCtorEq, Nat.reduceAdd, Nat.reduceMul, Nat.reduceLeDiff, Nat.reduceLT, Nat.reduceDiv, Nat.reduceSub, loadA, partV, TS T, hg1, hg2, hEn, hEs, hDn, hDs, bne_self_eq_false] <;> rfl) rfl ?_
  refine Wo.val rfl (by simp only [MS, Nat.reduceBEq, Nat.reduceBNe, Nat.reduceEqDiff, reduceIte, if_true, if_false, reduceCtorEq, Nat.reduceAdd, Nat.reduceMul, Nat.reduceLeDiff, Nat.reduceLT, Nat.reduceDiv, Nat.reduceSub, cval, cv, TS T, hg1, hg2, hEn, hEs, hDn, hDs, bne_self_eq_false] <;> rfl) rfl ?_
  refine Wo.val rfl (by simp only [MS, Nat.reduceBEq, Nat.reduceBNe, Nat.reduceEqDiff, reduceIte, if_true, if_false, reduceCtorEq, Nat.reduceAdd, Nat.reduceMul, Nat.reduceLeDiff, Nat.reduceLT, Nat.reduceDiv, Nat.reduceSub, TS T, hg1, hg2, hEn, hEs, hDn, hDs, bne_self_eq_false] <;> rfl) rfl ?_
  refine Wo.val rfl (by simp only [MS, Nat.reduceBEq, Nat.reduceBNe, Nat.reduceEqDiff, reduceIte, if_true, if_false, reduceCtorEq, Nat.reduceAdd, Nat.reduceMul, Nat.reduceLeDiff, Nat.reduceLT, Nat.reduceDiv, Nat.reduceSub, loadA, partV, TS T, hg1, hg2, hEn, hEs, hDn, hDs, bne_self_eq_false] <;> rfl) rfl ?_
  refine Wo.val rfl (by simp only [MS, Nat.reduceBEq, Nat.reduceBNe, Nat.reduceEqDiff, reduceIte, if_true, if_false, reduceCtorEq, Nat.reduceAdd, Nat.reduceMul, Nat.reduceLeDiff, Nat.reduceLT, Nat.reduceDiv, Nat.reduceSub, cval, cv, TS T, hg1, hg2, hEn, hEs, hDn, hDs, bne_self_eq_false] <;> rfl) rfl ?_
  refine Wo.val rfl (by simp only [MS, Nat.reduceBEq, Nat.reduceBNe, Nat.reduceEqDiff, reduceIte, if_true, if_false, reduceCtorEq, Nat.reduceAdd, Nat.reduceMul, Nat.reduceLeDiff, Nat.reduceLT, Nat.reduceDiv, Nat.reduceSub, binA, arithA, strA, isC, cval, cv, TS T, hg1, hg2, hEn, hEs, hDn, hDs, bne_self_eq_false] <;> rfl) rfl ?_
  refine Wo.val rfl (by first | rfl | (simp only [MS, Nat.reduceBEq, Nat.reduceBNe, Nat.reduceEqDiff, reduceIte, if_true, if_false, reduceCtorEq, Nat.reduceAdd, Nat.reduceMul, Nat.reduceLeDiff, Nat.reduceLT, Nat.reduceDiv, Nat.reduceSub, TS T, hg1, hg2, hEn, hEs, hDn, hDs, bne_self_eq_false] <;> rfl)) rfl ?_
  refine Wo.val (by first | rfl | (simp only [wantedA, wantedP, evR, List.contains, List.elem, MS, Nat.reduceBEq, Nat.reduceBNe, Nat.reduceEqDiff, reduceIte, if_true, if_false, reduceCtorEq, Nat.reduceAdd, Nat.reduceMul, Nat.reduceLeDiff, Nat.reduceLT, Nat.reduceDiv, Nat.reduceSub, hg1, hg2, hEn, hEs, hDn, hDs, bne_self_eq_false] <;> rfl)) (by simp only [MS, Nat.reduceBEq, Nat.reduceBNe, Nat.reduceEqDiff, reduceIte, if_true, if_false, reduceCtorEq, Nat.reduceAdd, Nat.reduceMul, Nat.reduceLeDiff, Nat.reduceLT, Nat.reduceDiv, Nat.reduceSub, TS T, hg1, hg2, hEn, hEs, hDn, hDs, bne_self_eq_false] <;> rfl) rfl ?_
  refine Wo.val (by first | rfl | (simp only [wantedA, wantedP, evR, List.contains, List.elem, MS, Nat.reduceBEq, Nat.reduceBNe, Nat.reduceEqDiff, reduceIte, if_true, if_false, reduceCtorEq, Nat.reduceAdd, Nat.reduceMul, Nat.reduceLeDiff, Nat.reduceLT, Nat.reduceDiv, Nat.reduceSub, hg1, hg2, hEn, hEs, hDn, hDs, bne_self_eq_false] <;> rfl)) (by simp only [MS, Nat.reduceBEq, Nat.reduceBNe, Nat.reduceEqDiff, reduceIte, if_true, if_false, reduceCtorEq, Nat.reduceAdd, Nat.reduceMul, Nat.reduceLeDiff, Nat.reduceLT, Nat.reduceDiv, Nat.reduceSub, loadA, partV, TS T, hg1, hg2, hEn, hEs, hDn, hDs, bne_self_eq_false] <;> rfl) rfl ?_
  refine Wo.val (by first | rfl | (simp only [wantedA, wantedP, evR, List.contains, List.elem, MS, Nat.reduceBEq, Nat.reduceBNe, Nat.reduceEqDiff, reduceIte, if_true, if_false, reduceCtorEq, Nat.reduceAdd, Nat.reduceMul, Nat.reduceLeDiff, Nat.reduceLT, Nat.reduceDiv, Nat.reduceSub, hg1, hg2, hEn, hEs, hDn, hDs, bne_self_eq_false] <;> rfl)) (by simp only [MS, Nat.reduceBEq, Nat.reduceBNe, Nat.reduceEqDiff, reduceIte, if_true, if_false, reduceCtorEq, Nat.reduceAdd, Nat.reduceMul, Nat.reduceLeDiff, Nat.reduceLT, Nat.reduceDiv, Nat.reduceSub, cval, cv, TS T, hg1, hg2, hEn, hEs, hDn, hDs, bne_self_eq_false] <;> rfl) rfl ?_
  refine Wo.val (by first | rfl | (simp only [wantedA, wantedP, evR, List.contains, List.elem, MS, Nat.reduceBEq, Nat.reduceBNe, Nat.reduceEqDiff, reduceIte, if_true, if_false, reduceCtorEq, Nat.reduceAdd, Nat.reduceMul, Nat.reduceLeDiff, Nat.reduceLT, Nat.reduceDiv, Nat.reduceSub, hg1, hg2, hEn, hEs, hDn, hDs, bne_self_eq_false] <;> rfl)) (by simp only [MS, Nat.reduceBEq, Nat.reduceBNe, Nat.reduceEqDiff, reduceIte, if_true, if_false, reduceCtorEq, Nat.reduceAdd, Nat.reduceMul, Nat.reduceLeDiff, Nat.reduceLT, Nat.reduceDiv, Nat.reduceSub, TS T, hg1, hg2, hEn, hEs, hDn, hDs, bne_self_eq_false] <;> rfl) rfl ?_
  refine Wo.val (by first | rfl | (simp only [wantedA, wantedP, evR, List.contains, List.elem, MS, Nat.reduceBEq, Nat.reduceBNe, Nat.reduceEqDiff, reduceIte, if_true, if_false, reduceCtorEq, Nat.reduceAdd, Nat.reduceMul, Nat.reduceLeDiff, Nat.reduceLT, Nat.reduceDiv, Nat.reduceSub, hg1, hg2, hEn, hEs, hDn, hDs, bne_self_eq_false] <;> rfl)) (by simp only [MS, Nat.reduceBEq, Nat.reduceBNe, Nat.reduceEqDiff, reduceIte, if_true, if_false, reduceCtorEq, Nat.reduceAdd, Nat.reduceMul, Nat.reduceLeDiff, Nat.reduceLT, Nat.reduceDiv, Nat.reduceSub, loadA, partV, TS T, hg1, hg2, hEn, hEs, hDn, hDs, bne_self_eq_false] <;> rfl) rfl ?_
  refine Wo.val (by first | rfl | (simp only [wantedA, wantedP, evR, List.contains, List.elem, MS, Nat.reduceBEq, Nat.reduceBNe, Nat.reduceEqDiff, reduceIte, if_true, if_false, reduceCtorEq, Nat.reduceAdd, Nat.reduceMul, Nat.reduceLeDiff, Nat.reduceLT, Nat.reduceDiv, Nat.reduceSub, hg1, hg2, hEn, hEs, hDn, hDs, bne_self_eq_false] <;> rfl)) (by simp only [MS, Nat.reduceBEq, Nat.reduceBNe, Nat.reduceEqDiff, reduceIte, if_true, if_false, reduceCtorEq, Nat.reduceAdd, Nat.reduceMul, Nat.reduceLeDiff, Nat.reduceLT, Nat.reduceDiv, Nat.reduceSub, cval, cv, TS T, hg1, hg2, hEn, hEs, hDn, hDs, bne_self_eq_false] <;> rfl) rfl ?_
  refine Wo.val (by first | rfl | (simp only [wantedA, wantedP, evR, List.contains, List.elem, MS, Nat.reduceBEq, Nat.reduceBNe, Nat.reduceEqDiff, reduceIte, if_true, if_false, reduceCtorEq, Nat.reduceAdd, Nat.reduceMul, Nat.reduceLeDiff, Nat.reduceLT, Nat.reduceDiv, Nat.reduceSub, hg1, hg2, hEn, hEs, hDn, hDs, bne_self_eq_false] <;> rfl)) (by simp only [MS, Nat.reduceBEq, Nat.reduceBNe, Nat.reduceEqDiff, reduceIte, if_true, if_false, reduceCtorEq, Nat.reduceAdd, Nat.reduceMul, Nat.reduceLeDiff, Nat.reduceLT, Nat.reduceDiv, Nat.reduceSub, binA, arithA, strA, isC, cval, cv, TS T, hg1, hg2, hEn, hEs, hDn, hDs, bne_self_eq_false] <;> rfl) rfl ?_
  refine Wo.val rfl (by first | rfl | (simp only [MS, Nat.reduceBEq, Nat.reduceBNe, Nat.reduceEqDiff, reduceIte, if_true, if_false, reduceCtorEq, Nat.reduceAdd, Nat.reduceMul, Nat.reduceLeDiff, Nat.reduceLT, Nat.reduceDiv, Nat.reduceSub, cval, cv, TS T, hg1, hg2, hEn, hEs, hDn, hDs, bne_self_eq_false] <;> rfl)) rfl ?_
  refine Wo.nil ?_
  refine hn2 _ ?_
  repeat refine Wc.assoc ?_
  refine Wc.seq fun K3 hn3 hx3 => ?_
  refine Wc.cond (t := false) rfl (fun h => by cases h) fun _ => ?_
  refine Wc.skip (hn3 _ ?_)
  repeat refine Wc.assoc ?_
  refine Wc.seq fun K4 hn4 hx4 => ?_
  refine Wc.rg ?_
  refine Wo.val rfl (by first | rfl | (simp only [MS, Nat.reduceBEq, Nat.reduceBNe, Nat.reduceEqDiff, reduceIte, if_true, if_false, reduceCtorEq, Nat.reduceAdd, Nat.reduceMul, Nat.reduceLeDiff, Nat.reduceLT, Nat.reduceDiv, Nat.reduceSub, cval, cv, TS T] <;> rfl)) rfl ?_
  refine Wo.nil ?_
  refine hn4 _ ?_
  repeat refine Wc.assoc ?_
  refine Wc.seq fun K5 hn5 hx5 => ?_
  refine Wc.block fun K6 hb6 hx6 => ?_
  refine Wc.loop (fun k s => ∃ i fr, s = ⟨fr, [], h1⟩ ∧ i + k = E.ns.length ∧ look fr 2 = some (.p h.n 0) ∧ look fr 3 = some (.p (h.n + 1) 0) ∧ look fr 5 = some (.i .i64 (i : Nat))) E.ns.length (by omega) ⟨0, _, rfl, by omega, rfl, rfl, rfl⟩ ?_
  rintro k _ ⟨i, fr, rfl, hik, f2, f3, f5⟩ KL hnL hxL
  repeat refine Wc.assoc ?_
  refine Wc.seq fun K7 hn7 hx7 => ?_
  refine Wc.rg ?_
  refine Wo.val rfl (by first | rfl | (simp only [MS, Nat.reduceBEq, Nat.reduceBNe, Nat.reduceEqDiff, reduceIte, if_true, if_false, reduceCtorEq, Nat.reduceAdd, Nat.reduceMul, Nat.reduceLeDiff, Nat.reduceLT, Nat.reduceDiv, Nat.reduceSub, TS T, f2, f3, f5, hg1, hEn] <;> rfl)) rfl ?_
  refine Wo.val rfl (by simp only [MS, Nat.reduceBEq, Nat.reduceBNe, Nat.reduceEqDiff, reduceIte, if_true, if_false, reduceCtorEq, Nat.reduceAdd, Nat.reduceMul, Nat.reduceLeDiff, Nat.reduceLT, Nat.reduceDiv, Nat.reduceSub, TS T, f2, f3, f5, hg1, hEn] <;> rfl) rfl ?_
  refine Wo.val rfl (by simp only [MS, Nat.reduceBEq, Nat.reduceBNe, Nat.reduceEqDiff, reduceIte, if_true, if_false, reduceCtorEq, Nat.reduceAdd, Nat.reduceMul, Nat.reduceLeDiff, Nat.reduceLT, Nat.reduceDiv, Nat.reduceSub, loadA, partV, TS T, f2, f3, f5, hg1, hEn] <;> rfl) rfl ?_
  refine Wo.val rfl (by simp only [MS, Nat.reduceBEq, Nat.reduceBNe, Nat.reduceEqDiff, reduceIte, if_true, if_false, reduceCtorEq, Nat.reduceAdd, Nat.reduceMul, Nat.reduceLeDiff, Nat.reduceLT, Nat.reduceDiv, Nat.reduceSub, cval, cv, TS T, f2, f3, f5, hg1, hEn] <;> rfl) rfl ?_
  refine Wo.val rfl (by simp only [MS, Nat.reduceBEq, Nat.reduceBNe, Nat.reduceEqDiff, reduceIte, if_true, if_false, reduceCtorEq, Nat.reduceAdd, Nat.reduceMul, Nat.reduceLeDiff, Nat.reduceLT, Nat.reduceDiv, Nat.reduceSub, binA, arithA, strA, isC, cval, cv, TS T, f2, f3, f5, hg1, hEn] <;> rfl) rfl ?_
  refine Wo.nil ?_
  refine hn7 _ ?_
  refine Wc.seq fun K8 hn8 hx8 => ?_
  refine Wc.cond (t := decide ((i : Int) < (E.ns.length : Int))) rfl (fun hd => ?_) fun hd => ?_
  · refine Wc.skip (hn8 _ ?_)
    have hi : i < E.ns.length := by have := of_decide_eq_true hd; omega
    obtain ⟨b1, ty1, hi1, _, hb1⟩ := hEnx i hi
    obtain ⟨b2, ty2, hi2, _, hb2⟩ := hDnx i hi
    have g1 : (E.ns.map (V.i .i64))[i]? = some (.i .i64 E.ns[i]) := by simp [hi]
    have g2 : (D.ns.map (V.i .i64))[i]? = some (.i .i64 E.ns[i]) := by rw [← hn]; exact g1
    refine Wc.seq fun K9 hn9 hx9 => ?_
    refine Wc.block fun K10 hb10 hx10 => ?_
    repeat refine Wc.assoc ?_
    refine Wc.seq fun K11 hn11 hx11 => ?_
    refine Wc.drawn [.p 0 [30, 31, 32, 33, 34, 35, 36, 37, 38, 39, 40] none, .p 1 [31, 32, 33, 34, 35, 36, 37, 38, 39, 40] none, .p 2 [30, 31, 32, 33, 34, 35, 36, 37, 38, 39, 40] none, .p 3 [33, 34, 35, 36, 37, 38, 39, 40] none, .p 4 [34, 35, 36, 37, 38, 39, 40] none, .p 5 [30, 31, 32, 33, 34, 35, 36, 37, 38, 39, 40] none, .p 6 [30, 31, 32, 33, 34, 36, 37, 38, 39, 40] none, .p 7 [30, 31, 32, 33, 34, 35, 36, 37, 38, 39, 40] none, .p 8 [30, 31, 32, 33, 34, 38, 39, 40] none, .p 9 [30, 31, 32, 33, 34, 39, 40] none, .p 10 [40] none] (by kernel_rfl) ?_
    refine Wz.v rfl rfl rfl (by simp only [MS, Nat.reduceBEq, Nat.reduceBNe, Nat.reduceEqDiff, reduceIte, if_true, if_false, reduceCtorEq, Nat.reduceAdd, Nat.reduceMul, Nat.reduceLeDiff, Nat.reduceLT, Nat.reduceDiv, Nat.reduceSub, evR, List.contains, List.elem, TS T, f2, f3, f5, hg1, hg2, hi1, hi2, hb1, hb2, g1, g2, bne_self_eq_false] <;> rfl) rfl ?_
    refine Wz.ld rfl rfl rfl (by simp only [MS, Nat.reduceBEq, Nat.reduceBNe, Nat.reduceEqDiff, reduceIte, if_true, if_false, reduceCtorEq, Nat.reduceAdd, Nat.reduceMul, Nat.reduceLeDiff, Nat.reduceLT, Nat.reduceDiv, Nat.reduceSub, loadA, partV, evR, List.contains, List.elem, TS T, f2, f3, f5, hg1, hg2, hi1, hi2, hb1, hb2, g1, g2, bne_self_eq_false] <;> rfl) rfl ?_
    refine Wz.v rfl rfl rfl (by first | rfl | (simp only [MS, Nat.reduceBEq, Nat.reduceBNe, Nat.reduceEqDiff, reduceIte, if_true, if_false, reduceCtorEq, Nat.reduceAdd, Nat.reduceMul, Nat.reduceLeDiff, Nat.reduceLT, Nat.reduceDiv, Nat.reduceSub, evR, List.contains, List.elem, TS T, f2, f3, f5, hg1, hg2, hi1, hi2, hb1, hb2, g1, g2, bne_self_eq_false] <;> rfl)) rfl ?_
    refine Wz.v rfl rfl rfl (by simp only [MS, Nat.reduceBEq, Nat.reduceBNe, Nat.reduceEqDiff, reduceIte, if_true, if_false, reduceCtorEq, Nat.reduceAdd, Nat.reduceMul, Nat.reduceLeDiff, Nat.reduceLT, Nat.reduceDiv, Nat.reduceSub, cval, cv, evR, List.contains, List.elem, TS T, f2, f3, f5, hg1, hg2, hi1, hi2, hb1, hb2, g1, g2, bne_self_eq_false] <;> rfl) rfl ?_
    refine Wz.ld rfl rfl rfl (by simp only [MS, Nat.reduceBEq, Nat.reduceBNe, Nat.reduceEqDiff, reduceIte, if_true, if_false, reduceCtorEq, Nat.reduceAdd, Nat.reduceMul, Nat.reduceLeDiff, Nat.reduceLT, Nat.reduceDiv, Nat.reduceSub, loadA, partV, evR, List.contains, List.elem, TS T, f2, f3, f5, hg1, hg2, hi1, hi2, hb1, hb2, g1, g2, bne_self_eq_false] <;> rfl) rfl ?_
    refine Wz.v rfl rfl rfl (by simp only [MS, Nat.reduceBEq, Nat.reduceBNe, Nat.reduceEqDiff, reduceIte, if_true, if_false, reduceCtorEq, Nat.reduceAdd, Nat.reduceMul, Nat.reduceLeDiff, Nat.reduceLT, Nat.reduceDiv, Nat.reduceSub, evR, List.contains, List.elem, TS T, f2, f3, f5, hg1, hg2, hi1, hi2, hb1, hb2, g1, g2, bne_self_eq_false] <;> rfl) rfl ?_
    refine Wz.ld rfl rfl rfl (by simp only [MS, Nat.reduceBEq, Nat.reduceBNe, Nat.reduceEqDiff, reduceIte, if_true, if_false, reduceCtorEq, Nat.reduceAdd, Nat.reduceMul, Nat.reduceLeDiff, Nat.reduceLT, Nat.reduceDiv, Nat.reduceSub, loadA, partV, evR, List.contains, List.elem, TS T, f2, f3, f5, hg1, hg2, hi1, hi2, hb1, hb2, g1, g2, bne_self_eq_false] <;> rfl) rfl ?_
    refine Wz.v rfl rfl rfl (by first | rfl | (simp only [MS, Nat.reduceBEq, Nat.reduceBNe, Nat.reduceEqDiff, reduceIte, if_true, if_false, reduceCtorEq, Nat.reduceAdd, Nat.reduceMul, Nat.reduceLeDiff, Nat.reduceLT, Nat.reduceDiv, Nat.reduceSub, evR, List.contains, List.elem, TS T, f2, f3, f5, hg1, hg2, hi1, hi2, hb1, hb2, g1, g2, bne_self_eq_false] <;> rfl)) rfl ?_
    refine Wz.v rfl rfl rfl (by simp only [MS, Nat.reduceBEq, Nat.reduceBNe, Nat.reduceEqDiff, reduceIte, if_true, if_false, reduceCtorEq, Nat.reduceAdd, Nat.reduceMul, Nat.reduceLeDiff, Nat.reduceLT, Nat.reduceDiv, Nat.reduceSub, cval, cv, evR, List.contains, List.elem, TS T, f2, f3, f5, hg1, hg2, hi1, hi2, hb1, hb2, g1, g2, bne_self_eq_false] <;> rfl) rfl ?_
    refine Wz.ld rfl rfl rfl (by simp only [MS, Nat.reduceBEq, Nat.reduceBNe, Nat.reduceEqDiff, reduceIte, if_true, if_false, reduceCtorEq, Nat.reduceAdd, Nat.reduceMul, Nat.reduceLeDiff, Nat.reduceLT, Nat.reduceDiv, Nat.reduceSub, loadA, partV, evR, List.contains, List.elem, TS T, f2, f3, f5, hg1, hg2, hi1, hi2, hb1, hb2, g1, g2, bne_self_eq_false] <;> rfl) rfl ?_
    refine Wz.v rfl rfl rfl (by simp only [MS, Nat.reduceBEq, Nat.reduceBNe, Nat.reduceEqDiff, reduceIte, if_true, if_false, reduceCtorEq, Nat.reduceAdd, Nat.reduceMul, Nat.reduceLeDiff, Nat.reduceLT, Nat.reduceDiv, Nat.reduceSub, binA, arithA, strA, isC, cval, cv, evR, List.contains, List.elem, TS T, f2, f3, f5, hg1, hg2, hi1, hi2, hb1, hb2, g1, g2, bne_self_eq_false] <;> rfl) rfl ?_
    refine Wz.nil ?_
    refine hn11 _ ?_
    refine Wc.cond (t := false) rfl (fun h => by cases h) fun _ => ?_
    refine Wc.skip (hx10 _ _ (by simp) (hn9 _ ?_))
    have hw := w64 (n := i) (by omega)
    refine Wc.rg ?_
    refine Wo.val rfl (by first | rfl | (simp only [MS, Nat.reduceBEq, Nat.reduceBNe, Nat.reduceEqDiff, reduceIte, if_true, if_false, reduceCtorEq, Nat.reduceAdd, Nat.reduceMul, Nat.reduceLeDiff, Nat.reduceLT, Nat.reduceDiv, Nat.reduceSub, TS T, f5, hw] <;> rfl)) rfl ?_
    refine Wo.val rfl (by simp only [MS, Nat.reduceBEq, Nat.reduceBNe, Nat.reduceEqDiff, reduceIte, if_true, if_false, reduceCtorEq, Nat.reduceAdd, Nat.reduceMul, Nat.reduceLeDiff, Nat.reduceLT, Nat.reduceDiv, Nat.reduceSub, binA, arithA, strA, isC, cval, cv, TS T, f5, hw] <;> rfl) rfl ?_
    refine Wo.val rfl (by first | rfl | (simp only [MS, Nat.reduceBEq, Nat.reduceBNe, Nat.reduceEqDiff, reduceIte, if_true, if_false, reduceCtorEq, Nat.reduceAdd, Nat.reduceMul, Nat.reduceLeDiff, Nat.reduceLT, Nat.reduceDiv, Nat.reduceSub, cval, cv, TS T, f5, hw] <;> rfl)) rfl ?_
    refine Wo.nil ?_
    exact hnL _ (k - 1) (by omega) ⟨i + 1, _, rfl, by omega, by simp [look, f2], by simp [look, f3], rfl⟩
  · refine Wc.exit (hx8 _ _ (by simp) (hxL _ _ (by simp) (hb6 _ (hn5 _ ?_))))
    repeat refine Wc.assoc ?_
    refine Wc.seq fun K12 hn12 hx12 => ?_
    refine Wc.rg ?_
    refine Wo.val rfl (by first | rfl | (simp only [MS, Nat.reduceBEq, Nat.reduceBNe, Nat.reduceEqDiff, reduceIte, if_true, if_false, reduceCtorEq, Nat.reduceAdd, Nat.reduceMul, Nat.reduceLeDiff, Nat.reduceLT, Nat.reduceDiv, Nat.reduceSub, cval, cv, TS T] <;> rfl)) rfl ?_
    refine Wo.nil ?_
    refine hn12 _ ?_
    repeat refine Wc.assoc ?_
    refine Wc.seq fun K13 hn13 hx13 => ?_
    refine Wc.block fun K14 hb14 hx14 => ?_
    refine Wc.loop (fun k s => ∃ i fr, s = ⟨fr, [], h1⟩ ∧ i + k = E.ss.length ∧ look fr 2 = some (.p h.n 0) ∧ look fr 3 = some (.p (h.n + 1) 0) ∧ look fr 6 = some (.i .i64 (i : Nat))) E.ss.length (by omega) ⟨0, _, rfl, by omega, by simp [look, f2], by simp [look, f3], rfl⟩ ?_
    rintro k _ ⟨i, fr, rfl, hik, f2, f3, f6⟩ KL2 hnL2 hxL2
    repeat refine Wc.assoc ?_
    refine Wc.seq fun K15 hn15 hx15 => ?_
    refine Wc.rg ?_
    refine Wo.val rfl (by first | rfl | (simp only [MS, Nat.reduceBEq, Nat.reduceBNe, Nat.reduceEqDiff, reduceIte, if_true, if_false, reduceCtorEq, Nat.reduceAdd, Nat.reduceMul, Nat.reduceLeDiff, Nat.reduceLT, Nat.reduceDiv, Nat.reduceSub, TS T, f2, f3, f6, hg1, hEs] <;> rfl)) rfl ?_
    refine Wo.val rfl (by simp only [MS, Nat.reduceBEq, Nat.reduceBNe, Nat.reduceEqDiff, reduceIte, if_true, if_false, reduceCtorEq, Nat.reduceAdd, Nat.reduceMul, Nat.reduceLeDiff, Nat.reduceLT, Nat.reduceDiv, Nat.reduceSub, TS T, f2, f3, f6, hg1, hEs] <;> rfl) rfl ?_
    refine Wo.val rfl (by simp only [MS, Nat.reduceBEq, Nat.reduceBNe, Nat.reduceEqDiff, reduceIte, if_true, if_false, reduceCtorEq, Nat.reduceAdd, Nat.reduceMul, Nat.reduceLeDiff, Nat.reduceLT, Nat.reduceDiv, Nat.reduceSub, loadA, partV, TS T, f2, f3, f6, hg1, hEs] <;> rfl) rfl ?_
    refine Wo.val rfl (by simp only [MS, Nat.reduceBEq, Nat.reduceBNe, Nat.reduceEqDiff, reduceIte, if_true, if_false, reduceCtorEq, Nat.reduceAdd, Nat.reduceMul, Nat.reduceLeDiff, Nat.reduceLT, Nat.reduceDiv, Nat.reduceSub, cval, cv, TS T, f2, f3, f6, hg1, hEs] <;> rfl) rfl ?_
    refine Wo.val rfl (by simp only [MS, Nat.reduceBEq, Nat.reduceBNe, Nat.reduceEqDiff, reduceIte, if_true, if_false, reduceCtorEq, Nat.reduceAdd, Nat.reduceMul, Nat.reduceLeDiff, Nat.reduceLT, Nat.reduceDiv, Nat.reduceSub, binA, arithA, strA, isC, cval, cv, TS T, f2, f3, f6, hg1, hEs] <;> rfl) rfl ?_
    refine Wo.nil ?_
    refine hn15 _ ?_
    refine Wc.seq fun K16 hn16 hx16 => ?_
    refine Wc.cond (t := decide ((i : Int) < (E.ss.length : Int))) rfl (fun hd => ?_) fun hd => ?_
    · refine Wc.skip (hn16 _ ?_)
      have hi : i < E.ss.length := by have := of_decide_eq_true hd; omega
      obtain ⟨b1, ty1, hi1, _, hb1⟩ := hEsx i hi
      obtain ⟨b2, ty2, hi2, _, hb2⟩ := hDsx i hi
      have g1 : (E.ss.map V.s)[i]? = some (.s E.ss[i]) := by simp [hi]
      have g2 : (D.ss.map V.s)[i]? = some (.s E.ss[i]) := by rw [← hs]; exact g1
      refine Wc.seq fun K9 hn9 hx9 => ?_
      refine Wc.block fun K10 hb10 hx10 => ?_
      repeat refine Wc.assoc ?_
      refine Wc.seq fun K11 hn11 hx11 => ?_
      refine Wc.drawn [.p 0 [48, 49, 50, 51, 52, 53, 54, 55, 56, 57, 58] none, .p 1 [49, 50, 51, 52, 53, 54, 55, 56, 57, 58] none, .p 2 [48, 49, 50, 51, 52, 53, 54, 55, 56, 57, 58] none, .p 3 [51, 52, 53, 54, 55, 56, 57, 58] none, .p 4 [52, 53, 54, 55, 56, 57, 58] none, .p 5 [48, 49, 50, 51, 52, 53, 54, 55, 56, 57, 58] none, .p 6 [48, 49, 50, 51, 52, 54, 55, 56, 57, 58] none, .p 7 [48, 49, 50, 51, 52, 53, 54, 55, 56, 57, 58] none, .p 8 [48, 49, 50, 51, 52, 56, 57, 58] none, .p 9 [48, 49, 50, 51, 52, 57, 58] none, .p 10 [58] none] (by kernel_rfl) ?_
      refine Wz.v rfl rfl rfl (by simp only [MS, Nat.reduceBEq, Nat.reduceBNe, Nat.reduceEqDiff, reduceIte, if_true, if_false, reduceCtorEq, Nat.reduceAdd, Nat.reduceMul, Nat.reduceLeDiff, Nat.reduceLT, Nat.reduceDiv, Nat.reduceSub, evR, List.contains, List.elem, TS T, f2, f3, f6, hg1, hg2, hi1, hi2, hb1, hb2, g1, g2, bne_self_eq_false, beq_self_eq_true] <;> rfl) rfl ?_
      refine Wz.ld rfl rfl rfl (by simp only [MS, Nat.reduceBEq, Nat.reduceBNe, Nat.reduceEqDiff, reduceIte, if_true, if_false, reduceCtorEq, Nat.reduceAdd, Nat.reduceMul, Nat.reduceLeDiff, Nat.reduceLT, Nat.reduceDiv, Nat.reduceSub, loadA, partV, evR, List.contains, List.elem, TS T, f2, f3, f6, hg1, hg2, hi1, hi2, hb1, hb2, g1, g2, bne_self_eq_false, beq_self_eq_true] <;> rfl) rfl ?_
      refine Wz.v rfl rfl rfl (by first | rfl | (simp only [MS, Nat.reduceBEq, Nat.reduceBNe, Nat.reduceEqDiff, reduceIte, if_true, if_false, reduceCtorEq, Nat.reduceAdd, Nat.reduceMul, Nat.reduceLeDiff, Nat.reduceLT, Nat.reduceDiv, Nat.reduceSub, evR, List.contains, List.elem, TS T, f2, f3, f6, hg1, hg2, hi1, hi2, hb1, hb2, g1, g2, bne_self_eq_false, beq_self_eq_true] <;> rfl)) rfl ?_
      refine Wz.v rfl rfl rfl (by simp only [MS, Nat.reduceBEq, Nat.reduceBNe, Nat.reduceEqDiff, reduceIte, if_true, if_false, reduceCtorEq, Nat.reduceAdd, Nat.reduceMul, Nat.reduceLeDiff, Nat.reduceLT, Nat.reduceDiv, Nat.reduceSub, cval, cv, evR, List.contains, List.elem, TS T, f2, f3, f6, hg1, hg2, hi1, hi2, hb1, hb2, g1, g2, bne_self_eq_false, beq_self_eq_true] <;> rfl) rfl ?_
      refine Wz.ld rfl rfl rfl (by simp only [MS, Nat.reduceBEq, Nat.reduceBNe, Nat.reduceEqDiff, reduceIte, if_true, if_false, reduceCtorEq, Nat.reduceAdd, Nat.reduceMul, Nat.reduceLeDiff, Nat.reduceLT, Nat.reduceDiv, Nat.reduceSub, loadA, partV, evR, List.contains, List.elem, TS T, f2, f3, f6, hg1, hg2, hi1, hi2, hb1, hb2, g1, g2, bne_self_eq_false, beq_self_eq_true] <;> rfl) rfl ?_
      refine Wz.v rfl rfl rfl (by simp only [MS, Nat.reduceBEq, Nat.reduceBNe, Nat.reduceEqDiff, reduceIte, if_true, if_false, reduceCtorEq, Nat.reduceAdd, Nat.reduceMul, Nat.reduceLeDiff, Nat.reduceLT, Nat.reduceDiv, Nat.reduceSub, evR, List.contains, List.elem, TS T, f2, f3, f6, hg1, hg2, hi1, hi2, hb1, hb2, g1, g2, bne_self_eq_false, beq_self_eq_true] <;> rfl) rfl ?_
      refine Wz.ld rfl rfl rfl (by simp only [MS, Nat.reduceBEq, Nat.reduceBNe, Nat.reduceEqDiff, reduceIte, if_true, if_false, reduceCtorEq, Nat.reduceAdd, Nat.reduceMul, Nat.reduceLeDiff, Nat.reduceLT, Nat.reduceDiv, Nat.reduceSub, loadA, partV, evR, List.contains, List.elem, TS T, f2, f3, f6, hg1, hg2, hi1, hi2, hb1, hb2, g1, g2, bne_self_eq_false, beq_self_eq_true] <;> rfl) rfl ?_
      refine Wz.v rfl rfl rfl (by first | rfl | (simp only [MS, Nat.reduceBEq, Nat.reduceBNe, Nat.reduceEqDiff, reduceIte, if_true, if_false, reduceCtorEq, Nat.reduceAdd, Nat.reduceMul, Nat.reduceLeDiff, Nat.reduceLT, Nat.reduceDiv, Nat.reduceSub, evR, List.contains, List.elem, TS T, f2, f3, f6, hg1, hg2, hi1, hi2, hb1, hb2, g1, g2, bne_self_eq_false, beq_self_eq_true] <;> rfl)) rfl ?_
      refine Wz.v rfl rfl rfl (by simp only [MS, Nat.reduceBEq, Nat.reduceBNe, Nat.reduceEqDiff, reduceIte, if_true, if_false, reduceCtorEq, Nat.reduceAdd, Nat.reduceMul, Nat.reduceLeDiff, Nat.reduceLT, Nat.reduceDiv, Nat.reduceSub, cval, cv, evR, List.contains, List.elem, TS T, f2, f3, f6, hg1, hg2, hi1, hi2, hb1, hb2, g1, g2, bne_self_eq_false, beq_self_eq_true] <;> rfl) rfl ?_
      refine Wz.ld rfl rfl rfl (by simp only [MS, Nat.reduceBEq, Nat.reduceBNe, Nat.reduceEqDiff, reduceIte, if_true, if_false, reduceCtorEq, Nat.reduceAdd, Nat.reduceMul, Nat.reduceLeDiff, Nat.reduceLT, Nat.reduceDiv, Nat.reduceSub, loadA, partV, evR, List.contains, List.elem, TS T, f2, f3, f6, hg1, hg2, hi1, hi2, hb1, hb2, g1, g2, bne_self_eq_false, beq_self_eq_true] <;> rfl) rfl ?_
      refine Wz.v rfl rfl rfl (by simp only [MS, Nat.reduceBEq, Nat.reduceBNe, Nat.reduceEqDiff, reduceIte, if_true, if_false, reduceCtorEq, Nat.reduceAdd, Nat.reduceMul, Nat.reduceLeDiff, Nat.reduceLT, Nat.reduceDiv, Nat.reduceSub, binA, arithA, strA, isC, cval, cv, evR, List.contains, List.elem, TS T, f2, f3, f6, hg1, hg2, hi1, hi2, hb1, hb2, g1, g2, bne_self_eq_false, beq_self_eq_true] <;> rfl) rfl ?_
      refine Wz.nil ?_
      refine hn11 _ ?_
      refine Wc.cond (t := false) rfl (fun h => by cases h) fun _ => ?_
      refine Wc.skip (hx10 _ _ (by simp) (hn9 _ ?_))
      have hw := w64 (n := i) (by omega)
      refine Wc.rg ?_
      refine Wo.val rfl (by first | rfl | (simp only [MS, Nat.reduceBEq, Nat.reduceBNe, Nat.reduceEqDiff, reduceIte, if_true, if_false, reduceCtorEq, Nat.reduceAdd, Nat.reduceMul, Nat.reduceLeDiff, Nat.reduceLT, Nat.reduceDiv, Nat.reduceSub, TS T, f6, hw] <;> rfl)) rfl ?_
      refine Wo.val rfl (by simp only [MS, Nat.reduceBEq, Nat.reduceBNe, Nat.reduceEqDiff, reduceIte, if_true, if_false, reduceCtorEq, Nat.reduceAdd, Nat.reduceMul, Nat.reduceLeDiff, Nat.reduceLT, Nat.reduceDiv, Nat.reduceSub, binA, arithA, strA, isC, cval, cv, TS T, f6, hw] <;> rfl) rfl ?_
      refine Wo.val rfl (by first | rfl | (simp only [MS, Nat.reduceBEq, Nat.reduceBNe, Nat.reduceEqDiff, reduceIte, if_true, if_false, reduceCtorEq, Nat.reduceAdd, Nat.reduceMul, Nat.reduceLeDiff, Nat.reduceLT, Nat.reduceDiv, Nat.reduceSub, cval, cv, TS T, f6, hw] <;> rfl)) rfl ?_
      refine Wo.nil ?_
      exact hnL2 _ (k - 1) (by omega) ⟨i + 1, _, rfl, by omega, by simp [look, f2], by simp [look, f3], rfl⟩
    · refine Wc.exit (hx16 _ _ (by simp) (hxL2 _ _ (by simp) (hb14 _ (hn13 _ ?_))))
      refine Wc.seq fun K17 hn17 hx17 => ?_
      refine Wc.rg ?_
      refine Wo.val rfl (by first | rfl | (simp only [MS, Nat.reduceBEq, Nat.reduceBNe, Nat.reduceEqDiff, reduceIte, if_true, if_false, reduceCtorEq, Nat.reduceAdd, Nat.reduceMul, Nat.reduceLeDiff, Nat.reduceLT, Nat.reduceDiv, Nat.reduceSub, cval, cv, TS T] <;> rfl)) rfl ?_
      refine Wo.nil ?_
      exact hn17 _ (Wc.ret (hr0 _ _ [.b true] rfl ⟨rfl, hx0⟩))
end Go.Mx

namespace Go.Mx
open Go.Proofs
set_option maxRecDepth 100000
set_option maxHeartbeats 2000000
theorem S.flook_ok {tb fc} (T : S.Ty tb) {call call' : Caller} {lf : Nat} (hlf : 2000000000000 ≤ lf) (hc : ∀ args h, call' (.fn 26) args h = runF tb fc call lf Tryz.f26 args h)
    {G : Nat → Option BT} {h : Hp} {lv : V} {m : Nat} {C : Nat → Cl} {reg : Nat → Nat} (hT : TOk G h) {Tab : Nat → List Lf → Prop} (hTab : ∀ g ls, Tab g ls → SeeOk 3 9 call g ls) (hC : Clos Tab G h lv m C reg) :
    ∃ h' ob L, call' (.fn 26) [lv] h = some (.ret (.sl ob 0 m (some m) 5), h') ∧ Ext h h' ∧ TOk G h' ∧ h.n ≤ ob ∧ Eyes 3 9 h' ob m L ∧ (∀ i, i < m → ∀ b, (L i).priv b → h.n ≤ b) ∧ ∀ i, i < m → ((L i).ns, (L i).ss) = (C i).seen h ∧ (L i).ns.length ≤ 1000000000000 ∧ (L i).ss.length ≤ 1000000000000 := by
  suffices H : Wf tb fc call lf Tryz.f26 [lv] h (fun v h' => ∃ ob L, v = .sl ob 0 m (some m) 5 ∧ Ext h h' ∧ TOk G h' ∧ h.n ≤ ob ∧ Eyes 3 9 h' ob m L ∧ (∀ i, i < m → ∀ b, (L i).priv b → h.n ≤ b) ∧ ∀ i, i < m → ((L i).ns, (L i).ss) = (C i).seen h ∧ (L i).ns.length ≤ 1000000000000 ∧ (L i).ss.length ≤ 1000000000000) by
    obtain ⟨v, h', h1, ob, L, rfl, h2⟩ := H
    exact ⟨h', ob, L, by rw [hc]; exact h1, h2⟩
  have hmb := hC.small
  have hln : bltA tb .len #[32] [lv] = some (.i .i64 m) := by
    rcases hC.v with ⟨rfl, rfl⟩ | ⟨lb, ty, cs, rw, rfl, _⟩ <;> simp [bltA, T.t32]
  have hix : ∀ hi, Ext h hi → ∀ i, i < m → ∃ b, indexAddrA tb 32 lv (.i .i64 i) = some (.p b i) ∧ loadA tb hi 39 (.p b i) = some (.f (.func (C i).g) [] [.p (C i).a 0]) := by
    intro hi hx i him
    rcases hC.v with ⟨_, rfl⟩ | ⟨lb, ty, cs, rw, rfl, hlb, _, hg, hcs⟩
    · omega
    · exact ⟨lb, by simp [indexAddrA, T.t32, T.t39, him], by simp [loadA, T.t39, hx.old lb hlb, hg, partV, hcs i him]⟩
  have hms : makeSliceA tb h 55 (.i .i64 m) (.i .i64 m) = some (.sl h.n 0 m (some m) 5, h.push (.blk (2 * 54) (rep m [.nils, .nils, .b false, .i .i64 0, .b false]) true)) := by
    simp [makeSliceA, T.t55, T.t54, TI.zero, V.cells]; omega
  refine Wf.intro (sz := 23) rfl rfl fun K hn0 hr0 => ?_
  repeat refine Wc.assoc ?_
  refine Wc.seq fun K1 hn1 hx1 => ?_
  refine Wc.rg ?_
  refine Wo.val rfl (by first | rfl | (simp only [MS, Nat.reduceBEq, Nat.reduceBNe, Nat.reduceEqDiff, reduceIte, if_true, if_false, reduceCtorEq, Nat.reduceAdd, Nat.reduceMul, Nat.reduceLeDiff, Nat.reduceLT, Nat.reduceDiv, Nat.reduceSub, cval, cv, TS T] <;> rfl)) rfl ?_
  refine Wo.nil ?_
  refine hn1 _ ?_
  repeat refine Wc.assoc ?_
  refine Wc.seq fun K2 hn2 hx2 => ?_
  refine Wc.rg ?_
  refine Wo.val rfl (by first | rfl | (simp only [MS, Nat.reduceBEq, Nat.reduceBNe, Nat.reduceEqDiff, reduceIte, if_true, if_false, reduceCtorEq, Nat.reduceAdd, Nat.reduceMul, Nat.reduceLeDiff, Nat.reduceLT, Nat.reduceDiv, Nat.reduceSub, TS T, hln, hms] <;> rfl)) rfl ?_
  refine Wo.val rfl (by simp only [MS, Nat.reduceBEq, Nat.reduceBNe, Nat.reduceEqDiff, reduceIte, if_true, if_false, reduceCtorEq, Nat.reduceAdd, Nat.reduceMul, Nat.reduceLeDiff, Nat.reduceLT, Nat.reduceDiv, Nat.reduceSub, cval, cv, TS T, hln, hms] <;> rfl) rfl ?_
  refine Wo.val rfl (by simp only [MS, Nat.reduceBEq, Nat.reduceBNe, Nat.reduceEqDiff, reduceIte, if_true, if_false, reduceCtorEq, Nat.reduceAdd, Nat.reduceMul, Nat.reduceLeDiff, Nat.reduceLT, Nat.reduceDiv, Nat.reduceSub, cval, cv, TS T, hln, hms] <;> rfl) rfl ?_
  refine Wo.val rfl (by first | rfl | (simp only [MS, Nat.reduceBEq, Nat.reduceBNe, Nat.reduceEqDiff, reduceIte, if_true, if_false, reduceCtorEq, Nat.reduceAdd, Nat.reduceMul, Nat.reduceLeDiff, Nat.reduceLT, Nat.reduceDiv, Nat.reduceSub, cval, cv, TS T, hln, hms] <;> rfl)) rfl ?_
  refine Wo.nil ?_
  refine hn2 _ ?_
  have hx0 := Ext.push h (.blk (2 * 54) (rep m [.nils, .nils, .b false, .i .i64 0, .b false]) true)
  have hE0 := Eyes.new (ei := 3) (es := 9) h (2 * 54) m
  generalize h.push (.blk (2 * 54) (rep m [.nils, .nils, .b false, .i .i64 0, .b false]) true) = h1 at hx0 hE0 ⊢
  repeat refine Wc.assoc ?_
  refine Wc.seq fun K3 hn3 hx3 => ?_
  refine Wc.rg ?_
  refine Wo.val rfl (by first | rfl | (simp only [MS, Nat.reduceBEq, Nat.reduceBNe, Nat.reduceEqDiff, reduceIte, if_true, if_false, reduceCtorEq, Nat.reduceAdd, Nat.reduceMul, Nat.reduceLeDiff, Nat.reduceLT, Nat.reduceDiv, Nat.reduceSub, cval, cv, TS T] <;> rfl)) rfl ?_
  refine Wo.nil ?_
  refine hn3 _ ?_
  repeat refine Wc.assoc ?_
  refine Wc.seq fun K4 hn4 hx4 => ?_
  refine Wc.block fun K6 hb6 hx6 => ?_
  refine Wc.loop (fun k s => ∃ i fr hi L, s = ⟨fr, [], hi⟩ ∧ i + k = m ∧ Ext h hi ∧ TOk G hi ∧ Eyes 3 9 hi h.n m L ∧ look fr 0 = some lv ∧ look fr 3 = some (.sl h.n 0 m (some m) 5) ∧ look fr 4 = some (.i .i64 (i : Nat)) ∧ (∀ j, j < i → ((L j).ns, (L j).ss) = (C j).seen h) ∧ (∀ j, i ≤ j → L j = eye0) ∧ (∀ j, j < m → ∀ b, (L j).priv b → h.n ≤ b)) m (by omega) ⟨0, _, h1, _, rfl, by omega, hx0, hT.ext hx0, hE0, rfl, rfl, rfl, fun j hj => by omega, fun _ _ => rfl, fun j _ b hb => by (rcases hb with h | h <;> simp [eye0, blkOf] at h)⟩ ?_
  rintro k _ ⟨i, fr, hi, L, rfl, hik, hx, hTi, hEi, f0, f3, f4, hdone, hnew, hpv⟩ KL hnL hxL
  repeat refine Wc.assoc ?_
  refine Wc.seq fun K7 hn7 hx7 => ?_
  refine Wc.rg ?_
  refine Wo.val rfl (by first | rfl | (simp only [MS, Nat.reduceBEq, Nat.reduceBNe, Nat.reduceEqDiff, reduceIte, if_true, if_false, reduceCtorEq, Nat.reduceAdd, Nat.reduceMul, Nat.reduceLeDiff, Nat.reduceLT, Nat.reduceDiv, Nat.reduceSub, TS T, f0, f4, hln] <;> rfl)) rfl ?_
  refine Wo.val rfl (by first | rfl | (simp only [MS, Nat.reduceBEq, Nat.reduceBNe, Nat.reduceEqDiff, reduceIte, if_true, if_false, reduceCtorEq, Nat.reduceAdd, Nat.reduceMul, Nat.reduceLeDiff, Nat.reduceLT, Nat.reduceDiv, Nat.reduceSub, TS T, f0, f4, hln] <;> rfl)) rfl ?_
  refine Wo.val rfl (by simp only [MS, Nat.reduceBEq, Nat.reduceBNe, Nat.reduceEqDiff, reduceIte, if_true, if_false, reduceCtorEq, Nat.reduceAdd, Nat.reduceMul, Nat.reduceLeDiff, Nat.reduceLT, Nat.reduceDiv, Nat.reduceSub, cval, cv, TS T, f0, f4, hln] <;> rfl) rfl ?_
  refine Wo.val rfl (by simp only [MS, Nat.reduceBEq, Nat.reduceBNe, Nat.reduceEqDiff, reduceIte, if_true, if_false, reduceCtorEq, Nat.reduceAdd, Nat.reduceMul, Nat.reduceLeDiff, Nat.reduceLT, Nat.reduceDiv, Nat.reduceSub, binA, arithA, strA, isC, cval, cv, TS T, f0, f4, hln] <;> rfl) rfl ?_
  refine Wo.nil ?_
  refine hn7 _ ?_
  refine Wc.seq fun K8 hn8 hx8 => ?_
  refine Wc.cond (t := decide ((i : Int) < (m : Int))) rfl (fun hd => ?_) fun hd => ?_
  · refine Wc.skip (hn8 _ ?_)
    have him : i < m := by have := of_decide_eq_true hd; omega
    obtain ⟨lb, hia, hld⟩ := hix hi hx i him
    have ix2 : indexAddrA tb 55 (.sl h.n 0 m (some m) 5) (.i .i64 i) = some (.p h.n (5 * i)) := by simp [indexAddrA, T.t55, T.t54, him]; omega
    obtain ⟨htab, ⟨hw, hsb⟩, t, hGa, hreg, hlfs⟩ := hC.ok i him
    have hsee := hTab _ _ htab
    refine Wc.seq fun K9 hn9 hx9 => ?_
    refine Wc.block fun K10 hb10 hx10 => ?_
    refine Wc.drawn [.p 0 [14, 15, 16, 17, 18, 19, 20] none, .p 1 [14, 15, 16, 17, 18, 19, 20] none, .p 2 [16, 17, 18, 19, 20] none, .p 3 [17, 18, 19, 20] none, .p 4 [14, 15, 16, 17, 18, 19, 20] none, .p 5 [14, 15, 16, 17, 18, 19, 20] none, .p 6 [14, 15, 16, 17, 20] none, .e 7 [21] none 127] (by kernel_rfl) ?_
    refine Wz.v rfl rfl rfl (by first | rfl | (simp only [MS, Nat.reduceBEq, Nat.reduceBNe, Nat.reduceEqDiff, reduceIte, if_true, if_false, reduceCtorEq, Nat.reduceAdd, Nat.reduceMul, Nat.reduceLeDiff, Nat.reduceLT, Nat.reduceDiv, Nat.reduceSub, evR, List.contains, List.elem, TS T, f0, f3, f4, hia, hld, ix2] <;> rfl)) rfl ?_
    refine Wz.v rfl rfl rfl (by first | rfl | (simp only [MS, Nat.reduceBEq, Nat.reduceBNe, Nat.reduceEqDiff, reduceIte, if_true, if_false, reduceCtorEq, Nat.reduceAdd, Nat.reduceMul, Nat.reduceLeDiff, Nat.reduceLT, Nat.reduceDiv, Nat.reduceSub, evR, List.contains, List.elem, TS T, f0, f3, f4, hia, hld, ix2] <;> rfl)) rfl ?_
    refine Wz.v rfl rfl rfl (by simp only [MS, Nat.reduceBEq, Nat.reduceBNe, Nat.reduceEqDiff, reduceIte, if_true, if_false, reduceCtorEq, Nat.reduceAdd, Nat.reduceMul, Nat.reduceLeDiff, Nat.reduceLT, Nat.reduceDiv, Nat.reduceSub, cval, cv, evR, List.contains, List.elem, TS T, f0, f3, f4, hia, hld, ix2] <;> rfl) rfl ?_
    refine Wz.ld rfl rfl rfl (by simp only [MS, Nat.reduceBEq, Nat.reduceBNe, Nat.reduceEqDiff, reduceIte, if_true, if_false, reduceCtorEq, Nat.reduceAdd, Nat.reduceMul, Nat.reduceLeDiff, Nat.reduceLT, Nat.reduceDiv, Nat.reduceSub, partV, evR, List.contains, List.elem, TS T, f0, f3, f4, hia, hld, ix2] <;> rfl) rfl ?_
    refine Wz.v rfl rfl rfl (by first | rfl | (simp only [MS, Nat.reduceBEq, Nat.reduceBNe, Nat.reduceEqDiff, reduceIte, if_true, if_false, reduceCtorEq, Nat.reduceAdd, Nat.reduceMul, Nat.reduceLeDiff, Nat.reduceLT, Nat.reduceDiv, Nat.reduceSub, evR, List.contains, List.elem, TS T, f0, f3, f4, hia, hld, ix2] <;> rfl)) rfl ?_
    refine Wz.v rfl rfl rfl (by first | rfl | (simp only [MS, Nat.reduceBEq, Nat.reduceBNe, Nat.reduceEqDiff, reduceIte, if_true, if_false, reduceCtorEq, Nat.reduceAdd, Nat.reduceMul, Nat.reduceLeDiff, Nat.reduceLT, Nat.reduceDiv, Nat.reduceSub, evR, List.contains, List.elem, TS T, f0, f3, f4, hia, hld, ix2] <;> rfl)) rfl ?_
    refine Wz.v rfl rfl rfl (by simp only [MS, Nat.reduceBEq, Nat.reduceBNe, Nat.reduceEqDiff, reduceIte, if_true, if_false, reduceCtorEq, Nat.reduceAdd, Nat.reduceMul, Nat.reduceLeDiff, Nat.reduceLT, Nat.reduceDiv, Nat.reduceSub, cval, cv, evR, List.contains, List.elem, TS T, f0, f3, f4, hia, hld, ix2] <;> rfl) rfl ?_
    refine Wz.cl rfl rfl rfl rfl (by first | rfl | (simp only [MS, Nat.reduceBEq, Nat.reduceBNe, Nat.reduceEqDiff, reduceIte, if_true, if_false, reduceCtorEq, Nat.reduceAdd, Nat.reduceMul, Nat.reduceLeDiff, Nat.reduceLT, Nat.reduceDiv, Nat.reduceSub, cval, cv, evR, List.contains, List.elem, TS T, f0, f3, f4, hia, hld, ix2] <;> rfl)) (by first | rfl | (simp only [MS, Nat.reduceBEq, Nat.reduceBNe, Nat.reduceEqDiff, reduceIte, if_true, if_false, reduceCtorEq, Nat.reduceAdd, Nat.reduceMul, Nat.reduceLeDiff, Nat.reduceLT, Nat.reduceDiv, Nat.reduceSub, cval, cv, evR, List.contains, List.elem, TS T, f0, f3, f4, hia, hld, ix2] <;> rfl)) (fun _ => rfl) ?_
    have hLi : L i = eye0 := hnew i (Nat.le_refl _)
    have hGn : ∀ b, h.n ≤ b → G b = none := fun b hb => by
      cases hg : G b with
      | none => rfl
      | some t => have := (hT.blk b t hg).1; omega
    have P : Pre 3 9 G t.reg t.rm hi h.n (5 * i) (L i) := ⟨hTi, hEi.at_ i him, hGn _ (Nat.le_refl _), (fun b hb => by rw [hLi] at hb; rcases hb with h | h <;> simp [eye0, blkOf] at h), (fun h => by rw [hLi] at h; cases h), (fun h => by rw [hLi] at h; cases h)⟩
    obtain ⟨h', E', hcall, hpost, hseen⟩ := hsee G hi h.n (5 * i) (L i) (C i).a 0 t P hGa (by simpa using hlfs) (by rw [hLi]; simp [eye0]; omega)
    have hmk : (L i).mark = false := by rw [hLi]; rfl
    refine ⟨_, h', hcall, ?_, ?_, ?_⟩
    · repeat' first | exact ldsOk_nil | refine ldsOk_skip (by rfl) ?_
    · exact alsOk_nil
    refine Wz.nil ?_
    refine hx10 _ _ (by simp) (hn9 _ ?_)
    have hw := w64 (n := i) (by omega)
    refine Wc.rg ?_
    refine Wo.val rfl (by first | rfl | (simp only [MS, Nat.reduceBEq, Nat.reduceBNe, Nat.reduceEqDiff, reduceIte, if_true, if_false, reduceCtorEq, Nat.reduceAdd, Nat.reduceMul, Nat.reduceLeDiff, Nat.reduceLT, Nat.reduceDiv, Nat.reduceSub, TS T, f4, hw] <;> rfl)) rfl ?_
    refine Wo.val rfl (by simp only [MS, Nat.reduceBEq, Nat.reduceBNe, Nat.reduceEqDiff, reduceIte, if_true, if_false, reduceCtorEq, Nat.reduceAdd, Nat.reduceMul, Nat.reduceLeDiff, Nat.reduceLT, Nat.reduceDiv, Nat.reduceSub, binA, arithA, strA, isC, cval, cv, TS T, f4, hw] <;> rfl) rfl ?_
    refine Wo.val rfl (by first | rfl | (simp only [MS, Nat.reduceBEq, Nat.reduceBNe, Nat.reduceEqDiff, reduceIte, if_true, if_false, reduceCtorEq, Nat.reduceAdd, Nat.reduceMul, Nat.reduceLeDiff, Nat.reduceLT, Nat.reduceDiv, Nat.reduceSub, cval, cv, TS T, f4, hw] <;> rfl)) rfl ?_
    refine Wo.nil ?_
    have hgs : ∀ b t, G b = some t → h'.get b = hi.get b := fun b t hb => Saw.gsame P hpost.saw hb (.inl hmk)
    refine hnL _ (k - 1) (by omega) ⟨i + 1, _, h', _, rfl, by omega, ⟨Nat.le_trans hx.n hpost.saw.n, fun b hb => ?_⟩, hpost.ok, hEi.saw him hpost.saw hmk, by simp [look, f0], by simp [look, f3], rfl, fun j hj => ?_, fun j hj => ?_, fun j hj b hb => ?_⟩
    · rw [hpost.saw.old b (Nat.lt_of_lt_of_le hb hx.n) (by omega) (fun hp => by rw [hLi] at hp; rcases hp with h | h <;> simp [eye0, blkOf] at h) (by rw [hmk]; simp)]
      exact hx.old b hb
    · by_cases e : j = i
      · subst e
        simp only [if_true]
        rw [hseen hmk, hLi]
        have := Cl.seen_same hC hT him (h' := hi) (fun b t hb _ => hx.old b (hT.blk b t hb).1)
        rw [← this]; simp only [Cl.seen, eye0, List.drop_zero]
      · simp only [e, if_false]; exact hdone j (by omega)
    · have e : j ≠ i := by omega
      simp only [e, if_false]; exact hnew j (by omega)
    · by_cases e : j = i
      · subst e
        simp only [if_true] at hb
        rcases hpost.saw.priv b hb with h1 | h1
        · exact hpv j hj b h1
        · have := hx.n; omega
      · simp only [e, if_false] at hb; exact hpv j hj b hb
  · have hik' : i = m := by have := of_decide_eq_false hd; omega
    refine Wc.exit (hx8 _ _ (by simp) (hxL _ _ (by simp) (hb6 _ (hn4 _ ?_))))
    refine Wc.seq fun K17 hn17 hx17 => ?_
    refine Wc.rg ?_
    refine Wo.val rfl (by first | rfl | (simp only [MS, Nat.reduceBEq, Nat.reduceBNe, Nat.reduceEqDiff, reduceIte, if_true, if_false, reduceCtorEq, Nat.reduceAdd, Nat.reduceMul, Nat.reduceLeDiff, Nat.reduceLT, Nat.reduceDiv, Nat.reduceSub, TS T, f3] <;> rfl)) rfl ?_
    refine Wo.val rfl (by first | rfl | (simp only [MS, Nat.reduceBEq, Nat.reduceBNe, Nat.reduceEqDiff, reduceIte, if_true, if_false, reduceCtorEq, Nat.reduceAdd, Nat.reduceMul, Nat.reduceLeDiff, Nat.reduceLT, Nat.reduceDiv, Nat.reduceSub, cval, cv, TS T, f3] <;> rfl)) rfl ?_
    refine Wo.nil ?_
    refine hn17 _ (Wc.ret (hr0 _ _ [_] rfl ⟨h.n, L, rfl, hx, hTi, Nat.le_refl _, hEi, hpv, fun j hj => ⟨hdone j (by omega), ?_, ?_⟩⟩))
    · have h1 := hdone j (by omega)
      have h2 := flats_len h false (C j).ls (cellsOf h (C j).a) ([], [])
      have h3 : (L j).ns = ((C j).seen h).1 := by rw [← h1]
      obtain ⟨_, ⟨hw, _⟩, _⟩ := hC.ok j hj
      rw [h3]; simp [Cl.seen] at h2 ⊢; omega
    · have h1 := hdone j (by omega)
      have h3 : (L j).ss = ((C j).seen h).2 := by rw [← h1]
      obtain ⟨_, ⟨_, hs⟩, _⟩ := hC.ok j hj
      rw [h3]; exact hs h
end Go.Mx

namespace Go.Mx
open Go.Proofs
set_option maxRecDepth 100000
set_option maxHeartbeats 2000000
theorem S.ixE {tb} (T : S.Ty tb) {ob m i : Nat} (hi : i < m) : indexAddrA tb 55 (.sl ob 0 m (some m) 5) (.i .i64 i) = some (.p ob (5 * i)) := by
  simp [indexAddrA, T.t55, T.t54, hi]; omega
theorem S.falike_ok {tb fc} (T : S.Ty tb) {call call' : Caller} {lf : Nat} (hlf : 2000000000000 ≤ lf) (hc : ∀ args h, call' (.fn 28) args h = runF tb fc call lf Tryz.f28 args h)
    (h26 : ∀ {h : Hp} {E D : EyeS}, EyeV 3 9 h E → EyeV 3 9 h D → E.ns = D.ns → E.ss = D.ss → E.ns.length ≤ 1000000000000 → E.ss.length ≤ 1000000000000 → ∃ h', call (.fn 27) [E.val, D.val] h = some (.ret (.b true), h') ∧ Ext h h')
    {h : Hp} {o1 o2 m : Nat} {L1 L2 : Nat → EyeS} {but : Int} (e1 : Eyes 3 9 h o1 m L1) (e2 : Eyes 3 9 h o2 m L2) (hm : m ≤ 1000000) (hs : ∀ i : Nat, i < m → (i : Int) ≠ but → (L1 i).ns = (L2 i).ns ∧ (L1 i).ss = (L2 i).ss ∧ (L1 i).ns.length ≤ 1000000000000 ∧ (L1 i).ss.length ≤ 1000000000000) :
    ∃ h', call' (.fn 28) [.sl o1 0 m (some m) 5, .sl o2 0 m (some m) 5, .i .i64 but] h = some (.ret (.b true), h') ∧ Ext h h' := by
  suffices H : Wf tb fc call lf Tryz.f28 [.sl o1 0 m (some m) 5, .sl o2 0 m (some m) 5, .i .i64 but] h (fun v h' => v = .b true ∧ Ext h h') by
    obtain ⟨v, h', h1, rfl, h2⟩ := H
    exact ⟨h', by rw [hc]; exact h1, h2⟩
  refine Wf.intro (sz := 29) rfl rfl fun K hn0 hr0 => ?_
  repeat refine Wc.assoc ?_
  refine Wc.seq fun K1 hn1 hx1 => ?_
  refine Wc.rg ?_
  refine Wo.val rfl (by first | rfl | (simp only [MS, Nat.reduceBEq, Nat.reduceBNe, Nat.reduceEqDiff, reduceIte, if_true, if_false, reduceCtorEq, Nat.reduceAdd, Nat.reduceMul, Nat.reduceLeDiff, Nat.reduceLT, Nat.reduceDiv, Nat.reduceSub, cval, cv, TS T] <;> rfl)) rfl ?_
  refine Wo.nil ?_
  refine hn1 _ ?_
  repeat refine Wc.assoc ?_
  refine Wc.seq fun K2 hn2 hx2 => ?_
  refine Wc.rg ?_
  refine Wo.val rfl (by first | rfl | (simp only [MS, Nat.reduceBEq, Nat.reduceBNe, Nat.reduceEqDiff, reduceIte, if_true, if_false, reduceCtorEq, Nat.reduceAdd, Nat.reduceMul, Nat.reduceLeDiff, Nat.reduceLT, Nat.reduceDiv, Nat.reduceSub, cval, cv, TS T] <;> rfl)) rfl ?_
  refine Wo.nil ?_
  refine hn2 _ ?_
  repeat refine Wc.assoc ?_
  refine Wc.seq fun K3 hn3 hx3 => ?_
  refine Wc.block fun K6 hb6 hx6 => ?_
  refine Wc.loop (fun k s => ∃ i fr hi, s = ⟨fr, [], hi⟩ ∧ i + k = m ∧ Ext h hi ∧ look fr 0 = some (.sl o1 0 m (some m) 5) ∧ look fr 1 = some (.sl o2 0 m (some m) 5) ∧ look fr 2 = some (.i .i64 but) ∧ look fr 7 = some (.i .i64 (i : Nat))) m (by omega) ⟨0, _, h, rfl, by omega, Ext.refl h, rfl, rfl, rfl, rfl⟩ ?_
  rintro k _ ⟨i, fr, hi, rfl, hik, hx, f0, f1, f2, f7⟩ KL hnL hxL
  repeat refine Wc.assoc ?_
  refine Wc.seq fun K7 hn7 hx7 => ?_
  refine Wc.rg ?_
  refine Wo.val rfl (by first | rfl | (simp only [MS, Nat.reduceBEq, Nat.reduceBNe, Nat.reduceEqDiff, reduceIte, if_true, if_false, reduceCtorEq, Nat.reduceAdd, Nat.reduceMul, Nat.reduceLeDiff, Nat.reduceLT, Nat.reduceDiv, Nat.reduceSub, TS T, f0, f7] <;> rfl)) rfl ?_
  refine Wo.val rfl (by first | rfl | (simp only [MS, Nat.reduceBEq, Nat.reduceBNe, Nat.reduceEqDiff, reduceIte, if_true, if_false, reduceCtorEq, Nat.reduceAdd, Nat.reduceMul, Nat.reduceLeDiff, Nat.reduceLT, Nat.reduceDiv, Nat.reduceSub, TS T, f0, f7] <;> rfl)) rfl ?_
  refine Wo.val rfl (by simp only [MS, Nat.reduceBEq, Nat.reduceBNe, Nat.reduceEqDiff, reduceIte, if_true, if_false, reduceCtorEq, Nat.reduceAdd, Nat.reduceMul, Nat.reduceLeDiff, Nat.reduceLT, Nat.reduceDiv, Nat.reduceSub, bltA, intsA, intsA.go, cval, cv, TS T, f0, f7] <;> rfl) rfl ?_
  refine Wo.val rfl (by simp only [MS, Nat.reduceBEq, Nat.reduceBNe, Nat.reduceEqDiff, reduceIte, if_true, if_false, reduceCtorEq, Nat.reduceAdd, Nat.reduceMul, Nat.reduceLeDiff, Nat.reduceLT, Nat.reduceDiv, Nat.reduceSub, binA, arithA, strA, isC, cval, cv, TS T, f0, f7] <;> rfl) rfl ?_
  refine Wo.nil ?_
  refine hn7 _ ?_
  refine Wc.seq fun K8 hn8 hx8 => ?_
  refine Wc.cond (t := decide ((i : Int) < (m : Int))) rfl (fun hd => ?_) fun hd => ?_
  · refine Wc.skip (hn8 _ ?_)
    have him : i < m := by have := of_decide_eq_true hd; omega
    have ix1 := S.ixE T (ob := o1) him
    have ix2 := S.ixE T (ob := o2) him
    have ld1 := Eyes.ld T.t54 rfl rfl (e1.ext hx) him
    have ld2 := Eyes.ld T.t54 rfl rfl (e2.ext hx) him
    refine Wc.seq fun K9 hn9 hx9 => ?_
    refine Wc.block fun K10 hb10 hx10 => ?_
    repeat refine Wc.assoc ?_
    refine Wc.seq fun K11 hn11 hx11 => ?_
    have go : ∀ fr h2, Ext h h2 → look fr 0 = some (.sl o1 0 m (some m) 5) → look fr 1 = some (.sl o2 0 m (some m) 5) → look fr 2 = some (.i .i64 but) → look fr 7 = some (.i .i64 (i : Nat)) → look fr 28 = some (.b false) → K11 .normal ⟨fr, [], h2⟩ := by
      intro fr h2 hx f0 f1 f2 f7 f28
      refine hn11 _ ?_
      refine Wc.cond (t := false) f28 (fun h => by cases h) fun _ => ?_
      refine Wc.skip (hx10 _ _ (by simp) (hn9 _ ?_))
      have hw := w64 (n := i) (by omega)
      refine Wc.rg ?_
      refine Wo.val rfl (by first | rfl | (simp only [MS, Nat.reduceBEq, Nat.reduceBNe, Nat.reduceEqDiff, reduceIte, if_true, if_false, reduceCtorEq, Nat.reduceAdd, Nat.reduceMul, Nat.reduceLeDiff, Nat.reduceLT, Nat.reduceDiv, Nat.reduceSub, TS T, f7, hw] <;> rfl)) rfl ?_
      refine Wo.val rfl (by simp only [MS, Nat.reduceBEq, Nat.reduceBNe, Nat.reduceEqDiff, reduceIte, if_true, if_false, reduceCtorEq, Nat.reduceAdd, Nat.reduceMul, Nat.reduceLeDiff, Nat.reduceLT, Nat.reduceDiv, Nat.reduceSub, binA, arithA, strA, isC, cval, cv, TS T, f7, hw] <;> rfl) rfl ?_
      refine Wo.val rfl (by first | rfl | (simp only [MS, Nat.reduceBEq, Nat.reduceBNe, Nat.reduceEqDiff, reduceIte, if_true, if_false, reduceCtorEq, Nat.reduceAdd, Nat.reduceMul, Nat.reduceLeDiff, Nat.reduceLT, Nat.reduceDiv, Nat.reduceSub, cval, cv, TS T, f7, hw] <;> rfl)) rfl ?_
      refine Wo.nil ?_
      exact hnL _ (k - 1) (by omega) ⟨i + 1, _, h2, rfl, by omega, hx, by simp [look, f0], by simp [look, f1], by simp [look, f2], rfl⟩
    by_cases hb : (i : Int) = but
    · have hb' : ((i : Int) != but) = false := by simp [hb]
      refine Wc.drawn [.p 0 [14, 15, 16, 17, 18, 19, 20, 21, 22, 23, 24, 25, 27, 28] none, .p 1 [14, 15, 16, 17, 18, 19, 20, 21, 22, 23, 24, 25, 27, 28] none, .p 2 [16, 17, 18, 19, 20, 21, 22, 23, 24, 25, 27, 28] none, .p 3 [17, 18, 19, 20, 21, 22, 23, 24, 25, 27, 28] none, .p 4 [18, 19, 20, 21, 22, 23, 24, 25, 27, 28] (some (17, true)), .p 5 [18, 19, 20, 21, 22, 23, 24, 25, 27, 28] (some (17, true)), .p 6 [20, 21, 22, 23, 24, 25, 27, 28] (some (17, true)), .p 7 [21, 22, 23, 24, 25, 27, 28] (some (17, true)), .p 8 [18, 19, 20, 21, 22, 23, 24, 25, 27, 28] (some (17, true)), .p 9 [18, 19, 20, 21, 22, 23, 24, 25, 27, 28] (some (17, true)), .p 10 [18, 19, 20, 21, 24, 25, 27, 28] (some (17, true)), .p 11 [18, 19, 20, 21, 25, 27, 28] (some (17, true)), .e 12 [26, 27, 28] (some (17, true)) 4095, .p 13 [27, 28] (some (17, true)), .p 14 [28] none] (by kernel_rfl) ?_
      refine Wz.v rfl rfl rfl (by first | rfl | (simp only [MS, Nat.reduceBEq, Nat.reduceBNe, Nat.reduceEqDiff, reduceIte, if_true, if_false, reduceCtorEq, Nat.reduceAdd, Nat.reduceMul, Nat.reduceLeDiff, Nat.reduceLT, Nat.reduceDiv, Nat.reduceSub, evR, List.contains, List.elem, TS T, f0, f1, f2, f7, hb'] <;> rfl)) rfl ?_
      refine Wz.v rfl rfl rfl (by first | rfl | (simp only [MS, Nat.reduceBEq, Nat.reduceBNe, Nat.reduceEqDiff, reduceIte, if_true, if_false, reduceCtorEq, Nat.reduceAdd, Nat.reduceMul, Nat.reduceLeDiff, Nat.reduceLT, Nat.reduceDiv, Nat.reduceSub, evR, List.contains, List.elem, TS T, f0, f1, f2, f7, hb'] <;> rfl)) rfl ?_
      refine Wz.v rfl rfl rfl (by simp only [MS, Nat.reduceBEq, Nat.reduceBNe, Nat.reduceEqDiff, reduceIte, if_true, if_false, reduceCtorEq, Nat.reduceAdd, Nat.reduceMul, Nat.reduceLeDiff, Nat.reduceLT, Nat.reduceDiv, Nat.reduceSub, binA, arithA, strA, isC, cval, cv, evR, List.contains, List.elem, TS T, f0, f1, f2, f7, hb'] <;> rfl) rfl ?_
      refine Wz.v rfl rfl rfl (by first | rfl | (simp only [MS, Nat.reduceBEq, Nat.reduceBNe, Nat.reduceEqDiff, reduceIte, if_true, if_false, reduceCtorEq, Nat.reduceAdd, Nat.reduceMul, Nat.reduceLeDiff, Nat.reduceLT, Nat.reduceDiv, Nat.reduceSub, evR, List.contains, List.elem, TS T, f0, f1, f2, f7, hb'] <;> rfl)) rfl ?_
      refine Wz.skipP rfl (by first | rfl | (simp only [wantedA, wantedP, evR, List.contains, List.elem, MS, Nat.reduceBEq, Nat.reduceBNe, Nat.reduceEqDiff, reduceIte, if_true, if_false, reduceCtorEq, Nat.reduceAdd, Nat.reduceMul, Nat.reduceLeDiff, Nat.reduceLT, Nat.reduceDiv, Nat.reduceSub, f0, f1, f2, f7, hb'] <;> rfl)) rfl ?_
      refine Wz.skipP rfl (by first | rfl | (simp only [wantedA, wantedP, evR, List.contains, List.elem, MS, Nat.reduceBEq, Nat.reduceBNe, Nat.reduceEqDiff, reduceIte, if_true, if_false, reduceCtorEq, Nat.reduceAdd, Nat.reduceMul, Nat.reduceLeDiff, Nat.reduceLT, Nat.reduceDiv, Nat.reduceSub, f0, f1, f2, f7, hb'] <;> rfl)) rfl ?_
      refine Wz.skipP rfl (by first | rfl | (simp only [wantedA, wantedP, evR, List.contains, List.elem, MS, Nat.reduceBEq, Nat.reduceBNe, Nat.reduceEqDiff, reduceIte, if_true, if_false, reduceCtorEq, Nat.reduceAdd, Nat.reduceMul, Nat.reduceLeDiff, Nat.reduceLT, Nat.reduceDiv, Nat.reduceSub, f0, f1, f2, f7, hb'] <;> rfl)) rfl ?_
      refine Wz.skipP rfl (by first | rfl | (simp only [wantedA, wantedP, evR, List.contains, List.elem, MS, Nat.reduceBEq, Nat.reduceBNe, Nat.reduceEqDiff, reduceIte, if_true, if_false, reduceCtorEq, Nat.reduceAdd, Nat.reduceMul, Nat.reduceLeDiff, Nat.reduceLT, Nat.reduceDiv, Nat.reduceSub, f0, f1, f2, f7, hb'] <;> rfl)) rfl ?_
      refine Wz.skipP rfl (by first | rfl | (simp only [wantedA, wantedP, evR, List.contains, List.elem, MS, Nat.reduceBEq, Nat.reduceBNe, Nat.reduceEqDiff, reduceIte, if_true, if_false, reduceCtorEq, Nat.reduceAdd, Nat.reduceMul, Nat.reduceLeDiff, Nat.reduceLT, Nat.reduceDiv, Nat.reduceSub, f0, f1, f2, f7, hb'] <;> rfl)) rfl ?_
      refine Wz.skipP rfl (by first | rfl | (simp only [wantedA, wantedP, evR, List.contains, List.elem, MS, Nat.reduceBEq, Nat.reduceBNe, Nat.reduceEqDiff, reduceIte, if_true, if_false, reduceCtorEq, Nat.reduceAdd, Nat.reduceMul, Nat.reduceLeDiff, Nat.reduceLT, Nat.reduceDiv, Nat.reduceSub, f0, f1, f2, f7, hb'] <;> rfl)) rfl ?_
      refine Wz.skipP rfl (by first | rfl | (simp only [wantedA, wantedP, evR, List.contains, List.elem, MS, Nat.reduceBEq, Nat.reduceBNe, Nat.reduceEqDiff, reduceIte, if_true, if_false, reduceCtorEq, Nat.reduceAdd, Nat.reduceMul, Nat.reduceLeDiff, Nat.reduceLT, Nat.reduceDiv, Nat.reduceSub, f0, f1, f2, f7, hb'] <;> rfl)) rfl ?_
      refine Wz.skipP rfl (by first | rfl | (simp only [wantedA, wantedP, evR, List.contains, List.elem, MS, Nat.reduceBEq, Nat.reduceBNe, Nat.reduceEqDiff, reduceIte, if_true, if_false, reduceCtorEq, Nat.reduceAdd, Nat.reduceMul, Nat.reduceLeDiff, Nat.reduceLT, Nat.reduceDiv, Nat.reduceSub, f0, f1, f2, f7, hb'] <;> rfl)) rfl ?_
      refine Wz.skipE rfl (by first | rfl | (simp only [wantedA, wantedP, evR, List.contains, List.elem, MS, Nat.reduceBEq, Nat.reduceBNe, Nat.reduceEqDiff, reduceIte, if_true, if_false, reduceCtorEq, Nat.reduceAdd, Nat.reduceMul, Nat.reduceLeDiff, Nat.reduceLT, Nat.reduceDiv, Nat.reduceSub, f0, f1, f2, f7, hb'] <;> rfl)) rfl ?_
      refine Wz.skipP rfl (by first | rfl | (simp only [wantedA, wantedP, evR, List.contains, List.elem, MS, Nat.reduceBEq, Nat.reduceBNe, Nat.reduceEqDiff, reduceIte, if_true, if_false, reduceCtorEq, Nat.reduceAdd, Nat.reduceMul, Nat.reduceLeDiff, Nat.reduceLT, Nat.reduceDiv, Nat.reduceSub, f0, f1, f2, f7, hb'] <;> rfl)) rfl ?_
      refine Wz.v rfl rfl rfl (by first | rfl | (simp only [MS, Nat.reduceBEq, Nat.reduceBNe, Nat.reduceEqDiff, reduceIte, if_true, if_false, reduceCtorEq, Nat.reduceAdd, Nat.reduceMul, Nat.reduceLeDiff, Nat.reduceLT, Nat.reduceDiv, Nat.reduceSub, cval, cv, evR, List.contains, List.elem, TS T, f0, f1, f2, f7, hb'] <;> rfl)) rfl ?_
      refine Wz.nil ?_
      exact go _ _ hx (by simp [look, f0]) (by simp [look, f1]) (by simp [look, f2]) (by simp [look, f7]) rfl
    · have hb' : ((i : Int) != but) = true := by simp [hb]
      refine Wc.drawn [.p 0 [14, 15, 16, 17, 18, 19, 20, 21, 22, 23, 24, 25, 27, 28] none, .p 1 [14, 15, 16, 17, 18, 19, 20, 21, 22, 23, 24, 25, 27, 28] none, .p 2 [16, 17, 18, 19, 20, 21, 22, 23, 24, 25, 27, 28] none, .p 3 [17, 18, 19, 20, 21, 22, 23, 24, 25, 27, 28] none, .p 4 [18, 19, 20, 21, 22, 23, 24, 25, 27, 28] (some (17, true)), .p 5 [18, 19, 20, 21, 22, 23, 24, 25, 27, 28] (some (17, true)), .p 6 [20, 21, 22, 23, 24, 25, 27, 28] (some (17, true)), .p 7 [21, 22, 23, 24, 25, 27, 28] (some (17, true)), .p 8 [18, 19, 20, 21, 22, 23, 24, 25, 27, 28] (some (17, true)), .p 9 [18, 19, 20, 21, 22, 23, 24, 25, 27, 28] (some (17, true)), .p 10 [18, 19, 20, 21, 24, 25, 27, 28] (some (17, true)), .p 11 [18, 19, 20, 21, 25, 27, 28] (some (17, true)), .e 12 [26, 27, 28] (some (17, true)) 4095, .p 13 [27, 28] (some (17, true)), .p 14 [28] none] (by kernel_rfl) ?_
      refine Wz.v rfl rfl rfl (by first | rfl | (simp only [MS, Nat.reduceBEq, Nat.reduceBNe, Nat.reduceEqDiff, reduceIte, if_true, if_false, reduceCtorEq, Nat.reduceAdd, Nat.reduceMul, Nat.reduceLeDiff, Nat.reduceLT, Nat.reduceDiv, Nat.reduceSub, evR, List.contains, List.elem, TS T, f0, f1, f2, f7, hb', ix1, ix2, ld1, ld2] <;> rfl)) rfl ?_
      refine Wz.v rfl rfl rfl (by first | rfl | (simp only [MS, Nat.reduceBEq, Nat.reduceBNe, Nat.reduceEqDiff, reduceIte, if_true, if_false, reduceCtorEq, Nat.reduceAdd, Nat.reduceMul, Nat.reduceLeDiff, Nat.reduceLT, Nat.reduceDiv, Nat.reduceSub, evR, List.contains, List.elem, TS T, f0, f1, f2, f7, hb', ix1, ix2, ld1, ld2] <;> rfl)) rfl ?_
      refine Wz.v rfl rfl rfl (by simp only [MS, Nat.reduceBEq, Nat.reduceBNe, Nat.reduceEqDiff, reduceIte, if_true, if_false, reduceCtorEq, Nat.reduceAdd, Nat.reduceMul, Nat.reduceLeDiff, Nat.reduceLT, Nat.reduceDiv, Nat.reduceSub, binA, arithA, strA, isC, cval, cv, evR, List.contains, List.elem, TS T, f0, f1, f2, f7, hb', ix1, ix2, ld1, ld2] <;> rfl) rfl ?_
      refine Wz.v rfl rfl rfl (by first | rfl | (simp only [MS, Nat.reduceBEq, Nat.reduceBNe, Nat.reduceEqDiff, reduceIte, if_true, if_false, reduceCtorEq, Nat.reduceAdd, Nat.reduceMul, Nat.reduceLeDiff, Nat.reduceLT, Nat.reduceDiv, Nat.reduceSub, evR, List.contains, List.elem, TS T, f0, f1, f2, f7, hb', ix1, ix2, ld1, ld2] <;> rfl)) rfl ?_
      refine Wz.v rfl (by first | rfl | (simp only [wantedA, wantedP, evR, List.contains, List.elem, MS, Nat.reduceBEq, Nat.reduceBNe, Nat.reduceEqDiff, reduceIte, if_true, if_false, reduceCtorEq, Nat.reduceAdd, Nat.reduceMul, Nat.reduceLeDiff, Nat.reduceLT, Nat.reduceDiv, Nat.reduceSub, f0, f1, f2, f7, hb', ix1, ix2, ld1, ld2] <;> rfl)) rfl (by first | rfl | (simp only [MS, Nat.reduceBEq, Nat.reduceBNe, Nat.reduceEqDiff, reduceIte, if_true, if_false, reduceCtorEq, Nat.reduceAdd, Nat.reduceMul, Nat.reduceLeDiff, Nat.reduceLT, Nat.reduceDiv, Nat.reduceSub, evR, List.contains, List.elem, TS T, f0, f1, f2, f7, hb', ix1, ix2, ld1, ld2] <;> rfl)) rfl ?_
      refine Wz.v rfl (by first | rfl | (simp only [wantedA, wantedP, evR, List.contains, List.elem, MS, Nat.reduceBEq, Nat.reduceBNe, Nat.reduceEqDiff, reduceIte, if_true, if_false, reduceCtorEq, Nat.reduceAdd, Nat.reduceMul, Nat.reduceLeDiff, Nat.reduceLT, Nat.reduceDiv, Nat.reduceSub, f0, f1, f2, f7, hb', ix1, ix2, ld1, ld2] <;> rfl)) rfl (by first | rfl | (simp only [MS, Nat.reduceBEq, Nat.reduceBNe, Nat.reduceEqDiff, reduceIte, if_true, if_false, reduceCtorEq, Nat.reduceAdd, Nat.reduceMul, Nat.reduceLeDiff, Nat.reduceLT, Nat.reduceDiv, Nat.reduceSub, evR, List.contains, List.elem, TS T, f0, f1, f2, f7, hb', ix1, ix2, ld1, ld2] <;> rfl)) rfl ?_
      refine Wz.v rfl (by first | rfl | (simp only [wantedA, wantedP, evR, List.contains, List.elem, MS, Nat.reduceBEq, Nat.reduceBNe, Nat.reduceEqDiff, reduceIte, if_true, if_false, reduceCtorEq, Nat.reduceAdd, Nat.reduceMul, Nat.reduceLeDiff, Nat.reduceLT, Nat.reduceDiv, Nat.reduceSub, f0, f1, f2, f7, hb', ix1, ix2, ld1, ld2] <;> rfl)) rfl (by simp only [MS, Nat.reduceBEq, Nat.reduceBNe, Nat.reduceEqDiff, reduceIte, if_true, if_false, reduceCtorEq, Nat.reduceAdd, Nat.reduceMul, Nat.reduceLeDiff, Nat.reduceLT, Nat.reduceDiv, Nat.reduceSub, cval, cv, evR, List.contains, List.elem, TS T, f0, f1, f2, f7, hb', ix1, ix2, ld1, ld2] <;> rfl) rfl ?_
      refine Wz.ld rfl (by first | rfl | (simp only [wantedA, wantedP, evR, List.contains, List.elem, MS, Nat.reduceBEq, Nat.reduceBNe, Nat.reduceEqDiff, reduceIte, if_true, if_false, reduceCtorEq, Nat.reduceAdd, Nat.reduceMul, Nat.reduceLeDiff, Nat.reduceLT, Nat.reduceDiv, Nat.reduceSub, f0, f1, f2, f7, hb', ix1, ix2, ld1, ld2] <;> rfl)) rfl (by simp only [MS, Nat.reduceBEq, Nat.reduceBNe, Nat.reduceEqDiff, reduceIte, if_true, if_false, reduceCtorEq, Nat.reduceAdd, Nat.reduceMul, Nat.reduceLeDiff, Nat.reduceLT, Nat.reduceDiv, Nat.reduceSub, partV, evR, List.contains, List.elem, TS T, f0, f1, f2, f7, hb', ix1, ix2, ld1, ld2] <;> rfl) rfl ?_
      refine Wz.v rfl (by first | rfl | (simp only [wantedA, wantedP, evR, List.contains, List.elem, MS, Nat.reduceBEq, Nat.reduceBNe, Nat.reduceEqDiff, reduceIte, if_true, if_false, reduceCtorEq, Nat.reduceAdd, Nat.reduceMul, Nat.reduceLeDiff, Nat.reduceLT, Nat.reduceDiv, Nat.reduceSub, f0, f1, f2, f7, hb', ix1, ix2, ld1, ld2] <;> rfl)) rfl (by first | rfl | (simp only [MS, Nat.reduceBEq, Nat.reduceBNe, Nat.reduceEqDiff, reduceIte, if_true, if_false, reduceCtorEq, Nat.reduceAdd, Nat.reduceMul, Nat.reduceLeDiff, Nat.reduceLT, Nat.reduceDiv, Nat.reduceSub, evR, List.contains, List.elem, TS T, f0, f1, f2, f7, hb', ix1, ix2, ld1, ld2] <;> rfl)) rfl ?_
      refine Wz.v rfl (by first | rfl | (simp only [wantedA, wantedP, evR, List.contains, List.elem, MS, Nat.reduceBEq, Nat.reduceBNe, Nat.reduceEqDiff, reduceIte, if_true, if_false, reduceCtorEq, Nat.reduceAdd, Nat.reduceMul, Nat.reduceLeDiff, Nat.reduceLT, Nat.reduceDiv, Nat.reduceSub, f0, f1, f2, f7, hb', ix1, ix2, ld1, ld2] <;> rfl)) rfl (by first | rfl | (simp only [MS, Nat.reduceBEq, Nat.reduceBNe, Nat.reduceEqDiff, reduceIte, if_true, if_false, reduceCtorEq, Nat.reduceAdd, Nat.reduceMul, Nat.reduceLeDiff, Nat.reduceLT, Nat.reduceDiv, Nat.reduceSub, evR, List.contains, List.elem, TS T, f0, f1, f2, f7, hb', ix1, ix2, ld1, ld2] <;> rfl)) rfl ?_
      refine Wz.v rfl (by first | rfl | (simp only [wantedA, wantedP, evR, List.contains, List.elem, MS, Nat.reduceBEq, Nat.reduceBNe, Nat.reduceEqDiff, reduceIte, if_true, if_false, reduceCtorEq, Nat.reduceAdd, Nat.reduceMul, Nat.reduceLeDiff, Nat.reduceLT, Nat.reduceDiv, Nat.reduceSub, f0, f1, f2, f7, hb', ix1, ix2, ld1, ld2] <;> rfl)) rfl (by simp only [MS, Nat.reduceBEq, Nat.reduceBNe, Nat.reduceEqDiff, reduceIte, if_true, if_false, reduceCtorEq, Nat.reduceAdd, Nat.reduceMul, Nat.reduceLeDiff, Nat.reduceLT, Nat.reduceDiv, Nat.reduceSub, cval, cv, evR, List.contains, List.elem, TS T, f0, f1, f2, f7, hb', ix1, ix2, ld1, ld2] <;> rfl) rfl ?_
      refine Wz.ld rfl (by first | rfl | (simp only [wantedA, wantedP, evR, List.contains, List.elem, MS, Nat.reduceBEq, Nat.reduceBNe, Nat.reduceEqDiff, reduceIte, if_true, if_false, reduceCtorEq, Nat.reduceAdd, Nat.reduceMul, Nat.reduceLeDiff, Nat.reduceLT, Nat.reduceDiv, Nat.reduceSub, f0, f1, f2, f7, hb', ix1, ix2, ld1, ld2] <;> rfl)) rfl (by simp only [MS, Nat.reduceBEq, Nat.reduceBNe, Nat.reduceEqDiff, reduceIte, if_true, if_false, reduceCtorEq, Nat.reduceAdd, Nat.reduceMul, Nat.reduceLeDiff, Nat.reduceLT, Nat.reduceDiv, Nat.reduceSub, partV, evR, List.contains, List.elem, TS T, f0, f1, f2, f7, hb', ix1, ix2, ld1, ld2] <;> rfl) rfl ?_
      refine Wz.cl rfl (by first | rfl | (simp only [wantedA, wantedP, evR, List.contains, List.elem, MS, Nat.reduceBEq, Nat.reduceBNe, Nat.reduceEqDiff, reduceIte, if_true, if_false, reduceCtorEq, Nat.reduceAdd, Nat.reduceMul, Nat.reduceLeDiff, Nat.reduceLT, Nat.reduceDiv, Nat.reduceSub, f0, f1, f2, f7, hb', ix1, ix2, ld1, ld2] <;> rfl)) rfl rfl (by first | rfl | (simp only [MS, Nat.reduceBEq, Nat.reduceBNe, Nat.reduceEqDiff, reduceIte, if_true, if_false, reduceCtorEq, Nat.reduceAdd, Nat.reduceMul, Nat.reduceLeDiff, Nat.reduceLT, Nat.reduceDiv, Nat.reduceSub, cval, cv, evR, List.contains, List.elem, TS T, f0, f1, f2, f7, hb', ix1, ix2, ld1, ld2] <;> rfl)) (by first | rfl | (simp only [MS, Nat.reduceBEq, Nat.reduceBNe, Nat.reduceEqDiff, reduceIte, if_true, if_false, reduceCtorEq, Nat.reduceAdd, Nat.reduceMul, Nat.reduceLeDiff, Nat.reduceLT, Nat.reduceDiv, Nat.reduceSub, cval, cv, evR, List.contains, List.elem, TS T, f0, f1, f2, f7, hb', ix1, ix2, ld1, ld2] <;> rfl)) (fun _ => rfl) ?_
      obtain ⟨s1, s2, s3, s4⟩ := hs i him hb
      obtain ⟨h', hcall, hx'⟩ := h26 ((e1.ext hx).at_ i him).v ((e2.ext hx).at_ i him).v s1 s2 s3 s4
      refine ⟨_, h', hcall, ?_, ?_, ?_⟩
      · repeat' first | exact ldsOk_nil | refine ldsOk_skip (by rfl) ?_
      · exact alsOk_nil
      refine Wz.v rfl (by first | rfl | (simp only [wantedA, wantedP, evR, List.contains, List.elem, MS, Nat.reduceBEq, Nat.reduceBNe, Nat.reduceEqDiff, reduceIte, if_true, if_false, reduceCtorEq, Nat.reduceAdd, Nat.reduceMul, Nat.reduceLeDiff, Nat.reduceLT, Nat.reduceDiv, Nat.reduceSub, f0, f1, f2, f7, hb'] <;> rfl)) rfl (by simp only [MS, Nat.reduceBEq, Nat.reduceBNe, Nat.reduceEqDiff, reduceIte, if_true, if_false, reduceCtorEq, Nat.reduceAdd, Nat.reduceMul, Nat.reduceLeDiff, Nat.reduceLT, Nat.reduceDiv, Nat.reduceSub, unA, evR, List.contains, List.elem, TS T, f0, f1, f2, f7, hb'] <;> rfl) rfl ?_
      refine Wz.v rfl rfl rfl (by first | rfl | (simp only [MS, Nat.reduceBEq, Nat.reduceBNe, Nat.reduceEqDiff, reduceIte, if_true, if_false, reduceCtorEq, Nat.reduceAdd, Nat.reduceMul, Nat.reduceLeDiff, Nat.reduceLT, Nat.reduceDiv, Nat.reduceSub, cval, cv, evR, List.contains, List.elem, TS T, f0, f1, f2, f7, hb'] <;> rfl)) rfl ?_
      refine Wz.nil ?_
      exact go _ _ (hx.trans hx') (by simp [look, f0]) (by simp [look, f1]) (by simp [look, f2]) (by simp [look, f7]) rfl
  · refine Wc.exit (hx8 _ _ (by simp) (hxL _ _ (by simp) (hb6 _ (hn3 _ ?_))))
    refine Wc.seq fun K17 hn17 hx17 => ?_
    refine Wc.rg ?_
    refine Wo.val rfl (by first | rfl | (simp only [MS, Nat.reduceBEq, Nat.reduceBNe, Nat.reduceEqDiff, reduceIte, if_true, if_false, reduceCtorEq, Nat.reduceAdd, Nat.reduceMul, Nat.reduceLeDiff, Nat.reduceLT, Nat.reduceDiv, Nat.reduceSub, cval, cv, TS T] <;> rfl)) rfl ?_
    refine Wo.nil ?_
    exact hn17 _ (Wc.ret (hr0 _ _ [.b true] rfl ⟨rfl, hx⟩))
end Go.Mx

namespace Go.Mx
open Go.Proofs
set_option maxRecDepth 100000
set_option maxHeartbeats 4000000
structure S.Hy (call : Caller) : Prop where
  own : OwnOk call 5 S.ls
  see : SeeOk 3 9 call 6 S.ls
  tab : ∀ g ls, S.Tab g ls → SeeOk 3 9 call g ls
  great : ∀ {h : Hp} {E : EyeS}, EyeV 3 9 h E → E.ss.length ≤ 1000000000000 → ∃ t h', call (.fn 25) [E.val] h = some (.ret (.b t), h') ∧ Ext h h'
  look : ∀ {G : Nat → Option BT} {h : Hp} {lv : V} {m : Nat} {C : Nat → Cl} {reg : Nat → Nat}, TOk G h → Clos S.Tab G h lv m C reg →
    ∃ h' ob L, call (.fn 26) [lv] h = some (.ret (.sl ob 0 m (some m) 5), h') ∧ Ext h h' ∧ TOk G h' ∧ h.n ≤ ob ∧ Eyes 3 9 h' ob m L ∧ (∀ i, i < m → ∀ b, (L i).priv b → h.n ≤ b) ∧ ∀ i, i < m → ((L i).ns, (L i).ss) = (C i).seen h ∧ (L i).ns.length ≤ 1000000000000 ∧ (L i).ss.length ≤ 1000000000000
  same : ∀ {h : Hp} {E D : EyeS}, EyeV 3 9 h E → EyeV 3 9 h D → E.ns = D.ns → E.ss = D.ss → E.ns.length ≤ 1000000000000 → E.ss.length ≤ 1000000000000 → ∃ h', call (.fn 27) [E.val, D.val] h = some (.ret (.b true), h') ∧ Ext h h'
  alike : ∀ {h : Hp} {o1 o2 m : Nat} {L1 L2 : Nat → EyeS} {but : Int}, Eyes 3 9 h o1 m L1 → Eyes 3 9 h o2 m L2 → m ≤ 1000000 → (∀ i : Nat, i < m → (i : Int) ≠ but → (L1 i).ns = (L2 i).ns ∧ (L1 i).ss = (L2 i).ss ∧ (L1 i).ns.length ≤ 1000000000000 ∧ (L1 i).ss.length ≤ 1000000000000) →
    ∃ h', call (.fn 28) [.sl o1 0 m (some m) 5, .sl o2 0 m (some m) 5, .i .i64 but] h = some (.ret (.b true), h') ∧ Ext h h'
theorem S.lsw : wides S.ls ≤ 100000000000 := by simp [S.ls, wides, wide1]
theorem S.fapart_ok {tb fc} (T : S.Ty tb) (B : S.Bd tb) {call call' : Caller} {lf : Nat} (hlf : 2000000000000 ≤ lf) (hc : ∀ args h, call' (.fn 4) args h = runF tb fc call lf Tryz.f4 args h) (Y : S.Hy call)
    {gs : List Nat} (hgl : gs.length ≤ 1000) (hcs : ∀ (i : Nat) g, gs[i]? = some g → CallsOk S.Tab call g S.ls) {G : Nat → Option BT} {h : Hp} {xs : List V} {cb cty : Nat} {cw : Bool} (hT : TOk G h) (hG0 : ∀ b t, G b = some t → t.reg = 0 ∧ t.lfs.length ≤ 2000000000)
    (hxl : xs.length = S.ls.length) (hxs : ∀ (j : Nat) l x, S.ls[j]? = some l → xs[j]? = some x → LfOk G 0 false l x) (hcb : h.get cb = some (.blk cty (gs.map fun g => V.f (.func g) [] []) cw)) (hcl : cb < h.n) (gcb : G cb = none) :
    ∃ h', call' (.fn 4) [.agg xs, .f (.func 5) [] [], .f (.func 6) [] [], .sl cb 0 gs.length (some gs.length) 1] h = some (.ret (.b true), h') ∧ Ext h h' := by
  suffices H : Wf tb fc call lf Tryz.f4 [.agg xs, .f (.func 5) [] [], .f (.func 6) [] [], .sl cb 0 gs.length (some gs.length) 1] h (fun w h' => w = .b true ∧ Ext h h') by
    obtain ⟨w, h', h1, rfl, h2⟩ := H
    exact ⟨h', by rw [hc]; exact h1, h2⟩
  have xa : Ext h ((h.push (.blk (2 * 27) xs true)).push (.blk (2 * 54) [.nils, .nils, .b false, .i .i64 0, .b false] true)) := (Ext.push _ _).trans (Ext.push _ _)
  have gx : ((h.push (.blk (2 * 27) xs true)).push (.blk (2 * 54) [.nils, .nils, .b false, .i .i64 0, .b false] true)).get h.n = some (.blk (2 * 27) xs true) := by simp [Hp.get_push]
  have g9 : ((h.push (.blk (2 * 27) xs true)).push (.blk (2 * 54) [.nils, .nils, .b false, .i .i64 0, .b false] true)).get (h.n + 1) = some (.blk (2 * 54) [.nils, .nils, .b false, .i .i64 0, .b false] true) := by simp [Hp.get_push]
  have hn2 : ((h.push (.blk (2 * 27) xs true)).push (.blk (2 * 54) [.nils, .nils, .b false, .i .i64 0, .b false] true)).n = h.n + 2 := by simp
  refine Wf.intro (sz := 95) rfl rfl fun K hn0 hr0 => ?_
  repeat refine Wc.assoc ?_
  refine Wc.seq fun K1 hn1 hx1 => ?_
  refine Wc.rg ?_
  refine Wo.val rfl (by simp only [MS, Nat.reduceBEq, Nat.reduceBNe, Nat.reduceEqDiff, reduceIte, if_true, if_false, reduceCtorEq, Nat.reduceAdd, Nat.reduceMul, Nat.reduceLeDiff, Nat.reduceLT, Nat.reduceDiv, Nat.reduceSub, cval, cv, TS T] <;> rfl) rfl ?_
  refine Wo.val rfl (by first | rfl | (simp only [MS, Nat.reduceBEq, Nat.reduceBNe, Nat.reduceEqDiff, reduceIte, if_true, if_false, reduceCtorEq, Nat.reduceAdd, Nat.reduceMul, Nat.reduceLeDiff, Nat.reduceLT, Nat.reduceDiv, Nat.reduceSub, cval, cv, TS T] <;> rfl)) rfl ?_
  refine Wo.nil ?_
  refine hn1 _ ?_
  repeat refine Wc.assoc ?_
  refine Wc.seq fun K2 hn2' hx2 => ?_
  refine Wc.rg ?_
  refine Wo.val rfl (by simp only [MS, Nat.reduceBEq, Nat.reduceBNe, Nat.reduceEqDiff, reduceIte, if_true, if_false, reduceCtorEq, Nat.reduceAdd, Nat.reduceMul, Nat.reduceLeDiff, Nat.reduceLT, Nat.reduceDiv, Nat.reduceSub, TI.zero, TS T] <;> rfl) rfl ?_
  refine Wo.nil ?_
  refine hn2' _ ?_
  generalize (h.push (.blk (2 * 27) xs true)).push (.blk (2 * 54) [.nils, .nils, .b false, .i .i64 0, .b false] true) = h2 at xa gx g9 hn2 ⊢
  obtain ⟨G1, hG1, hG1x⟩ : ∃ G1 : Nat → Option BT, (∀ b, b ≠ h.n → G1 b = G b) ∧ G1 h.n = some ⟨S.ls, 0, false, false⟩ :=
    ⟨fun b => if b = h.n then some ⟨S.ls, 0, false, false⟩ else G b, fun b hb => by simp [hb], by simp⟩
  have hGx : ∀ b t, G b = some t → G1 b = some t := fun b t hb => by
    rw [hG1 b fun e => by rw [e, hT.none (Nat.le_refl _)] at hb; cases hb]; exact hb
  have hG10 : ∀ b t, G1 b = some t → t.reg = 0 ∧ t.lfs.length ≤ 2000000000 ∧ b < h.n + 1 := fun b t hb => by
    by_cases e : b = h.n
    · subst e; rw [hG1x] at hb; cases hb; exact ⟨rfl, by simp [S.ls], by omega⟩
    · rw [hG1 b e] at hb; have h1 := hG0 b t hb; have h2 := (hT.blk b t hb).1; exact ⟨h1.1, h1.2, by omega⟩
  have hT2 : TOk G1 h2 := by
    refine ⟨fun b t hb => by have := (hG10 b t hb).2.1; omega, fun b t hb => ?_⟩
    by_cases e : b = h.n
    · subst e; rw [hG1x] at hb; cases hb
      exact ⟨by omega, _, xs, true, gx, hxl, ⟨fun h => by (cases h), fun h => by (cases h)⟩, fun j l v hl hv => (hxs j l v hl hv).gext hGx⟩
    · rw [hG1 b e] at hb
      obtain ⟨h1, ty, cs, rw', h3, h4, h5, h6⟩ := hT.blk b t hb
      exact ⟨by omega, ty, cs, rw', by rw [xa.old b h1]; exact h3, h4, h5, fun j l v hl hv => (h6 j l v hl hv).gext hGx⟩
  have hE9 : EyeK 3 9 G1 0 h2 (h.n + 1) (eyeN false 0 false) := .new (by rw [hG1 _ (by omega)]; exact hT.none (by omega)) (by omega) g9
  obtain ⟨h3, E, hcall3, hT3, hE3, hK3, _, hf3⟩ := Y.see.run hT2 hE9 hG1x (fun j l hl => hl) (by simp) (by simp) S.lsw
  repeat refine Wc.assoc ?_
  refine Wc.seq fun K3 hn3 hx3 => ?_
  refine Wc.rg ?_
  refine Wo.val rfl (by first | rfl | (simp only [MS, Nat.reduceBEq, Nat.reduceBNe, Nat.reduceEqDiff, reduceIte, if_true, if_false, reduceCtorEq, Nat.reduceAdd, Nat.reduceMul, Nat.reduceLeDiff, Nat.reduceLT, Nat.reduceDiv, Nat.reduceSub, TS T] <;> rfl)) rfl ?_
  refine Wo.cl rfl rfl rfl (by first | rfl | (simp only [MS, Nat.reduceBEq, Nat.reduceBNe, Nat.reduceEqDiff, reduceIte, if_true, if_false, reduceCtorEq, Nat.reduceAdd, Nat.reduceMul, Nat.reduceLeDiff, Nat.reduceLT, Nat.reduceDiv, Nat.reduceSub, cval, cv, TS T] <;> rfl)) (by first | rfl | (simp only [MS, Nat.reduceBEq, Nat.reduceBNe, Nat.reduceEqDiff, reduceIte, if_true, if_false, reduceCtorEq, Nat.reduceAdd, Nat.reduceMul, Nat.reduceLeDiff, Nat.reduceLT, Nat.reduceDiv, Nat.reduceSub, cval, cv, TS T] <;> rfl)) (fun _ => rfl) ?_
  refine ⟨_, h3, hcall3, Wo.nil (hn3 _ ?_)⟩
  repeat refine Wc.assoc ?_
  refine Wc.seq fun K4 hn4 hx4 => ?_
  have hld9 := hE3.ld T.t54 rfl rfl
  have x3 : Ext h h3 := ⟨by have := hK3.n; omega, fun b hb => by rw [hK3.same b (by omega) (by omega) (by simp)]; exact xa.old b hb⟩
  have hss : E.ss.length ≤ 1000000000000 := by
    have h1 := hf3 rfl
    have h2 : E.ss = (flats h2 false S.ls (cellsOf h2 h.n) ([], [])).2 := by rw [← h1]
    rw [h2, flats_ss _ _ _ _ _ rfl]; simp
  obtain ⟨tg, h4, hcall4, x4⟩ := Y.great hE3.at_.v hss
  refine Wc.rg ?_
  refine Wo.val rfl (by simp only [MS, Nat.reduceBEq, Nat.reduceBNe, Nat.reduceEqDiff, reduceIte, if_true, if_false, reduceCtorEq, Nat.reduceAdd, Nat.reduceMul, Nat.reduceLeDiff, Nat.reduceLT, Nat.reduceDiv, Nat.reduceSub, partV, TS T, hld9] <;> rfl) rfl ?_
  refine Wo.cl rfl rfl rfl (by first | rfl | (simp only [MS, Nat.reduceBEq, Nat.reduceBNe, Nat.reduceEqDiff, reduceIte, if_true, if_false, reduceCtorEq, Nat.reduceAdd, Nat.reduceMul, Nat.reduceLeDiff, Nat.reduceLT, Nat.reduceDiv, Nat.reduceSub, cval, cv, TS T, hld9] <;> rfl)) (by first | rfl | (simp only [MS, Nat.reduceBEq, Nat.reduceBNe, Nat.reduceEqDiff, reduceIte, if_true, if_false, reduceCtorEq, Nat.reduceAdd, Nat.reduceMul, Nat.reduceLeDiff, Nat.reduceLT, Nat.reduceDiv, Nat.reduceSub, cval, cv, TS T, hld9] <;> rfl)) (fun _ => rfl) ?_
  refine ⟨_, h4, hcall4, Wo.nil (hn4 _ ?_)⟩
  have x04 := x3.trans x4
  repeat refine Wc.assoc ?_
  refine Wc.seq fun K5 hn5 hx5 => ?_
  refine Wc.cond (t := tg) rfl (fun _ => ?_) fun _ => ?_
  · refine Wc.seq fun K6 hn6 hx6 => ?_
    refine Wc.rg ?_
    refine Wo.val rfl (by first | rfl | (simp only [MS, Nat.reduceBEq, Nat.reduceBNe, Nat.reduceEqDiff, reduceIte, if_true, if_false, reduceCtorEq, Nat.reduceAdd, Nat.reduceMul, Nat.reduceLeDiff, Nat.reduceLT, Nat.reduceDiv, Nat.reduceSub, cval, cv, TS T] <;> rfl)) rfl ?_
    refine Wo.nil ?_
    exact hn6 _ (Wc.ret (hx5 _ _ (by simp) (hr0 _ _ [.b true] rfl ⟨rfl, x04⟩)))
  refine Wc.skip (hn5 _ ?_)
  repeat refine Wc.assoc ?_
  refine Wc.seq fun K7 hn7 hx7 => ?_
  refine Wc.rg ?_
  refine Wo.val rfl (by first | rfl | (simp only [MS, Nat.reduceBEq, Nat.reduceBNe, Nat.reduceEqDiff, reduceIte, if_true, if_false, reduceCtorEq, Nat.reduceAdd, Nat.reduceMul, Nat.reduceLeDiff, Nat.reduceLT, Nat.reduceDiv, Nat.reduceSub, cval, cv, TS T] <;> rfl)) rfl ?_
  refine Wo.nil ?_
  refine hn7 _ ?_
  repeat refine Wc.assoc ?_
  refine Wc.seq fun K8 hn8 hx8 => ?_
  refine Wc.block fun K9 hb9 hx9 => ?_
  have hT4 := hT3.ext x4
  have gx4 : h4.get h.n = some (.blk (2 * 27) xs true) := by
    rw [x4.old _ (by have := hK3.n; omega), hK3.same _ (by omega) (by omega) (by simp)]; exact gx
  have gc4 : h4.get cb = some (.blk cty (gs.map fun g => V.f (.func g) [] []) cw) := by rw [x04.old cb hcl]; exact hcb
  have hn4' : h.n + 2 ≤ h4.n := by have := hK3.n; have := x4.n; omega
  refine Wc.loop (fun k s => ∃ (i : Nat) (fr : List (Nat × V)) (hi : Hp), s = ⟨fr, [], hi⟩ ∧ i + k = gs.length ∧ Ext h4 hi ∧ look fr 1 = some (.f (.func 5) [] []) ∧ look fr 2 = some (.f (.func 6) [] []) ∧ look fr 3 = some (.sl cb 0 gs.length (some gs.length) 1) ∧ look fr 4 = some (.p h.n 0) ∧ look fr 10 = some (.i .i64 i))
    gs.length (by omega) ⟨0, _, h4, rfl, by omega, Ext.refl _, rfl, rfl, rfl, rfl, rfl⟩ ?_
  rintro k _ ⟨i, fr, hi, rfl, hik, xi, f1, f2, f3, f4, f10⟩ KL hnL hxL
  repeat refine Wc.assoc ?_
  refine Wc.seq fun K10 hn10 hx10 => ?_
  refine Wc.rg ?_
  refine Wo.val rfl (by first | rfl | (simp only [MS, Nat.reduceBEq, Nat.reduceBNe, Nat.reduceEqDiff, reduceIte, if_true, if_false, reduceCtorEq, Nat.reduceAdd, Nat.reduceMul, Nat.reduceLeDiff, Nat.reduceLT, Nat.reduceDiv, Nat.reduceSub, TS T, f3, f10] <;> rfl)) rfl ?_
  refine Wo.val rfl (by first | rfl | (simp only [MS, Nat.reduceBEq, Nat.reduceBNe, Nat.reduceEqDiff, reduceIte, if_true, if_false, reduceCtorEq, Nat.reduceAdd, Nat.reduceMul, Nat.reduceLeDiff, Nat.reduceLT, Nat.reduceDiv, Nat.reduceSub, TS T, f3, f10] <;> rfl)) rfl ?_
  refine Wo.val rfl (by simp only [MS, Nat.reduceBEq, Nat.reduceBNe, Nat.reduceEqDiff, reduceIte, if_true, if_false, reduceCtorEq, Nat.reduceAdd, Nat.reduceMul, Nat.reduceLeDiff, Nat.reduceLT, Nat.reduceDiv, Nat.reduceSub, bltA, intsA, intsA.go, cval, cv, TS T, f3, f10] <;> rfl) rfl ?_
  refine Wo.val rfl (by simp only [MS, Nat.reduceBEq, Nat.reduceBNe, Nat.reduceEqDiff, reduceIte, if_true, if_false, reduceCtorEq, Nat.reduceAdd, Nat.reduceMul, Nat.reduceLeDiff, Nat.reduceLT, Nat.reduceDiv, Nat.reduceSub, binA, arithA, strA, isC, cval, cv, TS T, f3, f10] <;> rfl) rfl ?_
  refine Wo.nil ?_
  refine hn10 _ ?_
  repeat refine Wc.assoc ?_
  refine Wc.seq fun K11 hn11 hx11 => ?_
  refine Wc.cond (t := decide ((i : Int) < (gs.length : Int))) rfl (fun hd => ?_) fun hd => ?_
  · refine Wc.skip (hn11 _ ?_)
    have hil : i < gs.length := by have := of_decide_eq_true hd; omega
    refine Wc.seq fun K12 hn12 hx12 => ?_
    refine Wc.block fun K13 hb13 hx13 => ?_
    have hTi := hT4.ext xi
    have gxi : hi.get h.n = some (.blk (2 * 27) xs true) := by rw [xi.old _ (by omega)]; exact gx4
    obtain ⟨h5, ys, G2, hcall5, x5, hT5, hyl, hys, hG2o, hG2n⟩ := Y.own G1 0 1 false hi xs hTi (fun b t hb => (hG10 b t hb).2.1) hxl (fun j l x hl hx => (hxs j l x hl hx).gext hGx)
    have hldx : loadA tb hi 27 (.p h.n 0) = some (.agg xs) := by
      have h5' : xs.length = 11 := hxl
      simp [loadA, T.t27, gxi, partV, h5']
      rw [List.take_of_length_le (by omega)]
    have hyl5 : ys.length = 11 := hyl
    have hst : storeA tb (h5.push (.blk (2 * 27) [.i .i64 0, .i .i64 0, .i .i64 0, .i .i64 0, .i .i64 0, .i .i64 0, .i .i64 0, .i .i64 0, .nils, .nils, .nils] true)) 27 (.p h5.n 0) (.agg ys) = some ((h5.push (.blk (2 * 27) [.i .i64 0, .i .i64 0, .i .i64 0, .i .i64 0, .i .i64 0, .i .i64 0, .i .i64 0, .i .i64 0, .nils, .nils, .nils] true)).set h5.n (.blk (2 * 27) ys true)) := by
      have hone : ys.all V.one = true := by
        rw [List.all_eq_true]
        intro y hy
        obtain ⟨q, hq⟩ := List.mem_iff_getElem?.1 hy
        have hql := (List.getElem?_eq_some_iff.1 hq).1
        exact (hys q _ y (List.getElem?_eq_getElem (by rw [← hyl]; exact hql)) hq).one
      have hset : setAll [.i .i64 0, .i .i64 0, .i .i64 0, .i .i64 0, .i .i64 0, .i .i64 0, .i .i64 0, .i .i64 0, .nils, .nils, .nils] 0 ys = ys := by
        apply List.ext_getElem?
        intro j
        rw [setAll_get _ _ _ _ (by simp [hyl5])]
        by_cases hj : j < 11
        · rw [if_pos (by omega)]; simp
        · rw [if_neg (by omega), List.getElem?_eq_none (by simp; omega), List.getElem?_eq_none (by omega)]
      simp [storeA, T.t27, cl_agg, hyl5]
      exact ⟨by simpa using hone, by rw [hset]⟩
    repeat refine Wc.assoc ?_
    refine Wc.seq fun K14 hn14 hx14 => ?_
    refine Wc.rg ?_
    refine Wo.val rfl (by first | rfl | (simp only [MS, Nat.reduceBEq, Nat.reduceBNe, Nat.reduceEqDiff, reduceIte, if_true, if_false, reduceCtorEq, Nat.reduceAdd, Nat.reduceMul, Nat.reduceLeDiff, Nat.reduceLT, Nat.reduceDiv, Nat.reduceSub, TS T, f1, f4, hldx] <;> rfl)) rfl ?_
    refine Wo.val rfl (by simp only [MS, Nat.reduceBEq, Nat.reduceBNe, Nat.reduceEqDiff, reduceIte, if_true, if_false, reduceCtorEq, Nat.reduceAdd, Nat.reduceMul, Nat.reduceLeDiff, Nat.reduceLT, Nat.reduceDiv, Nat.reduceSub, partV, TS T, f1, f4, hldx] <;> rfl) rfl ?_
    refine Wo.cl rfl rfl rfl (by first | rfl | (simp only [MS, Nat.reduceBEq, Nat.reduceBNe, Nat.reduceEqDiff, reduceIte, if_true, if_false, reduceCtorEq, Nat.reduceAdd, Nat.reduceMul, Nat.reduceLeDiff, Nat.reduceLT, Nat.reduceDiv, Nat.reduceSub, cval, cv, TS T, f1, f4, hldx] <;> rfl)) (by first | rfl | (simp only [MS, Nat.reduceBEq, Nat.reduceBNe, Nat.reduceEqDiff, reduceIte, if_true, if_false, reduceCtorEq, Nat.reduceAdd, Nat.reduceMul, Nat.reduceLeDiff, Nat.reduceLT, Nat.reduceDiv, Nat.reduceSub, cval, cv, TS T, f1, f4, hldx] <;> rfl)) (fun _ => rfl) ?_
    refine ⟨_, h5, hcall5, ?_⟩
    refine Wo.val rfl (by simp only [MS, Nat.reduceBEq, Nat.reduceBNe, Nat.reduceEqDiff, reduceIte, if_true, if_false, reduceCtorEq, Nat.reduceAdd, Nat.reduceMul, Nat.reduceLeDiff, Nat.reduceLT, Nat.reduceDiv, Nat.reduceSub, TI.zero, TS T, hst] <;> rfl) rfl ?_
    refine Wo.val rfl (by simp only [MS, Nat.reduceBEq, Nat.reduceBNe, Nat.reduceEqDiff, reduceIte, if_true, if_false, reduceCtorEq, Nat.reduceAdd, Nat.reduceMul, Nat.reduceLeDiff, Nat.reduceLT, Nat.reduceDiv, Nat.reduceSub, setAll, TI.zero, cval, cv, TS T, hst] <;> rfl) rfl ?_
    refine Wo.nil ?_
    refine hn14 _ ?_
    have x56 : Ext h5 ((h5.push (.blk (2 * 27) [.i .i64 0, .i .i64 0, .i .i64 0, .i .i64 0, .i .i64 0, .i .i64 0, .i .i64 0, .i .i64 0, .nils, .nils, .nils] true)).set h5.n (.blk (2 * 27) ys true)) := (Ext.push _ _).set (Nat.le_refl _) _
    have gy6 : ((h5.push (.blk (2 * 27) [.i .i64 0, .i .i64 0, .i .i64 0, .i .i64 0, .i .i64 0, .i .i64 0, .i .i64 0, .i .i64 0, .nils, .nils, .nils] true)).set h5.n (.blk (2 * 27) ys true)).get h5.n = some (.blk (2 * 27) ys true) := Hp.get_set_self _ _ _
    have hn6 : ((h5.push (.blk (2 * 27) [.i .i64 0, .i .i64 0, .i .i64 0, .i .i64 0, .i .i64 0, .i .i64 0, .i .i64 0, .i .i64 0, .nils, .nils, .nils] true)).set h5.n (.blk (2 * 27) ys true)).n = h5.n + 1 := by simp
    generalize (h5.push (.blk (2 * 27) [.i .i64 0, .i .i64 0, .i .i64 0, .i .i64 0, .i .i64 0, .i .i64 0, .i .i64 0, .i .i64 0, .nils, .nils, .nils] true)).set h5.n (.blk (2 * 27) ys true) = h6 at x56 gy6 hn6 ⊢
    obtain ⟨G3, hG3, hG3y⟩ : ∃ G3 : Nat → Option BT, (∀ b, b ≠ h5.n → G3 b = G2 b) ∧ G3 h5.n = some ⟨S.ls, 1, true, true⟩ :=
      ⟨fun b => if b = h5.n then some ⟨S.ls, 1, true, true⟩ else G2 b, fun b hb => by simp [hb], by simp⟩
    have hG23 : ∀ b t, G2 b = some t → G3 b = some t := fun b t hb => by
      rw [hG3 b fun e => by rw [e, hT5.none (Nat.le_refl _)] at hb; cases hb]; exact hb
    have hT6 : TOk G3 h6 := by
      refine ⟨fun b t hb => ?_, fun b t hb => ?_⟩
      · by_cases e : b = h5.n
        · subst e; rw [hG3y] at hb; cases hb; simp [S.ls]
        · rw [hG3 b e] at hb; exact hT5.small b t hb
      · by_cases e : b = h5.n
        · subst e; rw [hG3y] at hb; cases hb
          exact ⟨by omega, _, ys, true, gy6, hyl, ⟨fun _ => rfl, fun h => by cases h⟩, fun j l v hl hv => (hys j l v hl hv).gext hG23⟩
        · rw [hG3 b e] at hb
          obtain ⟨h1, ty, cs, rw', h3, h4, h5, h6⟩ := hT5.blk b t hb
          exact ⟨by omega, ty, cs, rw', by rw [x56.old b h1]; exact h3, h4, h5, fun j l v hl hv => (h6 j l v hl hv).gext hG23⟩
    have hx5n := x5.n
    have hxin := xi.n
    have hlow3 : ∀ b t, b < hi.n → G3 b = some t → t.reg = 0 := fun b t hb ht => by
      rw [hG3 b (by omega), hG2o b hb] at ht; exact (hG10 b t ht).1
    have hG3w : ∀ b t, G3 b = some t → t.reg = 1 → t.wr = true := fun b t hb hr => by
      rcases Nat.lt_or_ge b hi.n with hlt | hge
      · rw [hlow3 b t hlt hb] at hr; cases hr
      · by_cases e : b = h5.n
        · subst e; rw [hG3y] at hb; cases hb; rfl
        · rw [hG3 b e] at hb; exact (hG2n b t hge hb).2.2.1
    have hG3l : ∀ b t, G3 b = some t → t.reg = 1 → t.lfs.length ≤ 4000000000 := fun b t hb hr => by
      rcases Nat.lt_or_ge b hi.n with hlt | hge
      · rw [hlow3 b t hlt hb] at hr; cases hr
      · by_cases e : b = h5.n
        · subst e; rw [hG3y] at hb; cases hb; simp [S.ls]
        · rw [hG3 b e] at hb; exact (hG2n b t hge hb).2.2.2
    have hG3r : ∀ b t, G3 b = some t → t.reg ≤ 1 := fun b t hb => by
      rcases Nat.lt_or_ge b hi.n with hlt | hge
      · rw [hlow3 b t hlt hb]; omega
      · by_cases e : b = h5.n
        · subst e; rw [hG3y] at hb; cases hb; exact Nat.le_refl _
        · rw [hG3 b e] at hb; rw [(hG2n b t hge hb).1]; exact Nat.le_refl _
    repeat refine Wc.assoc ?_
    refine Wc.seq fun K15 hn15 hx15 => ?_
    have key : ∀ fr h7, Ext h6 h7 → h7.n = h6.n + 4 → h7.get h6.n = some (.blk (2 * 54) [.nils, .nils, .b false, .i .i64 0, .b true] true) → h7.get (h6.n + 1) = some (.blk (2 * 54) [.nils, .nils, .b false, .i .i64 0, .b true] true) → h7.get (h6.n + 1 + 1) = some (.blk (2 * 54) [.nils, .nils, .b false, .i .i64 0, .b true] true) → h7.get (h6.n + 1 + 1 + 1) = some (.blk (2 * 54) [.nils, .nils, .b false, .i .i64 0, .b true] true) →
        look fr 1 = some (.f (.func 5) [] []) → look fr 2 = some (.f (.func 6) [] []) → look fr 3 = some (.sl cb 0 gs.length (some gs.length) 1) → look fr 4 = some (.p h.n 0) → look fr 10 = some (.i .i64 i) → look fr 11 = some (.p h5.n 0) →
        look fr 12 = some (.p h6.n 0) → look fr 13 = some (.p (h6.n + 1) 0) → look fr 14 = some (.p (h6.n + 1 + 1) 0) → look fr 15 = some (.p (h6.n + 1 + 1 + 1) 0) → K15 .normal ⟨fr, [], h7⟩ := by
      intro fr h7 x67 hn7 ga gb gc gd f1 f2 f3 f4 f10 f11 f12 f13 f14 f15
      refine hn15 _ ?_
      have hT7 := hT6.ext x67
      have hW7 : EyeK 3 9 G3 0 h7 h6.n (eyeN false 0 true) := .new (hT6.none (Nat.le_refl _)) (by omega) ga
      have hI7 : EyeK 3 9 G3 0 h7 (h6.n + 1) (eyeN false 0 true) := .new (hT6.none (by omega)) (by omega) gb
      have hO7 : EyeK 3 9 G3 0 h7 (h6.n + 1 + 1) (eyeN false 0 true) := .new (hT6.none (by omega)) (by omega) gc
      have hD7 : EyeK 3 9 G3 0 h7 (h6.n + 1 + 1 + 1) (eyeN false 0 true) := .new (hT6.none (by omega)) (by omega) gd
      obtain ⟨h8, W, hcall8, hT8, hW8, hK8, hWl, hWf⟩ := Y.see.run hT7 hW7 hG3y (fun j l hl => hl) (fun _ => rfl) (by simp) S.lsw
      have hn8' := hK8.n
      repeat refine Wc.assoc ?_
      refine Wc.seq fun K16 hn16 hx16 => ?_
      refine Wc.rg ?_
      refine Wo.val rfl (by first | rfl | (simp only [MS, Nat.reduceBEq, Nat.reduceBNe, Nat.reduceEqDiff, reduceIte, if_true, if_false, reduceCtorEq, Nat.reduceAdd, Nat.reduceMul, Nat.reduceLeDiff, Nat.reduceLT, Nat.reduceDiv, Nat.reduceSub, TS T, f2, f11, f12] <;> rfl)) rfl ?_
      refine Wo.cl rfl rfl rfl (by first | rfl | (simp only [MS, Nat.reduceBEq, Nat.reduceBNe, Nat.reduceEqDiff, reduceIte, if_true, if_false, reduceCtorEq, Nat.reduceAdd, Nat.reduceMul, Nat.reduceLeDiff, Nat.reduceLT, Nat.reduceDiv, Nat.reduceSub, cval, cv, TS T, f2, f11, f12] <;> rfl)) (by first | rfl | (simp only [MS, Nat.reduceBEq, Nat.reduceBNe, Nat.reduceEqDiff, reduceIte, if_true, if_false, reduceCtorEq, Nat.reduceAdd, Nat.reduceMul, Nat.reduceLeDiff, Nat.reduceLT, Nat.reduceDiv, Nat.reduceSub, cval, cv, TS T, f2, f11, f12] <;> rfl)) (fun _ => rfl) ?_
      refine ⟨_, h8, hcall8, Wo.nil (hn16 _ ?_)⟩
      have hI8 := hI7.keep hK8 (by omega) (fun b hb => absurd hb (eyeN_priv _ _ _ b))
      have hO8 := hO7.keep hK8 (by omega) (fun b hb => absurd hb (eyeN_priv _ _ _ b))
      have hD8 := hD7.keep hK8 (by omega) (fun b hb => absurd hb (eyeN_priv _ _ _ b))
      have hsame8 : ∀ b, b < h7.n → b ≠ h6.n → h8.get b = h7.get b := fun b hb hne => hK8.same b hb hne (by simp)
      obtain ⟨g, hg⟩ : ∃ g, gs[i]? = some g := ⟨gs[i], List.getElem?_eq_getElem hil⟩
      have gcb8 : h8.get cb = some (.blk cty (gs.map fun g => V.f (.func g) [] []) cw) := by
        rw [hsame8 cb (by omega) (by omega), x67.old cb (by omega), x56.old cb (by omega), x5.old cb (by omega), xi.old cb (by omega)]; exact gc4
      have hixc : indexAddrA tb 49 (.sl cb 0 gs.length (some gs.length) 1) (.i .i64 i) = some (.p cb i) := by simp [indexAddrA, T.t49, T.t40, hil]
      have hldc : loadA tb h8 40 (.p cb i) = some (.f (.func g) [] []) := by simp [loadA, T.t40, gcb8, partV, hg]
      obtain ⟨lv, h9, G4, m, C, hcall9, x9, hT9, hG4o, hC9, hlv, hG4n⟩ := hcs i g hg G3 1 h8 h5.n 2 hT8 hG3y hG3l
      have hx9n := x9.n
      repeat refine Wc.assoc ?_
      refine Wc.seq fun K17 hn17 hx17 => ?_
      refine Wc.rg ?_
      refine Wo.val rfl (by first | rfl | (simp only [MS, Nat.reduceBEq, Nat.reduceBNe, Nat.reduceEqDiff, reduceIte, if_true, if_false, reduceCtorEq, Nat.reduceAdd, Nat.reduceMul, Nat.reduceLeDiff, Nat.reduceLT, Nat.reduceDiv, Nat.reduceSub, TS T, f3, f10, f11, hixc, hldc] <;> rfl)) rfl ?_
      refine Wo.val rfl (by first | rfl | (simp only [MS, Nat.reduceBEq, Nat.reduceBNe, Nat.reduceEqDiff, reduceIte, if_true, if_false, reduceCtorEq, Nat.reduceAdd, Nat.reduceMul, Nat.reduceLeDiff, Nat.reduceLT, Nat.reduceDiv, Nat.reduceSub, TS T, f3, f10, f11, hixc, hldc] <;> rfl)) rfl ?_
      refine Wo.val rfl (by simp only [MS, Nat.reduceBEq, Nat.reduceBNe, Nat.reduceEqDiff, reduceIte, if_true, if_false, reduceCtorEq, Nat.reduceAdd, Nat.reduceMul, Nat.reduceLeDiff, Nat.reduceLT, Nat.reduceDiv, Nat.reduceSub, cval, cv, TS T, f3, f10, f11, hixc, hldc] <;> rfl) rfl ?_
      refine Wo.val rfl (by simp only [MS, Nat.reduceBEq, Nat.reduceBNe, Nat.reduceEqDiff, reduceIte, if_true, if_false, reduceCtorEq, Nat.reduceAdd, Nat.reduceMul, Nat.reduceLeDiff, Nat.reduceLT, Nat.reduceDiv, Nat.reduceSub, partV, TS T, f3, f10, f11, hixc, hldc] <;> rfl) rfl ?_
      refine Wo.cl rfl rfl rfl (by first | rfl | (simp only [MS, Nat.reduceBEq, Nat.reduceBNe, Nat.reduceEqDiff, reduceIte, if_true, if_false, reduceCtorEq, Nat.reduceAdd, Nat.reduceMul, Nat.reduceLeDiff, Nat.reduceLT, Nat.reduceDiv, Nat.reduceSub, cval, cv, TS T, f3, f10, f11, hixc, hldc] <;> rfl)) (by first | rfl | (simp only [MS, Nat.reduceBEq, Nat.reduceBNe, Nat.reduceEqDiff, reduceIte, if_true, if_false, reduceCtorEq, Nat.reduceAdd, Nat.reduceMul, Nat.reduceLeDiff, Nat.reduceLT, Nat.reduceDiv, Nat.reduceSub, cval, cv, TS T, f3, f10, f11, hixc, hldc] <;> rfl)) (fun _ => rfl) ?_
      refine ⟨_, h9, hcall9, ?_⟩
      refine Wo.val rfl (by first | rfl | (simp only [MS, Nat.reduceBEq, Nat.reduceBNe, Nat.reduceEqDiff, reduceIte, if_true, if_false, reduceCtorEq, Nat.reduceAdd, Nat.reduceMul, Nat.reduceLeDiff, Nat.reduceLT, Nat.reduceDiv, Nat.reduceSub, cval, cv, TS T] <;> rfl)) rfl ?_
      refine Wo.nil ?_
      refine hn17 _ ?_
      have hG4y : G4 h5.n = some ⟨S.ls, 1, true, true⟩ := by rw [hG4o _ (by omega)]; exact hG3y
      have hG4none : ∀ b, h6.n ≤ b → b < h8.n → G4 b = none := fun b h1 h2 => by rw [hG4o b h2]; exact hT6.none h1
      have hG4w : ∀ b t, G4 b = some t → 1 ≤ t.reg → t.wr = true := fun b t hb hr => by
        rcases Nat.lt_or_ge b h8.n with hlt | hge
        · rw [hG4o b hlt] at hb; exact hG3w b t hb (by have := hG3r b t hb; omega)
        · exact (hG4n b t hge hb).2
      have hlow : ∀ b t, b < hi.n → G4 b = some t → t.reg = 0 := fun b t hb ht => by
        rw [hG4o b (by omega)] at ht; exact hlow3 b t hb ht
      have hmid : ∀ b t, b < h8.n → G4 b = some t → t.reg ≤ 1 := fun b t hb ht => by
        rw [hG4o b hb] at ht; exact hG3r b t ht
      have hW9 := (hW8.keep (Kp.ext (G := G3) (P := fun _ => False) (R := fun _ => False) x9) (fun h => h) (fun _ _ h => h))
      have hW9 : EyeK 3 9 G4 h7.n h9 h6.n W := ⟨hW9.at_, hG4none _ (Nat.le_refl _) (by omega), fun b hb => ⟨hG4none b (by have := (hW9.gp b hb).2; omega) (hW8.at_.priv_lt hb), (hW9.gp b hb).2⟩⟩
      have fresh9 : ∀ a, EyeK 3 9 G3 0 h8 a (eyeN false 0 true) → h6.n ≤ a → EyeK 3 9 G4 0 h9 a (eyeN false 0 true) := fun a H ha =>
        ⟨H.at_.ext x9, hG4none a ha H.at_.lt, fun b hb => absurd hb (eyeN_priv _ _ _ b)⟩
      have hI9 := fresh9 _ hI8 (by omega)
      have hO9 := fresh9 _ hO8 (by omega)
      have hD9 := fresh9 _ hD8 (by omega)
      obtain ⟨h10, I, hcall10, hT10, hI10, hK10, hIl, hIf⟩ := Y.see.run hT9 hI9 hG4y (fun j l hl => hl) (fun _ => rfl) (by simp) S.lsw
      have hn10' := hK10.n
      repeat refine Wc.assoc ?_
      refine Wc.seq fun K18 hn18 hx18 => ?_
      refine Wc.rg ?_
      refine Wo.val rfl (by first | rfl | (simp only [MS, Nat.reduceBEq, Nat.reduceBNe, Nat.reduceEqDiff, reduceIte, if_true, if_false, reduceCtorEq, Nat.reduceAdd, Nat.reduceMul, Nat.reduceLeDiff, Nat.reduceLT, Nat.reduceDiv, Nat.reduceSub, TS T, f2, f11, f13] <;> rfl)) rfl ?_
      refine Wo.cl rfl rfl rfl (by first | rfl | (simp only [MS, Nat.reduceBEq, Nat.reduceBNe, Nat.reduceEqDiff, reduceIte, if_true, if_false, reduceCtorEq, Nat.reduceAdd, Nat.reduceMul, Nat.reduceLeDiff, Nat.reduceLT, Nat.reduceDiv, Nat.reduceSub, cval, cv, TS T, f2, f11, f13] <;> rfl)) (by first | rfl | (simp only [MS, Nat.reduceBEq, Nat.reduceBNe, Nat.reduceEqDiff, reduceIte, if_true, if_false, reduceCtorEq, Nat.reduceAdd, Nat.reduceMul, Nat.reduceLeDiff, Nat.reduceLT, Nat.reduceDiv, Nat.reduceSub, cval, cv, TS T, f2, f11, f13] <;> rfl)) (fun _ => rfl) ?_
      refine ⟨_, h10, hcall10, Wo.nil (hn18 _ ?_)⟩
      have hW10 := hW9.keep hK10 (by omega) (fun b hb => by have := (hW9.gp b hb).2; omega)
      have hO10 := hO9.keep hK10 (by omega) (fun b hb => absurd hb (eyeN_priv _ _ _ b))
      have hD10 := hD9.keep hK10 (by omega) (fun b hb => absurd hb (eyeN_priv _ _ _ b))
      have hC10 := hC9.keep hK10 (fun b hb => by have := hlv b hb; omega)
      have hWI : (W.ns, W.ss) = (I.ns, I.ss) := by
        rw [hWf rfl, hIf rfl]
        have hcy : cellsOf h9 h5.n = cellsOf h7 h5.n := by
          simp only [cellsOf]; rw [x9.old _ (by omega), hsame8 _ (by omega) (by omega)]
        rw [hcy]
        refine (flats_local (r := 1) (rm := true) hT7 (fun b t hb _ => ?_) (by simp) S.ls _ _ fun j l v hl hv => ?_).symm
        · have h1 := (hT7.blk b t hb).1
          have h2 : b ≠ h6.n := fun e => by rw [e, hT6.none (Nat.le_refl _)] at hb; cases hb
          rw [x9.old b (by omega), hsame8 b h1 h2]
        · exact (hT7.cells hG3y).2 j l v hl hv
      have hWI1 : W.ns = I.ns := congrArg Prod.fst hWI
      have hWI2 : W.ss = I.ss := congrArg Prod.snd hWI
      have hWss : W.ss.length ≤ 1000000000000 := by
        have h1 : W.ss = (flats h7 true S.ls (cellsOf h7 h5.n) ([], [])).2 := by rw [← hWf rfl]
        rw [h1, flats_ss _ _ _ _ _ rfl]; simp
      obtain ⟨h11, o1, L1, hcall11, x11, hT11, ho1, hL1, hL1p, hL1s⟩ := Y.look hT10 hC10
      have hx11n := x11.n
      repeat refine Wc.assoc ?_
      refine Wc.seq fun K19 hn19 hx19 => ?_
      refine Wc.rg ?_
      refine Wo.val rfl (by first | rfl | (simp only [MS, Nat.reduceBEq, Nat.reduceBNe, Nat.reduceEqDiff, reduceIte, if_true, if_false, reduceCtorEq, Nat.reduceAdd, Nat.reduceMul, Nat.reduceLeDiff, Nat.reduceLT, Nat.reduceDiv, Nat.reduceSub, TS T] <;> rfl)) rfl ?_
      refine Wo.cl rfl rfl rfl (by first | rfl | (simp only [MS, Nat.reduceBEq, Nat.reduceBNe, Nat.reduceEqDiff, reduceIte, if_true, if_false, reduceCtorEq, Nat.reduceAdd, Nat.reduceMul, Nat.reduceLeDiff, Nat.reduceLT, Nat.reduceDiv, Nat.reduceSub, cval, cv, TS T] <;> rfl)) (by first | rfl | (simp only [MS, Nat.reduceBEq, Nat.reduceBNe, Nat.reduceEqDiff, reduceIte, if_true, if_false, reduceCtorEq, Nat.reduceAdd, Nat.reduceMul, Nat.reduceLeDiff, Nat.reduceLT, Nat.reduceDiv, Nat.reduceSub, cval, cv, TS T] <;> rfl)) (fun _ => rfl) ?_
      refine ⟨_, h11, hcall11, ?_⟩
      refine Wo.val rfl (by first | rfl | (simp only [MS, Nat.reduceBEq, Nat.reduceBNe, Nat.reduceEqDiff, reduceIte, if_true, if_false, reduceCtorEq, Nat.reduceAdd, Nat.reduceMul, Nat.reduceLeDiff, Nat.reduceLT, Nat.reduceDiv, Nat.reduceSub, cval, cv, TS T] <;> rfl)) rfl ?_
      refine Wo.nil ?_
      refine hn19 _ ?_
      have x12 : Ext h10 (h11.push (.blk (2 * 54) [.nils, .nils, .b true, .i .i64 0, .b true] true)) := x11.trans (Ext.push _ _)
      have x112 : Ext h11 (h11.push (.blk (2 * 54) [.nils, .nils, .b true, .i .i64 0, .b true] true)) := Ext.push _ _
      have hM12 : EyeK 3 9 G4 0 (h11.push (.blk (2 * 54) [.nils, .nils, .b true, .i .i64 0, .b true] true)) h11.n (eyeN true 0 true) := .new (hT11.none (Nat.le_refl _)) (by simp) (Hp.get_push_self _ _)
      obtain ⟨h13, M, hcall13, hT13, _, hK13, _, _⟩ := Y.see.run (hT10.ext x12) hM12 hG4y (fun j l hl => hl) (fun _ => rfl) (fun _ b t' hb hr => hG4w b t' hb (by rw [hr]; exact Nat.le_refl _)) S.lsw
      have hn13' := hK13.n
      simp only [Hp.n_push] at hn13'
      repeat refine Wc.assoc ?_
      refine Wc.seq fun K20 hn20 hx20 => ?_
      have hBm := B.m
      refine Wc.rg ?_
      refine Wo.val rfl (by first | rfl | (simp only [MS, Nat.reduceBEq, Nat.reduceBNe, Nat.reduceEqDiff, reduceIte, if_true, if_false, reduceCtorEq, Nat.reduceAdd, Nat.reduceMul, Nat.reduceLeDiff, Nat.reduceLT, Nat.reduceDiv, Nat.reduceSub, TS T, f2, f11, hBm] <;> rfl)) rfl ?_
      refine Wo.val rfl (by simp only [MS, Nat.reduceBEq, Nat.reduceBNe, Nat.reduceEqDiff, reduceIte, if_true, if_false, reduceCtorEq, Nat.reduceAdd, Nat.reduceMul, Nat.reduceLeDiff, Nat.reduceLT, Nat.reduceDiv, Nat.reduceSub, partsA, cval, cv, TS T, f2, f11, hBm] <;> rfl) rfl ?_
      refine Wo.val rfl (by simp only [MS, Nat.reduceBEq, Nat.reduceBNe, Nat.reduceEqDiff, reduceIte, if_true, if_false, reduceCtorEq, Nat.reduceAdd, Nat.reduceMul, Nat.reduceLeDiff, Nat.reduceLT, Nat.reduceDiv, Nat.reduceSub, cval, cv, TS T, f2, f11, hBm] <;> rfl) rfl ?_
      refine Wo.cl rfl rfl rfl (by first | rfl | (simp only [MS, Nat.reduceBEq, Nat.reduceBNe, Nat.reduceEqDiff, reduceIte, if_true, if_false, reduceCtorEq, Nat.reduceAdd, Nat.reduceMul, Nat.reduceLeDiff, Nat.reduceLT, Nat.reduceDiv, Nat.reduceSub, cval, cv, TS T, f2, f11, hBm] <;> rfl)) (by first | rfl | (simp only [MS, Nat.reduceBEq, Nat.reduceBNe, Nat.reduceEqDiff, reduceIte, if_true, if_false, reduceCtorEq, Nat.reduceAdd, Nat.reduceMul, Nat.reduceLeDiff, Nat.reduceLT, Nat.reduceDiv, Nat.reduceSub, cval, cv, TS T, f2, f11, hBm] <;> rfl)) (fun _ => rfl) ?_
      refine ⟨_, h13, hcall13, Wo.nil (hn20 _ ?_)⟩
      have hK1013 : Kp G4 (fun b => h10.n ≤ b) (fun q => q = 1) h10 h13 := (Kp.ext x12).trans (hK13.weak (fun b _ hb => by omega) (fun q hq => hq.2))
      have hW13 := hW10.keep hK1013 (by omega) (fun b hb => by have := hW10.at_.priv_lt hb; omega)
      have hI13 := hI10.keep hK1013 (by omega) (fun b hb => by have := hI10.at_.priv_lt hb; omega)
      have hO13 := hO10.keep hK1013 (by omega) (fun b hb => absurd hb (eyeN_priv _ _ _ b))
      have hD13 := hD10.keep hK1013 (by omega) (fun b hb => absurd hb (eyeN_priv _ _ _ b))
      have hC13 := hC10.keep hK1013 (fun b hb => by
        have h1 := hlv b hb
        have h2 : b < h9.n := by
          rcases hC9.v with ⟨e, _⟩ | ⟨lb, _, _, _, e, h, _⟩
          · rw [e] at hb; cases hb
          · rw [e] at hb; simp only [blkOf, Option.some.injEq] at hb; omega
        omega)
      have hL13 := hL1.keep (G := G4) (P := fun b => b = h11.n) (R := fun q => q = 1) ((Kp.ext x112).trans (hK13.weak (fun b _ hb => hb) (fun q hq => hq.2))) (hT10.none ho1) (by have := hL1.lt; omega) (fun j hj b hb => ⟨hT10.none (hL1p j hj b hb), by have := (hL1.at_ j hj).priv_lt hb; omega⟩)
      obtain ⟨h14, hcall14, x14⟩ := Y.same hW13.at_.v hI13.at_.v hWI1 hWI2 hWl hWss
      have hldW := hW13.ld T.t54 rfl rfl
      have hldI := hI13.ld T.t54 rfl rfl
      have hx14n := x14.n
      have hC14 := hC13.keep (Kp.ext (G := G4) (P := fun _ => False) (R := fun _ => False) x14) (fun _ _ h => h)
      have hT14 := hT13.ext x14
      obtain ⟨h15, o2, L2, hcall15, x15, hT15, ho2, hL2, hL2p, hL2s⟩ := Y.look hT14 hC14
      have hx15n := x15.n
      obtain ⟨h16, hcall16, x16⟩ := Y.alike (but := -1) (hL13.ext (x14.trans x15)) hL2 hC9.small (fun j hj _ => by
        have e1 := (hL1s j hj).1
        have e2 := (hL2s j hj).1
        have e3 := Cl.seen_same hC10 hT10 hj (h' := h14) (fun b t hb hr => by
          have hlt := (hT10.blk b t hb).1
          rw [x14.old b (by omega), hK1013.same b hlt (by omega) (fun t' ht' => by rw [hb] at ht'; cases ht'; rw [hr]; omega)])
        have e4 : ((L1 j).ns, (L1 j).ss) = ((L2 j).ns, (L2 j).ss) := by rw [e1, e2, e3]
        exact ⟨congrArg Prod.fst e4, congrArg Prod.snd e4, (hL1s j hj).2⟩)
      have hx16n := x16.n
      repeat refine Wc.assoc ?_
      refine Wc.seq fun K21 hn21 hx21 => ?_
      refine Wc.rg ?_
      refine Wo.val rfl (by simp only [MS, Nat.reduceBEq, Nat.reduceBNe, Nat.reduceEqDiff, reduceIte, if_true, if_false, reduceCtorEq, Nat.reduceAdd, Nat.reduceMul, Nat.reduceLeDiff, Nat.reduceLT, Nat.reduceDiv, Nat.reduceSub, partV, TS T, f12, f13, hldW, hldI] <;> rfl) rfl ?_
      refine Wo.val rfl (by simp only [MS, Nat.reduceBEq, Nat.reduceBNe, Nat.reduceEqDiff, reduceIte, if_true, if_false, reduceCtorEq, Nat.reduceAdd, Nat.reduceMul, Nat.reduceLeDiff, Nat.reduceLT, Nat.reduceDiv, Nat.reduceSub, partV, TS T, f12, f13, hldW, hldI] <;> rfl) rfl ?_
      refine Wo.cl rfl rfl rfl (by first | rfl | (simp only [MS, Nat.reduceBEq, Nat.reduceBNe, Nat.reduceEqDiff, reduceIte, if_true, if_false, reduceCtorEq, Nat.reduceAdd, Nat.reduceMul, Nat.reduceLeDiff, Nat.reduceLT, Nat.reduceDiv, Nat.reduceSub, cval, cv, TS T, f12, f13, hldW, hldI] <;> rfl)) (by first | rfl | (simp only [MS, Nat.reduceBEq, Nat.reduceBNe, Nat.reduceEqDiff, reduceIte, if_true, if_false, reduceCtorEq, Nat.reduceAdd, Nat.reduceMul, Nat.reduceLeDiff, Nat.reduceLT, Nat.reduceDiv, Nat.reduceSub, cval, cv, TS T, f12, f13, hldW, hldI] <;> rfl)) (fun _ => rfl) ?_
      refine ⟨_, h14, hcall14, ?_⟩
      refine Wo.val rfl (by simp only [MS, Nat.reduceBEq, Nat.reduceBNe, Nat.reduceEqDiff, reduceIte, if_true, if_false, reduceCtorEq, Nat.reduceAdd, Nat.reduceMul, Nat.reduceLeDiff, Nat.reduceLT, Nat.reduceDiv, Nat.reduceSub, unA, TS T] <;> rfl) rfl ?_
      refine Wo.val rfl (by first | rfl | (simp only [MS, Nat.reduceBEq, Nat.reduceBNe, Nat.reduceEqDiff, reduceIte, if_true, if_false, reduceCtorEq, Nat.reduceAdd, Nat.reduceMul, Nat.reduceLeDiff, Nat.reduceLT, Nat.reduceDiv, Nat.reduceSub, TS T] <;> rfl)) rfl ?_
      refine Wo.val (by first | rfl | (simp only [wantedA, wantedP, evR, List.contains, List.elem, MS, Nat.reduceBEq, Nat.reduceBNe, Nat.reduceEqDiff, reduceIte, if_true, if_false, reduceCtorEq, Nat.reduceAdd, Nat.reduceMul, Nat.reduceLeDiff, Nat.reduceLT, Nat.reduceDiv, Nat.reduceSub] <;> rfl)) (by first | rfl | (simp only [MS, Nat.reduceBEq, Nat.reduceBNe, Nat.reduceEqDiff, reduceIte, if_true, if_false, reduceCtorEq, Nat.reduceAdd, Nat.reduceMul, Nat.reduceLeDiff, Nat.reduceLT, Nat.reduceDiv, Nat.reduceSub, TS T] <;> rfl)) rfl ?_
      refine Wo.val (by first | rfl | (simp only [wantedA, wantedP, evR, List.contains, List.elem, MS, Nat.reduceBEq, Nat.reduceBNe, Nat.reduceEqDiff, reduceIte, if_true, if_false, reduceCtorEq, Nat.reduceAdd, Nat.reduceMul, Nat.reduceLeDiff, Nat.reduceLT, Nat.reduceDiv, Nat.reduceSub] <;> rfl)) (by first | rfl | (simp only [MS, Nat.reduceBEq, Nat.reduceBNe, Nat.reduceEqDiff, reduceIte, if_true, if_false, reduceCtorEq, Nat.reduceAdd, Nat.reduceMul, Nat.reduceLeDiff, Nat.reduceLT, Nat.reduceDiv, Nat.reduceSub, TS T] <;> rfl)) rfl ?_
      refine Wo.cl (by first | rfl | (simp only [wantedA, wantedP, evR, List.contains, List.elem, MS, Nat.reduceBEq, Nat.reduceBNe, Nat.reduceEqDiff, reduceIte, if_true, if_false, reduceCtorEq, Nat.reduceAdd, Nat.reduceMul, Nat.reduceLeDiff, Nat.reduceLT, Nat.reduceDiv, Nat.reduceSub] <;> rfl)) rfl rfl (by first | rfl | (simp only [MS, Nat.reduceBEq, Nat.reduceBNe, Nat.reduceEqDiff, reduceIte, if_true, if_false, reduceCtorEq, Nat.reduceAdd, Nat.reduceMul, Nat.reduceLeDiff, Nat.reduceLT, Nat.reduceDiv, Nat.reduceSub, cval, cv, TS T] <;> rfl)) (by first | rfl | (simp only [MS, Nat.reduceBEq, Nat.reduceBNe, Nat.reduceEqDiff, reduceIte, if_true, if_false, reduceCtorEq, Nat.reduceAdd, Nat.reduceMul, Nat.reduceLeDiff, Nat.reduceLT, Nat.reduceDiv, Nat.reduceSub, cval, cv, TS T] <;> rfl)) (fun _ => rfl) ?_
      refine ⟨_, h15, hcall15, ?_⟩
      refine Wo.cl (by first | rfl | (simp only [wantedA, wantedP, evR, List.contains, List.elem, MS, Nat.reduceBEq, Nat.reduceBNe, Nat.reduceEqDiff, reduceIte, if_true, if_false, reduceCtorEq, Nat.reduceAdd, Nat.reduceMul, Nat.reduceLeDiff, Nat.reduceLT, Nat.reduceDiv, Nat.reduceSub] <;> rfl)) rfl rfl (by first | rfl | (simp only [MS, Nat.reduceBEq, Nat.reduceBNe, Nat.reduceEqDiff, reduceIte, if_true, if_false, reduceCtorEq, Nat.reduceAdd, Nat.reduceMul, Nat.reduceLeDiff, Nat.reduceLT, Nat.reduceDiv, Nat.reduceSub, cval, cv, TS T] <;> rfl)) (by first | rfl | (simp only [MS, Nat.reduceBEq, Nat.reduceBNe, Nat.reduceEqDiff, reduceIte, if_true, if_false, reduceCtorEq, Nat.reduceAdd, Nat.reduceMul, Nat.reduceLeDiff, Nat.reduceLT, Nat.reduceDiv, Nat.reduceSub, cval, cv, TS T] <;> rfl)) (fun _ => rfl) ?_
      refine ⟨_, h16, hcall16, ?_⟩
      refine Wo.val (by first | rfl | (simp only [wantedA, wantedP, evR, List.contains, List.elem, MS, Nat.reduceBEq, Nat.reduceBNe, Nat.reduceEqDiff, reduceIte, if_true, if_false, reduceCtorEq, Nat.reduceAdd, Nat.reduceMul, Nat.reduceLeDiff, Nat.reduceLT, Nat.reduceDiv, Nat.reduceSub] <;> rfl)) (by simp only [MS, Nat.reduceBEq, Nat.reduceBNe, Nat.reduceEqDiff, reduceIte, if_true, if_false, reduceCtorEq, Nat.reduceAdd, Nat.reduceMul, Nat.reduceLeDiff, Nat.reduceLT, Nat.reduceDiv, Nat.reduceSub, unA, TS T] <;> rfl) rfl ?_
      refine Wo.val rfl (by first | rfl | (simp only [MS, Nat.reduceBEq, Nat.reduceBNe, Nat.reduceEqDiff, reduceIte, if_true, if_false, reduceCtorEq, Nat.reduceAdd, Nat.reduceMul, Nat.reduceLeDiff, Nat.reduceLT, Nat.reduceDiv, Nat.reduceSub, cval, cv, TS T] <;> rfl)) rfl ?_
      refine Wo.nil ?_
      refine hn21 _ ?_
      repeat refine Wc.assoc ?_
      refine Wc.seq fun K22 hn22 hx22 => ?_
      refine Wc.cond (t := false) rfl (fun h => by cases h) fun _ => ?_
      refine Wc.skip (hn22 _ ?_)
      have x136 : Ext h13 h16 := (x14.trans x15).trans x16
      have hT16 := hT13.ext x136
      have hO16 := hO13.keep (Kp.ext (G := G4) (P := fun _ => False) (R := fun _ => False) x136) (fun h => h) (fun _ _ h => h)
      have hD16 := hD13.keep (Kp.ext (G := G4) (P := fun _ => False) (R := fun _ => False) x136) (fun h => h) (fun _ _ h => h)
      have hC16 := hC13.keep (Kp.ext (G := G4) (P := fun _ => False) (R := fun _ => False) x136) (fun _ _ h => h)
      obtain ⟨h17, O, hcall17, hT17, hO17, hK17, hOl, hOf⟩ := Y.see.run hT16 hO16 hG4y (fun j l hl => hl) (fun _ => rfl) (by simp) S.lsw
      have hn17' := hK17.n
      repeat refine Wc.assoc ?_
      refine Wc.seq fun K23 hn23 hx23 => ?_
      refine Wc.rg ?_
      refine Wo.val rfl (by first | rfl | (simp only [MS, Nat.reduceBEq, Nat.reduceBNe, Nat.reduceEqDiff, reduceIte, if_true, if_false, reduceCtorEq, Nat.reduceAdd, Nat.reduceMul, Nat.reduceLeDiff, Nat.reduceLT, Nat.reduceDiv, Nat.reduceSub, TS T, f2, f11, f14] <;> rfl)) rfl ?_
      refine Wo.cl rfl rfl rfl (by first | rfl | (simp only [MS, Nat.reduceBEq, Nat.reduceBNe, Nat.reduceEqDiff, reduceIte, if_true, if_false, reduceCtorEq, Nat.reduceAdd, Nat.reduceMul, Nat.reduceLeDiff, Nat.reduceLT, Nat.reduceDiv, Nat.reduceSub, cval, cv, TS T, f2, f11, f14] <;> rfl)) (by first | rfl | (simp only [MS, Nat.reduceBEq, Nat.reduceBNe, Nat.reduceEqDiff, reduceIte, if_true, if_false, reduceCtorEq, Nat.reduceAdd, Nat.reduceMul, Nat.reduceLeDiff, Nat.reduceLT, Nat.reduceDiv, Nat.reduceSub, cval, cv, TS T, f2, f11, f14] <;> rfl)) (fun _ => rfl) ?_
      refine ⟨_, h17, hcall17, Wo.nil (hn23 _ ?_)⟩
      have hD17 := hD16.keep hK17 (by omega) (fun b hb => absurd hb (eyeN_priv _ _ _ b))
      have hC17 := hC16.keep hK17 (fun b hb => by have := hlv b hb; omega)
      repeat refine Wc.assoc ?_
      refine Wc.seq fun K24 hn24 hx24 => ?_
      refine Wc.rg ?_
      refine Wo.val rfl (by first | rfl | (simp only [MS, Nat.reduceBEq, Nat.reduceBNe, Nat.reduceEqDiff, reduceIte, if_true, if_false, reduceCtorEq, Nat.reduceAdd, Nat.reduceMul, Nat.reduceLeDiff, Nat.reduceLT, Nat.reduceDiv, Nat.reduceSub, cval, cv, TS T] <;> rfl)) rfl ?_
      refine Wo.nil ?_
      refine hn24 _ ?_
      repeat refine Wc.assoc ?_
      refine Wc.seq fun K25 hn25 hx25 => ?_
      refine Wc.block fun K26 hb26 hx26 => ?_
      have hlvlt : ∀ b, blkOf lv = some b → b < h9.n := fun b hb => by
        rcases hC9.v with ⟨e, _⟩ | ⟨lb, _, _, _, e, h, _⟩
        · rw [e] at hb; cases hb
        · rw [e] at hb; simp only [blkOf, Option.some.injEq] at hb; omega
      have hlenl : bltA tb .len #[32] [lv] = some (.i .i64 m) := by
        rcases hC9.v with ⟨rfl, rfl⟩ | ⟨lb, ty, cs, rw, rfl, _⟩ <;> simp [bltA, T.t32]
      have hOss : O.ss.length ≤ 1000000000000 := by
        have h1 : O.ss = (flats h16 true S.ls (cellsOf h16 h5.n) ([], [])).2 := by rw [← hOf rfl]
        rw [h1, flats_ss _ _ _ _ _ rfl]; simp
      have hms := hC9.small
      have hx7n := x67.n
      refine Wc.loop (fun k s => ∃ (q : Nat) (fr : List (Nat × V)) (hj : Hp), s = ⟨fr, [], hj⟩ ∧ q + k = m ∧ TOk G4 hj ∧ Kp G4 (fun b => h17.n ≤ b) (fun q => 2 ≤ q) h17 hj ∧ look fr 1 = some (.f (.func 5) [] []) ∧ look fr 2 = some (.f (.func 6) [] []) ∧ look fr 3 = some (.sl cb 0 gs.length (some gs.length) 1) ∧ look fr 4 = some (.p h.n 0) ∧ look fr 10 = some (.i .i64 i) ∧
        look fr 11 = some (.p h5.n 0) ∧ look fr 14 = some (.p (h6.n + 1 + 1) 0) ∧ look fr 15 = some (.p (h6.n + 1 + 1 + 1) 0) ∧ look fr 16 = some lv ∧ look fr 18 = some (.i .i64 q)) m (by omega)
        ⟨0, _, h17, rfl, by omega, hT17, Kp.refl _ _ _ _, by simp [look, f1], by simp [look, f2], by simp [look, f3], by simp [look, f4], by simp [look, f10], by simp [look, f11], by simp [look, f14], by simp [look, f15], by simp [look], by simp [look]⟩ ?_
      rintro kk _ ⟨q, fr, hj, rfl, hqk, hTj, hKj, f1, f2, f3, f4, f10, f11, f14, f15, f16, f18⟩ KI hnI hxI
      have hKjn := hKj.n
      repeat refine Wc.assoc ?_
      refine Wc.seq fun K27 hn27 hx27 => ?_
      refine Wc.rg ?_
      refine Wo.val rfl (by first | rfl | (simp only [MS, Nat.reduceBEq, Nat.reduceBNe, Nat.reduceEqDiff, reduceIte, if_true, if_false, reduceCtorEq, Nat.reduceAdd, Nat.reduceMul, Nat.reduceLeDiff, Nat.reduceLT, Nat.reduceDiv, Nat.reduceSub, TS T, f16, f18, hlenl] <;> rfl)) rfl ?_
      refine Wo.val rfl (by first | rfl | (simp only [MS, Nat.reduceBEq, Nat.reduceBNe, Nat.reduceEqDiff, reduceIte, if_true, if_false, reduceCtorEq, Nat.reduceAdd, Nat.reduceMul, Nat.reduceLeDiff, Nat.reduceLT, Nat.reduceDiv, Nat.reduceSub, TS T, f16, f18, hlenl] <;> rfl)) rfl ?_
      refine Wo.val rfl (by simp only [MS, Nat.reduceBEq, Nat.reduceBNe, Nat.reduceEqDiff, reduceIte, if_true, if_false, reduceCtorEq, Nat.reduceAdd, Nat.reduceMul, Nat.reduceLeDiff, Nat.reduceLT, Nat.reduceDiv, Nat.reduceSub, cval, cv, TS T, f16, f18, hlenl] <;> rfl) rfl ?_
      refine Wo.val rfl (by simp only [MS, Nat.reduceBEq, Nat.reduceBNe, Nat.reduceEqDiff, reduceIte, if_true, if_false, reduceCtorEq, Nat.reduceAdd, Nat.reduceMul, Nat.reduceLeDiff, Nat.reduceLT, Nat.reduceDiv, Nat.reduceSub, binA, arithA, strA, isC, cval, cv, TS T, f16, f18, hlenl] <;> rfl) rfl ?_
      refine Wo.nil ?_
      refine hn27 _ ?_
      repeat refine Wc.assoc ?_
      refine Wc.seq fun K28 hn28 hx28 => ?_
      refine Wc.cond (t := decide ((q : Int) < (m : Int))) rfl (fun hd => ?_) fun hd => ?_
      · refine Wc.skip (hn28 _ ?_)
        have hqm : q < m := by have := of_decide_eq_true hd; omega
        have hCj := hC17.keep hKj (fun b hb => by have := hlvlt b hb; omega)
        obtain ⟨ha, oN, LN, hcalla, xa', hTa, hoN, hLN, hLNp, hLNs⟩ := Y.look hTj hCj
        have hxan := xa'.n
        refine Wc.seq fun K29 hn29 hx29 => ?_
        refine Wc.block fun K30 hb30 hx30 => ?_
        repeat refine Wc.assoc ?_
        refine Wc.seq fun K31 hn31 hx31 => ?_
        refine Wc.rg ?_
        refine Wo.val rfl (by first | rfl | (simp only [MS, Nat.reduceBEq, Nat.reduceBNe, Nat.reduceEqDiff, reduceIte, if_true, if_false, reduceCtorEq, Nat.reduceAdd, Nat.reduceMul, Nat.reduceLeDiff, Nat.reduceLT, Nat.reduceDiv, Nat.reduceSub, TS T, f16] <;> rfl)) rfl ?_
        refine Wo.cl rfl rfl rfl (by first | rfl | (simp only [MS, Nat.reduceBEq, Nat.reduceBNe, Nat.reduceEqDiff, reduceIte, if_true, if_false, reduceCtorEq, Nat.reduceAdd, Nat.reduceMul, Nat.reduceLeDiff, Nat.reduceLT, Nat.reduceDiv, Nat.reduceSub, cval, cv, TS T, f16] <;> rfl)) (by first | rfl | (simp only [MS, Nat.reduceBEq, Nat.reduceBNe, Nat.reduceEqDiff, reduceIte, if_true, if_false, reduceCtorEq, Nat.reduceAdd, Nat.reduceMul, Nat.reduceLeDiff, Nat.reduceLT, Nat.reduceDiv, Nat.reduceSub, cval, cv, TS T, f16] <;> rfl)) (fun _ => rfl) ?_
        refine ⟨_, ha, hcalla, ?_⟩
        refine Wo.val rfl (by first | rfl | (simp only [MS, Nat.reduceBEq, Nat.reduceBNe, Nat.reduceEqDiff, reduceIte, if_true, if_false, reduceCtorEq, Nat.reduceAdd, Nat.reduceMul, Nat.reduceLeDiff, Nat.reduceLT, Nat.reduceDiv, Nat.reduceSub, cval, cv, TS T] <;> rfl)) rfl ?_
        refine Wo.nil ?_
        refine hn31 _ ?_
        have hixl : ∃ lb, indexAddrA tb 32 lv (.i .i64 q) = some (.p lb q) ∧ loadA tb ha 39 (.p lb q) = some (.f (.func (C q).g) [] [.p (C q).a 0]) := by
          rcases hCj.v with ⟨_, e⟩ | ⟨lb, ty, cs, rw, e, hlb, _, hgl, hcs'⟩
          · omega
          · exact ⟨lb, by rw [e]; simp [indexAddrA, T.t32, T.t39, hqm], by simp [loadA, T.t39, xa'.old lb hlb, hgl, partV, hcs' q hqm]⟩
        obtain ⟨lb, hixl, hldl⟩ := hixl
        obtain ⟨htab, ⟨hwq, _⟩, tq, hGa, hregq, hlfq⟩ := hC9.ok q hqm
        generalize hat : IntKind.i64.wrap (1000000 * IntKind.i64.wrap ((q : Int) + 1)) = at0
        have hMb : EyeK 3 9 G4 0 (ha.push (.blk (2 * 54) [.nils, .nils, .b true, .i .i64 at0, .b false] true)) ha.n (eyeN true at0 false) := .new (hTa.none (Nat.le_refl _)) (by simp) (Hp.get_push_self _ _)
        have xab : Ext hj (ha.push (.blk (2 * 54) [.nils, .nils, .b true, .i .i64 at0, .b false] true)) := xa'.trans (Ext.push _ _)
        obtain ⟨hc', Mc, hcallc, hTc, _, hKc, _, _⟩ := (Y.tab _ _ htab).run (hTj.ext xab) hMb hGa hlfq (by simp) (fun _ b t' hb hr => hG4w b t' hb (by rw [hr, hregq]; omega)) hwq
        have hKcn := hKc.n
        simp only [Hp.n_push] at hKcn
        have hBk := B.k at0
        repeat refine Wc.assoc ?_
        refine Wc.seq fun K32 hn32 hx32 => ?_
        refine Wc.rg ?_
        refine Wo.val rfl (by first | rfl | (simp only [MS, Nat.reduceBEq, Nat.reduceBNe, Nat.reduceEqDiff, reduceIte, if_true, if_false, reduceCtorEq, Nat.reduceAdd, Nat.reduceMul, Nat.reduceLeDiff, Nat.reduceLT, Nat.reduceDiv, Nat.reduceSub, TS T, f16, f18, hixl, hldl, hat, hBk] <;> rfl)) rfl ?_
        refine Wo.val rfl (by first | rfl | (simp only [MS, Nat.reduceBEq, Nat.reduceBNe, Nat.reduceEqDiff, reduceIte, if_true, if_false, reduceCtorEq, Nat.reduceAdd, Nat.reduceMul, Nat.reduceLeDiff, Nat.reduceLT, Nat.reduceDiv, Nat.reduceSub, TS T, f16, f18, hixl, hldl, hat, hBk] <;> rfl)) rfl ?_
        refine Wo.val rfl (by simp only [MS, Nat.reduceBEq, Nat.reduceBNe, Nat.reduceEqDiff, reduceIte, if_true, if_false, reduceCtorEq, Nat.reduceAdd, Nat.reduceMul, Nat.reduceLeDiff, Nat.reduceLT, Nat.reduceDiv, Nat.reduceSub, cval, cv, TS T, f16, f18, hixl, hldl, hat, hBk] <;> rfl) rfl ?_
        refine Wo.val rfl (by simp only [MS, Nat.reduceBEq, Nat.reduceBNe, Nat.reduceEqDiff, reduceIte, if_true, if_false, reduceCtorEq, Nat.reduceAdd, Nat.reduceMul, Nat.reduceLeDiff, Nat.reduceLT, Nat.reduceDiv, Nat.reduceSub, partV, TS T, f16, f18, hixl, hldl, hat, hBk] <;> rfl) rfl ?_
        refine Wo.val rfl (by first | rfl | (simp only [MS, Nat.reduceBEq, Nat.reduceBNe, Nat.reduceEqDiff, reduceIte, if_true, if_false, reduceCtorEq, Nat.reduceAdd, Nat.reduceMul, Nat.reduceLeDiff, Nat.reduceLT, Nat.reduceDiv, Nat.reduceSub, TS T, f16, f18, hixl, hldl, hat, hBk] <;> rfl)) rfl ?_
        refine Wo.val rfl (by simp only [MS, Nat.reduceBEq, Nat.reduceBNe, Nat.reduceEqDiff, reduceIte, if_true, if_false, reduceCtorEq, Nat.reduceAdd, Nat.reduceMul, Nat.reduceLeDiff, Nat.reduceLT, Nat.reduceDiv, Nat.reduceSub, binA, arithA, strA, isC, cval, cv, TS T, f16, f18, hixl, hldl, hat, hBk] <;> rfl) rfl ?_
        refine Wo.val rfl (by simp only [MS, Nat.reduceBEq, Nat.reduceBNe, Nat.reduceEqDiff, reduceIte, if_true, if_false, reduceCtorEq, Nat.reduceAdd, Nat.reduceMul, Nat.reduceLeDiff, Nat.reduceLT, Nat.reduceDiv, Nat.reduceSub, binA, arithA, strA, isC, cval, cv, TS T, f16, f18, hixl, hldl, hat, hBk] <;> rfl) rfl ?_
        refine Wo.val rfl (by simp only [MS, Nat.reduceBEq, Nat.reduceBNe, Nat.reduceEqDiff, reduceIte, if_true, if_false, reduceCtorEq, Nat.reduceAdd, Nat.reduceMul, Nat.reduceLeDiff, Nat.reduceLT, Nat.reduceDiv, Nat.reduceSub, partsA, cval, cv, TS T, f16, f18, hixl, hldl, hat, hBk] <;> rfl) rfl ?_
        refine Wo.val rfl (by simp only [MS, Nat.reduceBEq, Nat.reduceBNe, Nat.reduceEqDiff, reduceIte, if_true, if_false, reduceCtorEq, Nat.reduceAdd, Nat.reduceMul, Nat.reduceLeDiff, Nat.reduceLT, Nat.reduceDiv, Nat.reduceSub, cval, cv, TS T, f16, f18, hixl, hldl, hat, hBk] <;> rfl) rfl ?_
        refine Wo.cl rfl rfl rfl (by first | rfl | (simp only [MS, Nat.reduceBEq, Nat.reduceBNe, Nat.reduceEqDiff, reduceIte, if_true, if_false, reduceCtorEq, Nat.reduceAdd, Nat.reduceMul, Nat.reduceLeDiff, Nat.reduceLT, Nat.reduceDiv, Nat.reduceSub, cval, cv, TS T, f16, f18, hixl, hldl, hat, hBk] <;> rfl)) (by first | rfl | (simp only [MS, Nat.reduceBEq, Nat.reduceBNe, Nat.reduceEqDiff, reduceIte, if_true, if_false, reduceCtorEq, Nat.reduceAdd, Nat.reduceMul, Nat.reduceLeDiff, Nat.reduceLT, Nat.reduceDiv, Nat.reduceSub, cval, cv, TS T, f16, f18, hixl, hldl, hat, hBk] <;> rfl)) (fun _ => rfl) ?_
        refine ⟨_, hc', hcallc, Wo.nil (hn32 _ ?_)⟩
        have hKjc : Kp G4 (fun b => hj.n ≤ b) (fun r => r = 2 + q) hj hc' := (Kp.ext xab).trans (hKc.weak (fun b _ hb => by omega) (fun r hr => by rw [hr.2, hregq]))
        have hCc := hCj.keep hKjc (fun b hb => by have := hlvlt b hb; omega)
        have hLNc := hLN.keep (G := G4) (P := fun b => b = ha.n) (R := fun r => r = 2 + q) ((Kp.ext (Ext.push _ _)).trans (hKc.weak (fun b _ hb => hb) (fun r hr => by rw [hr.2, hregq]))) (hTj.none hoN) (by have := hLN.lt; omega) (fun j hj' b hb => ⟨hTj.none (hLNp j hj' b hb), by have := (hLN.at_ j hj').priv_lt hb; omega⟩)
        obtain ⟨hd', oL, LL, hcalld, xd, hTd, hoL, hLL, hLLp, hLLs⟩ := Y.look hTc hCc
        have hxdn := xd.n
        obtain ⟨he', hcalle, xe⟩ := Y.alike (but := (q : Int)) (hLNc.ext xd) hLL hC9.small (fun j hjm hne => by
          have e1 := (hLNs j hjm).1
          have e2 := (hLLs j hjm).1
          have e3 := Cl.seen_same hCj hTj hjm (h' := hc') (fun b t hb hr => by
            have hlt := (hTj.blk b t hb).1
            exact hKjc.same b hlt (by omega) (fun t' ht' => by rw [hb] at ht'; cases ht'; rw [hr]; omega))
          have e4 : ((LN j).ns, (LN j).ss) = ((LL j).ns, (LL j).ss) := by rw [e1, e2, e3]
          exact ⟨congrArg Prod.fst e4, congrArg Prod.snd e4, (hLNs j hjm).2⟩)
        have hxen := xe.n
        repeat refine Wc.assoc ?_
        refine Wc.seq fun K33 hn33 hx33 => ?_
        refine Wc.rg ?_
        refine Wo.val rfl (by first | rfl | (simp only [MS, Nat.reduceBEq, Nat.reduceBNe, Nat.reduceEqDiff, reduceIte, if_true, if_false, reduceCtorEq, Nat.reduceAdd, Nat.reduceMul, Nat.reduceLeDiff, Nat.reduceLT, Nat.reduceDiv, Nat.reduceSub, TS T, f16, f18] <;> rfl)) rfl ?_
        refine Wo.val rfl (by first | rfl | (simp only [MS, Nat.reduceBEq, Nat.reduceBNe, Nat.reduceEqDiff, reduceIte, if_true, if_false, reduceCtorEq, Nat.reduceAdd, Nat.reduceMul, Nat.reduceLeDiff, Nat.reduceLT, Nat.reduceDiv, Nat.reduceSub, TS T, f16, f18] <;> rfl)) rfl ?_
        refine Wo.cl rfl rfl rfl (by first | rfl | (simp only [MS, Nat.reduceBEq, Nat.reduceBNe, Nat.reduceEqDiff, reduceIte, if_true, if_false, reduceCtorEq, Nat.reduceAdd, Nat.reduceMul, Nat.reduceLeDiff, Nat.reduceLT, Nat.reduceDiv, Nat.reduceSub, cval, cv, TS T, f16, f18] <;> rfl)) (by first | rfl | (simp only [MS, Nat.reduceBEq, Nat.reduceBNe, Nat.reduceEqDiff, reduceIte, if_true, if_false, reduceCtorEq, Nat.reduceAdd, Nat.reduceMul, Nat.reduceLeDiff, Nat.reduceLT, Nat.reduceDiv, Nat.reduceSub, cval, cv, TS T, f16, f18] <;> rfl)) (fun _ => rfl) ?_
        refine ⟨_, hd', hcalld, ?_⟩
        refine Wo.val rfl (by first | rfl | (simp only [MS, Nat.reduceBEq, Nat.reduceBNe, Nat.reduceEqDiff, reduceIte, if_true, if_false, reduceCtorEq, Nat.reduceAdd, Nat.reduceMul, Nat.reduceLeDiff, Nat.reduceLT, Nat.reduceDiv, Nat.reduceSub, TS T, f16, f18] <;> rfl)) rfl ?_
        refine Wo.cl rfl rfl rfl (by first | rfl | (simp only [MS, Nat.reduceBEq, Nat.reduceBNe, Nat.reduceEqDiff, reduceIte, if_true, if_false, reduceCtorEq, Nat.reduceAdd, Nat.reduceMul, Nat.reduceLeDiff, Nat.reduceLT, Nat.reduceDiv, Nat.reduceSub, cval, cv, TS T, f16, f18] <;> rfl)) (by first | rfl | (simp only [MS, Nat.reduceBEq, Nat.reduceBNe, Nat.reduceEqDiff, reduceIte, if_true, if_false, reduceCtorEq, Nat.reduceAdd, Nat.reduceMul, Nat.reduceLeDiff, Nat.reduceLT, Nat.reduceDiv, Nat.reduceSub, cval, cv, TS T, f16, f18] <;> rfl)) (fun _ => rfl) ?_
        refine ⟨_, he', hcalle, ?_⟩
        refine Wo.val rfl (by simp only [MS, Nat.reduceBEq, Nat.reduceBNe, Nat.reduceEqDiff, reduceIte, if_true, if_false, reduceCtorEq, Nat.reduceAdd, Nat.reduceMul, Nat.reduceLeDiff, Nat.reduceLT, Nat.reduceDiv, Nat.reduceSub, unA, TS T] <;> rfl) rfl ?_
        refine Wo.nil ?_
        refine hn33 _ ?_
        refine Wc.cond (t := false) rfl (fun h => by cases h) fun _ => ?_
        refine Wc.skip (hx30 _ _ (by simp) (hn29 _ ?_))
        have hw := w64 (n := q) (by omega)
        refine Wc.rg ?_
        refine Wo.val rfl (by first | rfl | (simp only [MS, Nat.reduceBEq, Nat.reduceBNe, Nat.reduceEqDiff, reduceIte, if_true, if_false, reduceCtorEq, Nat.reduceAdd, Nat.reduceMul, Nat.reduceLeDiff, Nat.reduceLT, Nat.reduceDiv, Nat.reduceSub, TS T, f18, hw] <;> rfl)) rfl ?_
        refine Wo.val rfl (by simp only [MS, Nat.reduceBEq, Nat.reduceBNe, Nat.reduceEqDiff, reduceIte, if_true, if_false, reduceCtorEq, Nat.reduceAdd, Nat.reduceMul, Nat.reduceLeDiff, Nat.reduceLT, Nat.reduceDiv, Nat.reduceSub, binA, arithA, strA, isC, cval, cv, TS T, f18, hw] <;> rfl) rfl ?_
        refine Wo.val rfl (by first | rfl | (simp only [MS, Nat.reduceBEq, Nat.reduceBNe, Nat.reduceEqDiff, reduceIte, if_true, if_false, reduceCtorEq, Nat.reduceAdd, Nat.reduceMul, Nat.reduceLeDiff, Nat.reduceLT, Nat.reduceDiv, Nat.reduceSub, cval, cv, TS T, f18, hw] <;> rfl)) rfl ?_
        refine Wo.nil ?_
        refine hnI _ (kk - 1) (by omega) ⟨q + 1, _, he', rfl, by omega, hTc.ext (xd.trans xe), hKj.trans ((hKjc.weak (fun b _ hb => by omega) (fun r hr => by omega)).trans (Kp.ext (xd.trans xe))), by simp [look, f1], by simp [look, f2], by simp [look, f3], by simp [look, f4], by simp [look, f10], by simp [look, f11], by simp [look, f14], by simp [look, f15], by simp [look, f16], by simp [look]⟩
      · refine Wc.exit (hx28 _ _ (by simp) (hxI _ _ (by simp) (hb26 _ (hn25 _ ?_))))
        have hDj := hD17.keep hKj (by omega) (fun b hb => absurd hb (eyeN_priv _ _ _ b))
        have hOj := hO17.keep hKj (by omega) (fun b hb => by have := hO17.at_.priv_lt hb; omega)
        obtain ⟨he', D, hcalle, hTe, hDe, hKe, hDl, hDf⟩ := Y.see.run hTj hDj hG4y (fun j l hl => hl) (fun _ => rfl) (by simp) S.lsw
        have hKen := hKe.n
        repeat refine Wc.assoc ?_
        refine Wc.seq fun K34 hn34 hx34 => ?_
        refine Wc.rg ?_
        refine Wo.val rfl (by first | rfl | (simp only [MS, Nat.reduceBEq, Nat.reduceBNe, Nat.reduceEqDiff, reduceIte, if_true, if_false, reduceCtorEq, Nat.reduceAdd, Nat.reduceMul, Nat.reduceLeDiff, Nat.reduceLT, Nat.reduceDiv, Nat.reduceSub, TS T, f2, f11, f15] <;> rfl)) rfl ?_
        refine Wo.cl rfl rfl rfl (by first | rfl | (simp only [MS, Nat.reduceBEq, Nat.reduceBNe, Nat.reduceEqDiff, reduceIte, if_true, if_false, reduceCtorEq, Nat.reduceAdd, Nat.reduceMul, Nat.reduceLeDiff, Nat.reduceLT, Nat.reduceDiv, Nat.reduceSub, cval, cv, TS T, f2, f11, f15] <;> rfl)) (by first | rfl | (simp only [MS, Nat.reduceBEq, Nat.reduceBNe, Nat.reduceEqDiff, reduceIte, if_true, if_false, reduceCtorEq, Nat.reduceAdd, Nat.reduceMul, Nat.reduceLeDiff, Nat.reduceLT, Nat.reduceDiv, Nat.reduceSub, cval, cv, TS T, f2, f11, f15] <;> rfl)) (fun _ => rfl) ?_
        refine ⟨_, he', hcalle, Wo.nil (hn34 _ ?_)⟩
        have hOe := hOj.keep hKe (by omega) (fun b hb => by have := (hO17.gp b hb).2; omega)
        have hOD : (O.ns, O.ss) = (D.ns, D.ss) := by
          rw [hOf rfl, hDf rfl]
          have hsame : ∀ b t, G4 b = some t → t.reg = 1 → hj.get b = h16.get b := fun b t hb hr => by
            have h1 := (hT16.blk b t hb).1
            have h2 : b ≠ h6.n + 1 + 1 := fun e => by rw [e, hG4none _ (by omega) (by omega)] at hb; cases hb
            rw [hKj.same b (by omega) (by omega) (fun t' ht' => by rw [hb] at ht'; cases ht'; omega), hK17.same b h1 h2 (by simp)]
          have hcy : cellsOf hj h5.n = cellsOf h16 h5.n := by
            simp only [cellsOf]; rw [hsame _ _ hG4y rfl]
          rw [hcy]
          refine (flats_local (r := 1) (rm := true) hT16 hsame (by simp) S.ls _ _ fun j l v hl hv => ?_).symm
          exact (hT16.cells hG4y).2 j l v hl hv
        obtain ⟨hf', hcallf, xf⟩ := Y.same hOe.at_.v hDe.at_.v (congrArg Prod.fst hOD) (congrArg Prod.snd hOD) hOl hOss
        have hldO := hOe.ld T.t54 rfl rfl
        have hldD := hDe.ld T.t54 rfl rfl
        repeat refine Wc.assoc ?_
        refine Wc.seq fun K35 hn35 hx35 => ?_
        refine Wc.rg ?_
        refine Wo.val rfl (by simp only [MS, Nat.reduceBEq, Nat.reduceBNe, Nat.reduceEqDiff, reduceIte, if_true, if_false, reduceCtorEq, Nat.reduceAdd, Nat.reduceMul, Nat.reduceLeDiff, Nat.reduceLT, Nat.reduceDiv, Nat.reduceSub, partV, TS T, f14, f15, hldO, hldD] <;> rfl) rfl ?_
        refine Wo.val rfl (by simp only [MS, Nat.reduceBEq, Nat.reduceBNe, Nat.reduceEqDiff, reduceIte, if_true, if_false, reduceCtorEq, Nat.reduceAdd, Nat.reduceMul, Nat.reduceLeDiff, Nat.reduceLT, Nat.reduceDiv, Nat.reduceSub, partV, TS T, f14, f15, hldO, hldD] <;> rfl) rfl ?_
        refine Wo.cl rfl rfl rfl (by first | rfl | (simp only [MS, Nat.reduceBEq, Nat.reduceBNe, Nat.reduceEqDiff, reduceIte, if_true, if_false, reduceCtorEq, Nat.reduceAdd, Nat.reduceMul, Nat.reduceLeDiff, Nat.reduceLT, Nat.reduceDiv, Nat.reduceSub, cval, cv, TS T, f14, f15, hldO, hldD] <;> rfl)) (by first | rfl | (simp only [MS, Nat.reduceBEq, Nat.reduceBNe, Nat.reduceEqDiff, reduceIte, if_true, if_false, reduceCtorEq, Nat.reduceAdd, Nat.reduceMul, Nat.reduceLeDiff, Nat.reduceLT, Nat.reduceDiv, Nat.reduceSub, cval, cv, TS T, f14, f15, hldO, hldD] <;> rfl)) (fun _ => rfl) ?_
        refine ⟨_, hf', hcallf, ?_⟩
        refine Wo.val rfl (by simp only [MS, Nat.reduceBEq, Nat.reduceBNe, Nat.reduceEqDiff, reduceIte, if_true, if_false, reduceCtorEq, Nat.reduceAdd, Nat.reduceMul, Nat.reduceLeDiff, Nat.reduceLT, Nat.reduceDiv, Nat.reduceSub, unA, TS T] <;> rfl) rfl ?_
        refine Wo.nil ?_
        refine hn35 _ ?_
        refine Wc.cond (t := false) rfl (fun h => by cases h) fun _ => ?_
        refine Wc.skip (hx13 _ _ (by simp) (hn12 _ ?_))
        have hw := w64 (n := i) (by omega)
        refine Wc.rg ?_
        refine Wo.val rfl (by first | rfl | (simp only [MS, Nat.reduceBEq, Nat.reduceBNe, Nat.reduceEqDiff, reduceIte, if_true, if_false, reduceCtorEq, Nat.reduceAdd, Nat.reduceMul, Nat.reduceLeDiff, Nat.reduceLT, Nat.reduceDiv, Nat.reduceSub, TS T, f10, hw] <;> rfl)) rfl ?_
        refine Wo.val rfl (by simp only [MS, Nat.reduceBEq, Nat.reduceBNe, Nat.reduceEqDiff, reduceIte, if_true, if_false, reduceCtorEq, Nat.reduceAdd, Nat.reduceMul, Nat.reduceLeDiff, Nat.reduceLT, Nat.reduceDiv, Nat.reduceSub, binA, arithA, strA, isC, cval, cv, TS T, f10, hw] <;> rfl) rfl ?_
        refine Wo.val rfl (by first | rfl | (simp only [MS, Nat.reduceBEq, Nat.reduceBNe, Nat.reduceEqDiff, reduceIte, if_true, if_false, reduceCtorEq, Nat.reduceAdd, Nat.reduceMul, Nat.reduceLeDiff, Nat.reduceLT, Nat.reduceDiv, Nat.reduceSub, cval, cv, TS T, f10, hw] <;> rfl)) rfl ?_
        refine Wo.nil ?_
        have hxfn := xf.n
        refine hnL _ (k - 1) (by omega) ⟨i + 1, _, hf', rfl, by omega, ⟨by omega, fun b hb => ?_⟩, by simp [look, f1], by simp [look, f2], by simp [look, f3], by simp [look, f4], by simp [look]⟩
        have hbi : b < hi.n := by omega
        have hreg0 : ∀ t, G4 b = some t → t.reg = 0 := fun t ht => hlow b t hbi ht
        rw [xf.old b (by omega), hKe.same b (by omega) (by omega) (by simp), hKj.same b (by omega) (by omega) (fun t ht => by rw [hreg0 t ht]; omega), hK17.same b (by omega) (by omega) (by simp), x136.old b (by omega),
          hK1013.same b (by omega) (by omega) (fun t ht => by rw [hreg0 t ht]; omega), hK10.same b (by omega) (by omega) (by simp), x9.old b (by omega), hsame8 b (by omega) (by omega), x67.old b (by omega), x56.old b (by omega), x5.old b hbi, xi.old b hb]
    have m1 : h6.n ≠ h6.n + 1 := by omega
    have m2 : h6.n ≠ h6.n + 1 + 1 := by omega
    have m3 : h6.n ≠ h6.n + 1 + 1 + 1 := by omega
    have m4 : h6.n + 1 ≠ h6.n + 1 + 1 := by omega
    have m5 : h6.n + 1 ≠ h6.n + 1 + 1 + 1 := by omega
    have m6 : h6.n + 1 + 1 ≠ h6.n + 1 + 1 + 1 := by omega
    have hBr := B.r
    refine Wc.rg ?_
    refine Wo.val rfl (by simp only [MS, Nat.reduceBEq, Nat.reduceBNe, Nat.reduceEqDiff, reduceIte, if_true, if_false, reduceCtorEq, Nat.reduceAdd, Nat.reduceMul, Nat.reduceLeDiff, Nat.reduceLT, Nat.reduceDiv, Nat.reduceSub, partsA, cval, cv, TS T, hBr, m1, m2, m3, m4, m5, m6, m1.symm, m2.symm, m3.symm, m4.symm, m5.symm, m6.symm, and_self, true_and] <;> rfl) rfl ?_
    refine Wo.val rfl (by simp only [MS, Nat.reduceBEq, Nat.reduceBNe, Nat.reduceEqDiff, reduceIte, if_true, if_false, reduceCtorEq, Nat.reduceAdd, Nat.reduceMul, Nat.reduceLeDiff, Nat.reduceLT, Nat.reduceDiv, Nat.reduceSub, partsA, cval, cv, TS T, hBr, m1, m2, m3, m4, m5, m6, m1.symm, m2.symm, m3.symm, m4.symm, m5.symm, m6.symm, and_self, true_and] <;> rfl) rfl ?_
    refine Wo.val rfl (by simp only [MS, Nat.reduceBEq, Nat.reduceBNe, Nat.reduceEqDiff, reduceIte, if_true, if_false, reduceCtorEq, Nat.reduceAdd, Nat.reduceMul, Nat.reduceLeDiff, Nat.reduceLT, Nat.reduceDiv, Nat.reduceSub, partsA, cval, cv, TS T, hBr, m1, m2, m3, m4, m5, m6, m1.symm, m2.symm, m3.symm, m4.symm, m5.symm, m6.symm, and_self, true_and] <;> rfl) rfl ?_
    refine Wo.val rfl (by simp only [MS, Nat.reduceBEq, Nat.reduceBNe, Nat.reduceEqDiff, reduceIte, if_true, if_false, reduceCtorEq, Nat.reduceAdd, Nat.reduceMul, Nat.reduceLeDiff, Nat.reduceLT, Nat.reduceDiv, Nat.reduceSub, partsA, cval, cv, TS T, hBr, m1, m2, m3, m4, m5, m6, m1.symm, m2.symm, m3.symm, m4.symm, m5.symm, m6.symm, and_self, true_and] <;> rfl) rfl ?_
    refine Wo.val rfl (by simp only [MS, Nat.reduceBEq, Nat.reduceBNe, Nat.reduceEqDiff, reduceIte, if_true, if_false, reduceCtorEq, Nat.reduceAdd, Nat.reduceMul, Nat.reduceLeDiff, Nat.reduceLT, Nat.reduceDiv, Nat.reduceSub, TI.zero, TS T, hBr, m1, m2, m3, m4, m5, m6, m1.symm, m2.symm, m3.symm, m4.symm, m5.symm, m6.symm, and_self, true_and] <;> rfl) rfl ?_
    refine Wo.val rfl (by simp only [MS, Nat.reduceBEq, Nat.reduceBNe, Nat.reduceEqDiff, reduceIte, if_true, if_false, reduceCtorEq, Nat.reduceAdd, Nat.reduceMul, Nat.reduceLeDiff, Nat.reduceLT, Nat.reduceDiv, Nat.reduceSub, TI.zero, TS T, hBr, m1, m2, m3, m4, m5, m6, m1.symm, m2.symm, m3.symm, m4.symm, m5.symm, m6.symm, and_self, true_and] <;> rfl) rfl ?_
    refine Wo.val rfl (by simp only [MS, Nat.reduceBEq, Nat.reduceBNe, Nat.reduceEqDiff, reduceIte, if_true, if_false, reduceCtorEq, Nat.reduceAdd, Nat.reduceMul, Nat.reduceLeDiff, Nat.reduceLT, Nat.reduceDiv, Nat.reduceSub, TI.zero, TS T, hBr, m1, m2, m3, m4, m5, m6, m1.symm, m2.symm, m3.symm, m4.symm, m5.symm, m6.symm, and_self, true_and] <;> rfl) rfl ?_
    refine Wo.val rfl (by simp only [MS, Nat.reduceBEq, Nat.reduceBNe, Nat.reduceEqDiff, reduceIte, if_true, if_false, reduceCtorEq, Nat.reduceAdd, Nat.reduceMul, Nat.reduceLeDiff, Nat.reduceLT, Nat.reduceDiv, Nat.reduceSub, TI.zero, TS T, hBr, m1, m2, m3, m4, m5, m6, m1.symm, m2.symm, m3.symm, m4.symm, m5.symm, m6.symm, and_self, true_and] <;> rfl) rfl ?_
    refine Wo.val rfl (by simp only [MS, Nat.reduceBEq, Nat.reduceBNe, Nat.reduceEqDiff, reduceIte, if_true, if_false, reduceCtorEq, Nat.reduceAdd, Nat.reduceMul, Nat.reduceLeDiff, Nat.reduceLT, Nat.reduceDiv, Nat.reduceSub, storeA, setAll, TI.zero, cval, cv, TS T, hBr, m1, m2, m3, m4, m5, m6, m1.symm, m2.symm, m3.symm, m4.symm, m5.symm, m6.symm, and_self, true_and] <;> rfl) rfl ?_
    refine Wo.val rfl (by simp only [MS, Nat.reduceBEq, Nat.reduceBNe, Nat.reduceEqDiff, reduceIte, if_true, if_false, reduceCtorEq, Nat.reduceAdd, Nat.reduceMul, Nat.reduceLeDiff, Nat.reduceLT, Nat.reduceDiv, Nat.reduceSub, storeA, setAll, TI.zero, cval, cv, TS T, hBr, m1, m2, m3, m4, m5, m6, m1.symm, m2.symm, m3.symm, m4.symm, m5.symm, m6.symm, and_self, true_and] <;> rfl) rfl ?_
    refine Wo.val rfl (by simp only [MS, Nat.reduceBEq, Nat.reduceBNe, Nat.reduceEqDiff, reduceIte, if_true, if_false, reduceCtorEq, Nat.reduceAdd, Nat.reduceMul, Nat.reduceLeDiff, Nat.reduceLT, Nat.reduceDiv, Nat.reduceSub, storeA, setAll, TI.zero, cval, cv, TS T, hBr, m1, m2, m3, m4, m5, m6, m1.symm, m2.symm, m3.symm, m4.symm, m5.symm, m6.symm, and_self, true_and] <;> rfl) rfl ?_
    refine Wo.val rfl (by simp only [MS, Nat.reduceBEq, Nat.reduceBNe, Nat.reduceEqDiff, reduceIte, if_true, if_false, reduceCtorEq, Nat.reduceAdd, Nat.reduceMul, Nat.reduceLeDiff, Nat.reduceLT, Nat.reduceDiv, Nat.reduceSub, storeA, setAll, TI.zero, cval, cv, TS T, hBr, m1, m2, m3, m4, m5, m6, m1.symm, m2.symm, m3.symm, m4.symm, m5.symm, m6.symm, and_self, true_and] <;> rfl) rfl ?_
    refine Wo.nil ?_
    refine key _ _ ?_ ?_ ?_ ?_ ?_ ?_ ?_ ?_ ?_ ?_ ?_ ?_ ?_ ?_ ?_ ?_
    · refine ⟨by simp; omega, fun b hb => ?_⟩
      rw [Hp.get_set_ne _ _ (by omega), Hp.get_set_ne _ _ (by omega), Hp.get_set_ne _ _ (by omega), Hp.get_set_ne _ _ (by omega), Hp.get_push_ne _ _ (by simp; omega), Hp.get_push_ne _ _ (by simp; omega), Hp.get_push_ne _ _ (by simp; omega), Hp.get_push_ne _ _ (by omega)]
    all_goals first | (simp [look, f1, f2, f3, f4, f10]; done) | (simp [Hp.get_set, Hp.get_push]; done) | (simp [Hp.get_set, Hp.get_push]; omega)
  · refine Wc.exit (hx11 _ _ (by simp) (hxL _ _ (by simp) (hb9 _ (hn8 _ ?_))))
    refine Wc.seq fun K17 hn17 hx17 => ?_
    refine Wc.rg ?_
    refine Wo.val rfl (by first | rfl | (simp only [MS, Nat.reduceBEq, Nat.reduceBNe, Nat.reduceEqDiff, reduceIte, if_true, if_false, reduceCtorEq, Nat.reduceAdd, Nat.reduceMul, Nat.reduceLeDiff, Nat.reduceLT, Nat.reduceDiv, Nat.reduceSub, cval, cv, TS T] <;> rfl)) rfl ?_
    refine Wo.nil ?_
    exact hn17 _ (Wc.ret (hr0 _ _ [.b true] rfl ⟨rfl, x04.trans xi⟩))
end Go.Mx
