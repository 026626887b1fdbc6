/- The layer and the calls. -/
import Derived.Test.YtlealajlicgddaaGreatDoorKj
set_option linter.all false
/- The seat's layer. -/
namespace Go.Mx
open Go.Proofs
set_option maxRecDepth 100000
set_option maxHeartbeats 2000000

theorem S.nt {tb} (T : S.Ty tb) : NumT tb 22 3 := ⟨⟨_, T.t22, rfl⟩, ⟨_, T.t3, rfl, rfl⟩⟩
theorem S.rt {tb} (T : S.Ty tb) : RowT tb 22 [.int .i64] := ⟨⟨_, _, _, T.t22, rfl, T.t3, rfl⟩, by simp⟩

theorem S.f8_ok {tb fc} (T : S.Ty tb) {call call' : Caller} {lf : Nat} (hlf : 2000000000000 ≤ lf) (hc : ∀ args h, call' (.fn 8) args h = runF tb fc call lf Tryz.f8 args h) {h : Hp} {v : V} {n : Nat} (hL : IL tb 22 3 h v n) :
    ∃ e : Int, call' (.fn 8) [v] h = some (.ret (.i .i64 e), h) ∧ (e = 0 → 0 < n ∧ n ≤ 4000) := by
  suffices H : Wf tb fc call lf Tryz.f8 [v] h (fun w h' => ∃ e : Int, w = .i .i64 e ∧ h' = h ∧ (e = 0 → 0 < n ∧ n ≤ 4000)) by
    obtain ⟨w, h', h1, e, rfl, rfl, h2⟩ := H
    exact ⟨e, by rw [hc]; exact h1, h2⟩
  have hln := hL.len
  refine Wf.intro (sz := 32) rfl rfl fun K hn0 hr0 => ?_
  repeat refine Wc.assoc ?_
  refine Wc.seq fun K1 hn1 hx1 => ?_
  refine Wc.rg ?_
  refine Wo.val rfl (by first | rfl | (simp only [MS, Nat.reduceBEq, Nat.reduceBNe, Nat.reduceEqDiff, reduceIte, if_true, if_false, reduceCtorEq, Nat.reduceAdd, Nat.reduceMul, Nat.reduceLeDiff, Nat.reduceLT, Nat.reduceDiv, Nat.reduceSub, cval, cv, TS T] <;> rfl)) rfl ?_
  refine Wo.nil ?_
  refine hn1 _ ?_
  repeat refine Wc.assoc ?_
  refine Wc.seq fun K2 hn2 hx2 => ?_
  have bad : ∀ fr, look fr 13 = some (.b true) → K2 .normal ⟨fr, [], h⟩ := by
    intro fr f13
    refine hn2 _ ?_
    repeat refine Wc.assoc ?_
    refine Wc.seq fun K3 hn3 hx3 => ?_
    refine Wc.cond (t := true) f13 (fun _ => ?_) (fun h => by cases h)
    refine Wc.seq fun K4 hn4 hx4 => ?_
    refine Wc.rg ?_
    refine Wo.val rfl (by first | rfl | (simp only [MS, Nat.reduceBEq, Nat.reduceBNe, Nat.reduceEqDiff, reduceIte, if_true, if_false, reduceCtorEq, Nat.reduceAdd, Nat.reduceMul, Nat.reduceLeDiff, Nat.reduceLT, Nat.reduceDiv, Nat.reduceSub, cval, cv, TS T] <;> rfl)) rfl ?_
    refine Wo.nil ?_
    exact hn4 _ (Wc.ret (hx3 _ _ (by simp) (hr0 _ _ [_] rfl ⟨8, rfl, rfl, fun h => by cases h⟩)))
  by_cases hz : n = 0
  · have hz' : ((n : Int) == 0) = true := by simp [hz]
    refine Wc.rg ?_
    refine Wo.val rfl (by first | rfl | (simp only [MS, Nat.reduceBEq, Nat.reduceBNe, Nat.reduceEqDiff, reduceIte, if_true, if_false, reduceCtorEq, Nat.reduceAdd, Nat.reduceMul, Nat.reduceLeDiff, Nat.reduceLT, Nat.reduceDiv, Nat.reduceSub, TS T, hln, hz'] <;> rfl)) rfl ?_
    refine Wo.val rfl (by simp only [MS, Nat.reduceBEq, Nat.reduceBNe, Nat.reduceEqDiff, reduceIte, if_true, if_false, reduceCtorEq, Nat.reduceAdd, Nat.reduceMul, Nat.reduceLeDiff, Nat.reduceLT, Nat.reduceDiv, Nat.reduceSub, cval, cv, TS T, hln, hz'] <;> rfl) rfl ?_
    refine Wo.val rfl (by simp only [MS, Nat.reduceBEq, Nat.reduceBNe, Nat.reduceEqDiff, reduceIte, if_true, if_false, reduceCtorEq, Nat.reduceAdd, Nat.reduceMul, Nat.reduceLeDiff, Nat.reduceLT, Nat.reduceDiv, Nat.reduceSub, binA, arithA, strA, isC, cval, cv, TS T, hln, hz'] <;> rfl) rfl ?_
    refine Wo.val rfl (by first | rfl | (simp only [MS, Nat.reduceBEq, Nat.reduceBNe, Nat.reduceEqDiff, reduceIte, if_true, if_false, reduceCtorEq, Nat.reduceAdd, Nat.reduceMul, Nat.reduceLeDiff, Nat.reduceLT, Nat.reduceDiv, Nat.reduceSub, TS T, hln, hz'] <;> rfl)) rfl ?_
    refine Wo.skip (by first | rfl | (simp only [wantedA, wantedP, evR, List.contains, List.elem, MS, Nat.reduceBEq, Nat.reduceBNe, Nat.reduceEqDiff, reduceIte, if_true, if_false, reduceCtorEq, Nat.reduceAdd, Nat.reduceMul, Nat.reduceLeDiff, Nat.reduceLT, Nat.reduceDiv, Nat.reduceSub, hln, hz'] <;> rfl)) rfl ?_
    refine Wo.skip (by first | rfl | (simp only [wantedA, wantedP, evR, List.contains, List.elem, MS, Nat.reduceBEq, Nat.reduceBNe, Nat.reduceEqDiff, reduceIte, if_true, if_false, reduceCtorEq, Nat.reduceAdd, Nat.reduceMul, Nat.reduceLeDiff, Nat.reduceLT, Nat.reduceDiv, Nat.reduceSub, hln, hz'] <;> rfl)) rfl ?_
    refine Wo.skip (by first | rfl | (simp only [wantedA, wantedP, evR, List.contains, List.elem, MS, Nat.reduceBEq, Nat.reduceBNe, Nat.reduceEqDiff, reduceIte, if_true, if_false, reduceCtorEq, Nat.reduceAdd, Nat.reduceMul, Nat.reduceLeDiff, Nat.reduceLT, Nat.reduceDiv, Nat.reduceSub, hln, hz'] <;> rfl)) rfl ?_
    refine Wo.val rfl (by first | rfl | (simp only [MS, Nat.reduceBEq, Nat.reduceBNe, Nat.reduceEqDiff, reduceIte, if_true, if_false, reduceCtorEq, Nat.reduceAdd, Nat.reduceMul, Nat.reduceLeDiff, Nat.reduceLT, Nat.reduceDiv, Nat.reduceSub, cval, cv, TS T, hln, hz'] <;> rfl)) rfl ?_
    refine Wo.nil ?_
    exact bad _ rfl
  · have hz' : ((n : Int) == 0) = false := by simp [hz]
    by_cases hbig : 4000 < (n : Int)
    · refine Wc.rg ?_
      refine Wo.val rfl (by first | rfl | (simp only [MS, Nat.reduceBEq, Nat.reduceBNe, Nat.reduceEqDiff, reduceIte, if_true, if_false, reduceCtorEq, Nat.reduceAdd, Nat.reduceMul, Nat.reduceLeDiff, Nat.reduceLT, Nat.reduceDiv, Nat.reduceSub, TS T, hln, hz', hbig] <;> rfl)) rfl ?_
      refine Wo.val rfl (by simp only [MS, Nat.reduceBEq, Nat.reduceBNe, Nat.reduceEqDiff, reduceIte, if_true, if_false, reduceCtorEq, Nat.reduceAdd, Nat.reduceMul, Nat.reduceLeDiff, Nat.reduceLT, Nat.reduceDiv, Nat.reduceSub, cval, cv, TS T, hln, hz', hbig] <;> rfl) rfl ?_
      refine Wo.val rfl (by simp only [MS, Nat.reduceBEq, Nat.reduceBNe, Nat.reduceEqDiff, reduceIte, if_true, if_false, reduceCtorEq, Nat.reduceAdd, Nat.reduceMul, Nat.reduceLeDiff, Nat.reduceLT, Nat.reduceDiv, Nat.reduceSub, binA, arithA, strA, isC, cval, cv, TS T, hln, hz', hbig] <;> rfl) rfl ?_
      refine Wo.val rfl (by first | rfl | (simp only [MS, Nat.reduceBEq, Nat.reduceBNe, Nat.reduceEqDiff, reduceIte, if_true, if_false, reduceCtorEq, Nat.reduceAdd, Nat.reduceMul, Nat.reduceLeDiff, Nat.reduceLT, Nat.reduceDiv, Nat.reduceSub, TS T, hln, hz', hbig] <;> rfl)) rfl ?_
      refine Wo.val (by first | rfl | (simp only [wantedA, wantedP, evR, List.contains, List.elem, MS, Nat.reduceBEq, Nat.reduceBNe, Nat.reduceEqDiff, reduceIte, if_true, if_false, reduceCtorEq, Nat.reduceAdd, Nat.reduceMul, Nat.reduceLeDiff, Nat.reduceLT, Nat.reduceDiv, Nat.reduceSub, hln, hz', hbig] <;> rfl)) (by first | rfl | (simp only [MS, Nat.reduceBEq, Nat.reduceBNe, Nat.reduceEqDiff, reduceIte, if_true, if_false, reduceCtorEq, Nat.reduceAdd, Nat.reduceMul, Nat.reduceLeDiff, Nat.reduceLT, Nat.reduceDiv, Nat.reduceSub, TS T, hln, hz', hbig] <;> rfl)) rfl ?_
      refine Wo.val (by first | rfl | (simp only [wantedA, wantedP, evR, List.contains, List.elem, MS, Nat.reduceBEq, Nat.reduceBNe, Nat.reduceEqDiff, reduceIte, if_true, if_false, reduceCtorEq, Nat.reduceAdd, Nat.reduceMul, Nat.reduceLeDiff, Nat.reduceLT, Nat.reduceDiv, Nat.reduceSub, hln, hz', hbig] <;> rfl)) (by simp only [MS, Nat.reduceBEq, Nat.reduceBNe, Nat.reduceEqDiff, reduceIte, if_true, if_false, reduceCtorEq, Nat.reduceAdd, Nat.reduceMul, Nat.reduceLeDiff, Nat.reduceLT, Nat.reduceDiv, Nat.reduceSub, cval, cv, TS T, hln, hz', hbig] <;> rfl) rfl ?_
      refine Wo.val (by first | rfl | (simp only [wantedA, wantedP, evR, List.contains, List.elem, MS, Nat.reduceBEq, Nat.reduceBNe, Nat.reduceEqDiff, reduceIte, if_true, if_false, reduceCtorEq, Nat.reduceAdd, Nat.reduceMul, Nat.reduceLeDiff, Nat.reduceLT, Nat.reduceDiv, Nat.reduceSub, hln, hz', hbig] <;> rfl)) (by simp only [MS, Nat.reduceBEq, Nat.reduceBNe, Nat.reduceEqDiff, reduceIte, if_true, if_false, reduceCtorEq, Nat.reduceAdd, Nat.reduceMul, Nat.reduceLeDiff, Nat.reduceLT, Nat.reduceDiv, Nat.reduceSub, binA, arithA, strA, isC, cval, cv, TS T, hln, hz', hbig] <;> rfl) rfl ?_
      refine Wo.val rfl (by first | rfl | (simp only [MS, Nat.reduceBEq, Nat.reduceBNe, Nat.reduceEqDiff, reduceIte, if_true, if_false, reduceCtorEq, Nat.reduceAdd, Nat.reduceMul, Nat.reduceLeDiff, Nat.reduceLT, Nat.reduceDiv, Nat.reduceSub, cval, cv, TS T, hln, hz', hbig] <;> rfl)) rfl ?_
      refine Wo.nil ?_
      exact bad _ rfl
    · refine Wc.rg ?_
      refine Wo.val rfl (by first | rfl | (simp only [MS, Nat.reduceBEq, Nat.reduceBNe, Nat.reduceEqDiff, reduceIte, if_true, if_false, reduceCtorEq, Nat.reduceAdd, Nat.reduceMul, Nat.reduceLeDiff, Nat.reduceLT, Nat.reduceDiv, Nat.reduceSub, TS T, hln, hz', hbig] <;> rfl)) rfl ?_
      refine Wo.val rfl (by simp only [MS, Nat.reduceBEq, Nat.reduceBNe, Nat.reduceEqDiff, reduceIte, if_true, if_false, reduceCtorEq, Nat.reduceAdd, Nat.reduceMul, Nat.reduceLeDiff, Nat.reduceLT, Nat.reduceDiv, Nat.reduceSub, cval, cv, TS T, hln, hz', hbig] <;> rfl) rfl ?_
      refine Wo.val rfl (by simp only [MS, Nat.reduceBEq, Nat.reduceBNe, Nat.reduceEqDiff, reduceIte, if_true, if_false, reduceCtorEq, Nat.reduceAdd, Nat.reduceMul, Nat.reduceLeDiff, Nat.reduceLT, Nat.reduceDiv, Nat.reduceSub, binA, arithA, strA, isC, cval, cv, TS T, hln, hz', hbig] <;> rfl) rfl ?_
      refine Wo.val rfl (by first | rfl | (simp only [MS, Nat.reduceBEq, Nat.reduceBNe, Nat.reduceEqDiff, reduceIte, if_true, if_false, reduceCtorEq, Nat.reduceAdd, Nat.reduceMul, Nat.reduceLeDiff, Nat.reduceLT, Nat.reduceDiv, Nat.reduceSub, TS T, hln, hz', hbig] <;> rfl)) rfl ?_
      refine Wo.val (by first | rfl | (simp only [wantedA, wantedP, evR, List.contains, List.elem, MS, Nat.reduceBEq, Nat.reduceBNe, Nat.reduceEqDiff, reduceIte, if_true, if_false, reduceCtorEq, Nat.reduceAdd, Nat.reduceMul, Nat.reduceLeDiff, Nat.reduceLT, Nat.reduceDiv, Nat.reduceSub, hln, hz', hbig] <;> rfl)) (by first | rfl | (simp only [MS, Nat.reduceBEq, Nat.reduceBNe, Nat.reduceEqDiff, reduceIte, if_true, if_false, reduceCtorEq, Nat.reduceAdd, Nat.reduceMul, Nat.reduceLeDiff, Nat.reduceLT, Nat.reduceDiv, Nat.reduceSub, TS T, hln, hz', hbig] <;> rfl)) rfl ?_
      refine Wo.val (by first | rfl | (simp only [wantedA, wantedP, evR, List.contains, List.elem, MS, Nat.reduceBEq, Nat.reduceBNe, Nat.reduceEqDiff, reduceIte, if_true, if_false, reduceCtorEq, Nat.reduceAdd, Nat.reduceMul, Nat.reduceLeDiff, Nat.reduceLT, Nat.reduceDiv, Nat.reduceSub, hln, hz', hbig] <;> rfl)) (by simp only [MS, Nat.reduceBEq, Nat.reduceBNe, Nat.reduceEqDiff, reduceIte, if_true, if_false, reduceCtorEq, Nat.reduceAdd, Nat.reduceMul, Nat.reduceLeDiff, Nat.reduceLT, Nat.reduceDiv, Nat.reduceSub, cval, cv, TS T, hln, hz', hbig] <;> rfl) rfl ?_
      refine Wo.val (by first | rfl | (simp only [wantedA, wantedP, evR, List.contains, List.elem, MS, Nat.reduceBEq, Nat.reduceBNe, Nat.reduceEqDiff, reduceIte, if_true, if_false, reduceCtorEq, Nat.reduceAdd, Nat.reduceMul, Nat.reduceLeDiff, Nat.reduceLT, Nat.reduceDiv, Nat.reduceSub, hln, hz', hbig] <;> rfl)) (by simp only [MS, Nat.reduceBEq, Nat.reduceBNe, Nat.reduceEqDiff, reduceIte, if_true, if_false, reduceCtorEq, Nat.reduceAdd, Nat.reduceMul, Nat.reduceLeDiff, Nat.reduceLT, Nat.reduceDiv, Nat.reduceSub, binA, arithA, strA, isC, cval, cv, TS T, hln, hz', hbig] <;> rfl) rfl ?_
      refine Wo.val rfl (by first | rfl | (simp only [MS, Nat.reduceBEq, Nat.reduceBNe, Nat.reduceEqDiff, reduceIte, if_true, if_false, reduceCtorEq, Nat.reduceAdd, Nat.reduceMul, Nat.reduceLeDiff, Nat.reduceLT, Nat.reduceDiv, Nat.reduceSub, cval, cv, TS T, hln, hz', hbig] <;> rfl)) rfl ?_
      refine Wo.nil ?_
      refine hn2 _ ?_
      repeat refine Wc.assoc ?_
      refine Wc.seq fun K3 hn3 hx3 => ?_
      refine Wc.cond (t := false) rfl (fun h => by cases h) fun _ => ?_
      refine Wc.skip (hn3 _ ?_)
      repeat refine Wc.assoc ?_
      refine Wc.seq fun K4 hn4 hx4 => ?_
      refine Wc.rg ?_
      refine Wo.val rfl (by first | rfl | (simp only [MS, Nat.reduceBEq, Nat.reduceBNe, Nat.reduceEqDiff, reduceIte, if_true, if_false, reduceCtorEq, Nat.reduceAdd, Nat.reduceMul, Nat.reduceLeDiff, Nat.reduceLT, Nat.reduceDiv, Nat.reduceSub, cval, cv, TS T] <;> rfl)) rfl ?_
      refine Wo.nil ?_
      refine hn4 _ ?_
      repeat refine Wc.assoc ?_
      refine Wc.seq fun K5 hn5 hx5 => ?_
      refine Wc.rg ?_
      refine Wo.val rfl (by first | rfl | (simp only [MS, Nat.reduceBEq, Nat.reduceBNe, Nat.reduceEqDiff, reduceIte, if_true, if_false, reduceCtorEq, Nat.reduceAdd, Nat.reduceMul, Nat.reduceLeDiff, Nat.reduceLT, Nat.reduceDiv, Nat.reduceSub, TS T, hln] <;> rfl)) rfl ?_
      refine Wo.val rfl (by simp only [MS, Nat.reduceBEq, Nat.reduceBNe, Nat.reduceEqDiff, reduceIte, if_true, if_false, reduceCtorEq, Nat.reduceAdd, Nat.reduceMul, Nat.reduceLeDiff, Nat.reduceLT, Nat.reduceDiv, Nat.reduceSub, cval, cv, TS T, hln] <;> rfl) rfl ?_
      refine Wo.val rfl (by first | rfl | (simp only [MS, Nat.reduceBEq, Nat.reduceBNe, Nat.reduceEqDiff, reduceIte, if_true, if_false, reduceCtorEq, Nat.reduceAdd, Nat.reduceMul, Nat.reduceLeDiff, Nat.reduceLT, Nat.reduceDiv, Nat.reduceSub, TS T, hln] <;> rfl)) rfl ?_
      refine Wo.nil ?_
      refine hn5 _ ?_
      repeat refine Wc.assoc ?_
      refine Wc.seq fun KS hnS hxS => ?_
      refine Wc.block fun KB hbB hxB => ?_
      refine Wc.loop (fun k s => ∃ (i : Nat) (fr : List (Nat × V)) (x : Int), s = ⟨fr, [], h⟩ ∧ i + k = n ∧ look fr 3 = some (.i .i64 x) ∧ look fr 14 = some v ∧ look fr 15 = some (.i .i64 (n : Nat)) ∧ look fr 16 = some (.i .i64 (i : Nat))) n (by omega) ⟨0, _, 0, rfl, by omega, rfl, rfl, rfl, rfl⟩ ?_
      rintro k _ ⟨i, fr, x, rfl, hik, f3, f14, f15, f16⟩ KL hnL hxL
      repeat refine Wc.assoc ?_
      refine Wc.seq fun K7 hn7 hx7 => ?_
      refine Wc.rg ?_
      refine Wo.val rfl (by simp only [MS, Nat.reduceBEq, Nat.reduceBNe, Nat.reduceEqDiff, reduceIte, if_true, if_false, reduceCtorEq, Nat.reduceAdd, Nat.reduceMul, Nat.reduceLeDiff, Nat.reduceLT, Nat.reduceDiv, Nat.reduceSub, binA, arithA, strA, isC, cval, cv, TS T, f15, f16] <;> rfl) rfl ?_
      refine Wo.nil ?_
      refine hn7 _ ?_
      refine Wc.seq fun K8 hn8 hx8 => ?_
      refine Wc.cond (t := decide ((i : Int) < (n : Int))) rfl (fun hd => ?_) fun hd => ?_
      · refine Wc.skip (hn8 _ ?_)
        have hi : i < n := by have := of_decide_eq_true hd; omega
        obtain ⟨b, o, y, hia, hld, _⟩ := hL.at_ h (Ext.refl h) i hi
        refine Wc.seq fun K9 hn9 hx9 => ?_
        refine Wc.block fun K10 hb10 hx10 => ?_
        repeat refine Wc.assoc ?_
        refine Wc.seq fun K11 hn11 hx11 => ?_
        refine Wc.rg ?_
        refine Wo.val rfl (by simp only [MS, Nat.reduceBEq, Nat.reduceBNe, Nat.reduceEqDiff, reduceIte, if_true, if_false, reduceCtorEq, Nat.reduceAdd, Nat.reduceMul, Nat.reduceLeDiff, Nat.reduceLT, Nat.reduceDiv, Nat.reduceSub, cval, cv, TS T, f14, f16, hia, hld] <;> rfl) rfl ?_
        refine Wo.val rfl (by simp only [MS, Nat.reduceBEq, Nat.reduceBNe, Nat.reduceEqDiff, reduceIte, if_true, if_false, reduceCtorEq, Nat.reduceAdd, Nat.reduceMul, Nat.reduceLeDiff, Nat.reduceLT, Nat.reduceDiv, Nat.reduceSub, partV, TS T, f14, f16, hia, hld] <;> rfl) rfl ?_
        refine Wo.val rfl (by first | rfl | (simp only [MS, Nat.reduceBEq, Nat.reduceBNe, Nat.reduceEqDiff, reduceIte, if_true, if_false, reduceCtorEq, Nat.reduceAdd, Nat.reduceMul, Nat.reduceLeDiff, Nat.reduceLT, Nat.reduceDiv, Nat.reduceSub, cval, cv, TS T, f14, f16, hia, hld] <;> rfl)) rfl ?_
        refine Wo.nil ?_
        refine hn11 _ ?_
        repeat refine Wc.assoc ?_
        refine Wc.seq fun K12 hn12 hx12 => ?_
        have bad2 : ∀ fr, look fr 27 = some (.b true) → K12 .normal ⟨fr, [], h⟩ := by
          intro fr f27
          refine hn12 _ ?_
          repeat refine Wc.assoc ?_
          refine Wc.seq fun K13 hn13 hx13 => ?_
          refine Wc.cond (t := true) f27 (fun _ => ?_) (fun h => by cases h)
          refine Wc.seq fun K14 hn14 hx14 => ?_
          refine Wc.rg ?_
          refine Wo.val rfl (by first | rfl | (simp only [MS, Nat.reduceBEq, Nat.reduceBNe, Nat.reduceEqDiff, reduceIte, if_true, if_false, reduceCtorEq, Nat.reduceAdd, Nat.reduceMul, Nat.reduceLeDiff, Nat.reduceLT, Nat.reduceDiv, Nat.reduceSub, cval, cv, TS T] <;> rfl)) rfl ?_
          refine Wo.nil ?_
          exact hn14 _ (Wc.ret (hx13 _ _ (by simp) (hx10 _ _ (by simp) (hx9 _ _ (by simp) (hxL _ _ (by simp) (hxB _ _ (by simp) (hxS _ _ (by simp) (hr0 _ _ [_] rfl ⟨8, rfl, rfl, fun h => by cases h⟩))))))))
        by_cases hy : y < 0
        · refine Wc.rg ?_
          refine Wo.val rfl (by first | rfl | (simp only [MS, Nat.reduceBEq, Nat.reduceBNe, Nat.reduceEqDiff, reduceIte, if_true, if_false, reduceCtorEq, Nat.reduceAdd, Nat.reduceMul, Nat.reduceLeDiff, Nat.reduceLT, Nat.reduceDiv, Nat.reduceSub, TS T, f3, hy] <;> rfl)) rfl ?_
          refine Wo.val rfl (by simp only [MS, Nat.reduceBEq, Nat.reduceBNe, Nat.reduceEqDiff, reduceIte, if_true, if_false, reduceCtorEq, Nat.reduceAdd, Nat.reduceMul, Nat.reduceLeDiff, Nat.reduceLT, Nat.reduceDiv, Nat.reduceSub, binA, arithA, strA, isC, cval, cv, TS T, f3, hy] <;> rfl) rfl ?_
          refine Wo.val rfl (by first | rfl | (simp only [MS, Nat.reduceBEq, Nat.reduceBNe, Nat.reduceEqDiff, reduceIte, if_true, if_false, reduceCtorEq, Nat.reduceAdd, Nat.reduceMul, Nat.reduceLeDiff, Nat.reduceLT, Nat.reduceDiv, Nat.reduceSub, TS T, f3, hy] <;> rfl)) rfl ?_
          refine Wo.skip (by first | rfl | (simp only [wantedA, wantedP, evR, List.contains, List.elem, MS, Nat.reduceBEq, Nat.reduceBNe, Nat.reduceEqDiff, reduceIte, if_true, if_false, reduceCtorEq, Nat.reduceAdd, Nat.reduceMul, Nat.reduceLeDiff, Nat.reduceLT, Nat.reduceDiv, Nat.reduceSub, f3, hy] <;> rfl)) rfl ?_
          refine Wo.skip (by first | rfl | (simp only [wantedA, wantedP, evR, List.contains, List.elem, MS, Nat.reduceBEq, Nat.reduceBNe, Nat.reduceEqDiff, reduceIte, if_true, if_false, reduceCtorEq, Nat.reduceAdd, Nat.reduceMul, Nat.reduceLeDiff, Nat.reduceLT, Nat.reduceDiv, Nat.reduceSub, f3, hy] <;> rfl)) rfl ?_
          refine Wo.skip (by first | rfl | (simp only [wantedA, wantedP, evR, List.contains, List.elem, MS, Nat.reduceBEq, Nat.reduceBNe, Nat.reduceEqDiff, reduceIte, if_true, if_false, reduceCtorEq, Nat.reduceAdd, Nat.reduceMul, Nat.reduceLeDiff, Nat.reduceLT, Nat.reduceDiv, Nat.reduceSub, f3, hy] <;> rfl)) rfl ?_
          refine Wo.skip (by first | rfl | (simp only [wantedA, wantedP, evR, List.contains, List.elem, MS, Nat.reduceBEq, Nat.reduceBNe, Nat.reduceEqDiff, reduceIte, if_true, if_false, reduceCtorEq, Nat.reduceAdd, Nat.reduceMul, Nat.reduceLeDiff, Nat.reduceLT, Nat.reduceDiv, Nat.reduceSub, f3, hy] <;> rfl)) rfl ?_
          refine Wo.val rfl (by first | rfl | (simp only [MS, Nat.reduceBEq, Nat.reduceBNe, Nat.reduceEqDiff, reduceIte, if_true, if_false, reduceCtorEq, Nat.reduceAdd, Nat.reduceMul, Nat.reduceLeDiff, Nat.reduceLT, Nat.reduceDiv, Nat.reduceSub, cval, cv, TS T, f3, hy] <;> rfl)) rfl ?_
          refine Wo.nil ?_
          exact bad2 _ rfl
        · by_cases hy2 : IntKind.i64.wrap (4000 - x) < y
          · refine Wc.rg ?_
            refine Wo.val rfl (by first | rfl | (simp only [MS, Nat.reduceBEq, Nat.reduceBNe, Nat.reduceEqDiff, reduceIte, if_true, if_false, reduceCtorEq, Nat.reduceAdd, Nat.reduceMul, Nat.reduceLeDiff, Nat.reduceLT, Nat.reduceDiv, Nat.reduceSub, TS T, f3, hy, hy2] <;> rfl)) rfl ?_
            refine Wo.val rfl (by simp only [MS, Nat.reduceBEq, Nat.reduceBNe, Nat.reduceEqDiff, reduceIte, if_true, if_false, reduceCtorEq, Nat.reduceAdd, Nat.reduceMul, Nat.reduceLeDiff, Nat.reduceLT, Nat.reduceDiv, Nat.reduceSub, binA, arithA, strA, isC, cval, cv, TS T, f3, hy, hy2] <;> rfl) rfl ?_
            refine Wo.val rfl (by first | rfl | (simp only [MS, Nat.reduceBEq, Nat.reduceBNe, Nat.reduceEqDiff, reduceIte, if_true, if_false, reduceCtorEq, Nat.reduceAdd, Nat.reduceMul, Nat.reduceLeDiff, Nat.reduceLT, Nat.reduceDiv, Nat.reduceSub, TS T, f3, hy, hy2] <;> rfl)) rfl ?_
            refine Wo.val (by first | rfl | (simp only [wantedA, wantedP, evR, List.contains, List.elem, MS, Nat.reduceBEq, Nat.reduceBNe, Nat.reduceEqDiff, reduceIte, if_true, if_false, reduceCtorEq, Nat.reduceAdd, Nat.reduceMul, Nat.reduceLeDiff, Nat.reduceLT, Nat.reduceDiv, Nat.reduceSub, f3, hy, hy2] <;> rfl)) (by first | rfl | (simp only [MS, Nat.reduceBEq, Nat.reduceBNe, Nat.reduceEqDiff, reduceIte, if_true, if_false, reduceCtorEq, Nat.reduceAdd, Nat.reduceMul, Nat.reduceLeDiff, Nat.reduceLT, Nat.reduceDiv, Nat.reduceSub, TS T, f3, hy, hy2] <;> rfl)) rfl ?_
            refine Wo.val (by first | rfl | (simp only [wantedA, wantedP, evR, List.contains, List.elem, MS, Nat.reduceBEq, Nat.reduceBNe, Nat.reduceEqDiff, reduceIte, if_true, if_false, reduceCtorEq, Nat.reduceAdd, Nat.reduceMul, Nat.reduceLeDiff, Nat.reduceLT, Nat.reduceDiv, Nat.reduceSub, f3, hy, hy2] <;> rfl)) (by first | rfl | (simp only [MS, Nat.reduceBEq, Nat.reduceBNe, Nat.reduceEqDiff, reduceIte, if_true, if_false, reduceCtorEq, Nat.reduceAdd, Nat.reduceMul, Nat.reduceLeDiff, Nat.reduceLT, Nat.reduceDiv, Nat.reduceSub, TS T, f3, hy, hy2] <;> rfl)) rfl ?_
            refine Wo.val (by first | rfl | (simp only [wantedA, wantedP, evR, List.contains, List.elem, MS, Nat.reduceBEq, Nat.reduceBNe, Nat.reduceEqDiff, reduceIte, if_true, if_false, reduceCtorEq, Nat.reduceAdd, Nat.reduceMul, Nat.reduceLeDiff, Nat.reduceLT, Nat.reduceDiv, Nat.reduceSub, f3, hy, hy2] <;> rfl)) (by simp only [MS, Nat.reduceBEq, Nat.reduceBNe, Nat.reduceEqDiff, reduceIte, if_true, if_false, reduceCtorEq, Nat.reduceAdd, Nat.reduceMul, Nat.reduceLeDiff, Nat.reduceLT, Nat.reduceDiv, Nat.reduceSub, binA, arithA, strA, isC, cval, cv, TS T, f3, hy, hy2] <;> rfl) rfl ?_
            refine Wo.val (by first | rfl | (simp only [wantedA, wantedP, evR, List.contains, List.elem, MS, Nat.reduceBEq, Nat.reduceBNe, Nat.reduceEqDiff, reduceIte, if_true, if_false, reduceCtorEq, Nat.reduceAdd, Nat.reduceMul, Nat.reduceLeDiff, Nat.reduceLT, Nat.reduceDiv, Nat.reduceSub, f3, hy, hy2] <;> rfl)) (by simp only [MS, Nat.reduceBEq, Nat.reduceBNe, Nat.reduceEqDiff, reduceIte, if_true, if_false, reduceCtorEq, Nat.reduceAdd, Nat.reduceMul, Nat.reduceLeDiff, Nat.reduceLT, Nat.reduceDiv, Nat.reduceSub, binA, arithA, strA, isC, cval, cv, TS T, f3, hy, hy2] <;> rfl) rfl ?_
            refine Wo.val rfl (by first | rfl | (simp only [MS, Nat.reduceBEq, Nat.reduceBNe, Nat.reduceEqDiff, reduceIte, if_true, if_false, reduceCtorEq, Nat.reduceAdd, Nat.reduceMul, Nat.reduceLeDiff, Nat.reduceLT, Nat.reduceDiv, Nat.reduceSub, cval, cv, TS T, f3, hy, hy2] <;> rfl)) rfl ?_
            refine Wo.nil ?_
            exact bad2 _ rfl
          · refine Wc.rg ?_
            refine Wo.val rfl (by first | rfl | (simp only [MS, Nat.reduceBEq, Nat.reduceBNe, Nat.reduceEqDiff, reduceIte, if_true, if_false, reduceCtorEq, Nat.reduceAdd, Nat.reduceMul, Nat.reduceLeDiff, Nat.reduceLT, Nat.reduceDiv, Nat.reduceSub, TS T, f3, hy, hy2] <;> rfl)) rfl ?_
            refine Wo.val rfl (by simp only [MS, Nat.reduceBEq, Nat.reduceBNe, Nat.reduceEqDiff, reduceIte, if_true, if_false, reduceCtorEq, Nat.reduceAdd, Nat.reduceMul, Nat.reduceLeDiff, Nat.reduceLT, Nat.reduceDiv, Nat.reduceSub, binA, arithA, strA, isC, cval, cv, TS T, f3, hy, hy2] <;> rfl) rfl ?_
            refine Wo.val rfl (by first | rfl | (simp only [MS, Nat.reduceBEq, Nat.reduceBNe, Nat.reduceEqDiff, reduceIte, if_true, if_false, reduceCtorEq, Nat.reduceAdd, Nat.reduceMul, Nat.reduceLeDiff, Nat.reduceLT, Nat.reduceDiv, Nat.reduceSub, TS T, f3, hy, hy2] <;> rfl)) rfl ?_
            refine Wo.val (by first | rfl | (simp only [wantedA, wantedP, evR, List.contains, List.elem, MS, Nat.reduceBEq, Nat.reduceBNe, Nat.reduceEqDiff, reduceIte, if_true, if_false, reduceCtorEq, Nat.reduceAdd, Nat.reduceMul, Nat.reduceLeDiff, Nat.reduceLT, Nat.reduceDiv, Nat.reduceSub, f3, hy, hy2] <;> rfl)) (by first | rfl | (simp only [MS, Nat.reduceBEq, Nat.reduceBNe, Nat.reduceEqDiff, reduceIte, if_true, if_false, reduceCtorEq, Nat.reduceAdd, Nat.reduceMul, Nat.reduceLeDiff, Nat.reduceLT, Nat.reduceDiv, Nat.reduceSub, TS T, f3, hy, hy2] <;> rfl)) rfl ?_
            refine Wo.val (by first | rfl | (simp only [wantedA, wantedP, evR, List.contains, List.elem, MS, Nat.reduceBEq, Nat.reduceBNe, Nat.reduceEqDiff, reduceIte, if_true, if_false, reduceCtorEq, Nat.reduceAdd, Nat.reduceMul, Nat.reduceLeDiff, Nat.reduceLT, Nat.reduceDiv, Nat.reduceSub, f3, hy, hy2] <;> rfl)) (by first | rfl | (simp only [MS, Nat.reduceBEq, Nat.reduceBNe, Nat.reduceEqDiff, reduceIte, if_true, if_false, reduceCtorEq, Nat.reduceAdd, Nat.reduceMul, Nat.reduceLeDiff, Nat.reduceLT, Nat.reduceDiv, Nat.reduceSub, TS T, f3, hy, hy2] <;> rfl)) rfl ?_
            refine Wo.val (by first | rfl | (simp only [wantedA, wantedP, evR, List.contains, List.elem, MS, Nat.reduceBEq, Nat.reduceBNe, Nat.reduceEqDiff, reduceIte, if_true, if_false, reduceCtorEq, Nat.reduceAdd, Nat.reduceMul, Nat.reduceLeDiff, Nat.reduceLT, Nat.reduceDiv, Nat.reduceSub, f3, hy, hy2] <;> rfl)) (by simp only [MS, Nat.reduceBEq, Nat.reduceBNe, Nat.reduceEqDiff, reduceIte, if_true, if_false, reduceCtorEq, Nat.reduceAdd, Nat.reduceMul, Nat.reduceLeDiff, Nat.reduceLT, Nat.reduceDiv, Nat.reduceSub, binA, arithA, strA, isC, cval, cv, TS T, f3, hy, hy2] <;> rfl) rfl ?_
            refine Wo.val (by first | rfl | (simp only [wantedA, wantedP, evR, List.contains, List.elem, MS, Nat.reduceBEq, Nat.reduceBNe, Nat.reduceEqDiff, reduceIte, if_true, if_false, reduceCtorEq, Nat.reduceAdd, Nat.reduceMul, Nat.reduceLeDiff, Nat.reduceLT, Nat.reduceDiv, Nat.reduceSub, f3, hy, hy2] <;> rfl)) (by simp only [MS, Nat.reduceBEq, Nat.reduceBNe, Nat.reduceEqDiff, reduceIte, if_true, if_false, reduceCtorEq, Nat.reduceAdd, Nat.reduceMul, Nat.reduceLeDiff, Nat.reduceLT, Nat.reduceDiv, Nat.reduceSub, binA, arithA, strA, isC, cval, cv, TS T, f3, hy, hy2] <;> rfl) rfl ?_
            refine Wo.val rfl (by first | rfl | (simp only [MS, Nat.reduceBEq, Nat.reduceBNe, Nat.reduceEqDiff, reduceIte, if_true, if_false, reduceCtorEq, Nat.reduceAdd, Nat.reduceMul, Nat.reduceLeDiff, Nat.reduceLT, Nat.reduceDiv, Nat.reduceSub, cval, cv, TS T, f3, hy, hy2] <;> rfl)) rfl ?_
            refine Wo.nil ?_
            refine hn12 _ ?_
            repeat refine Wc.assoc ?_
            refine Wc.seq fun K13 hn13 hx13 => ?_
            refine Wc.cond (t := false) rfl (fun h => by cases h) fun _ => ?_
            refine Wc.skip (hn13 _ ?_)
            refine Wc.rg ?_
            refine Wo.val rfl (by first | rfl | (simp only [MS, Nat.reduceBEq, Nat.reduceBNe, Nat.reduceEqDiff, reduceIte, if_true, if_false, reduceCtorEq, Nat.reduceAdd, Nat.reduceMul, Nat.reduceLeDiff, Nat.reduceLT, Nat.reduceDiv, Nat.reduceSub, TS T, f3] <;> rfl)) rfl ?_
            refine Wo.val rfl (by first | rfl | (simp only [MS, Nat.reduceBEq, Nat.reduceBNe, Nat.reduceEqDiff, reduceIte, if_true, if_false, reduceCtorEq, Nat.reduceAdd, Nat.reduceMul, Nat.reduceLeDiff, Nat.reduceLT, Nat.reduceDiv, Nat.reduceSub, TS T, f3] <;> rfl)) rfl ?_
            refine Wo.val rfl (by simp only [MS, Nat.reduceBEq, Nat.reduceBNe, Nat.reduceEqDiff, reduceIte, if_true, if_false, reduceCtorEq, Nat.reduceAdd, Nat.reduceMul, Nat.reduceLeDiff, Nat.reduceLT, Nat.reduceDiv, Nat.reduceSub, binA, arithA, strA, isC, cval, cv, TS T, f3] <;> rfl) rfl ?_
            refine Wo.val rfl (by first | rfl | (simp only [MS, Nat.reduceBEq, Nat.reduceBNe, Nat.reduceEqDiff, reduceIte, if_true, if_false, reduceCtorEq, Nat.reduceAdd, Nat.reduceMul, Nat.reduceLeDiff, Nat.reduceLT, Nat.reduceDiv, Nat.reduceSub, cval, cv, TS T, f3] <;> rfl)) rfl ?_
            refine Wo.nil ?_
            refine hx10 _ _ (by simp) (hn9 _ ?_)
            have hw := w64 (n := i) (by omega)
            refine Wc.rg ?_
            refine Wo.val rfl (by simp only [MS, Nat.reduceBEq, Nat.reduceBNe, Nat.reduceEqDiff, reduceIte, if_true, if_false, reduceCtorEq, Nat.reduceAdd, Nat.reduceMul, Nat.reduceLeDiff, Nat.reduceLT, Nat.reduceDiv, Nat.reduceSub, binA, arithA, strA, isC, cval, cv, TS T, f16, hw] <;> rfl) rfl ?_
            refine Wo.val rfl (by first | rfl | (simp only [MS, Nat.reduceBEq, Nat.reduceBNe, Nat.reduceEqDiff, reduceIte, if_true, if_false, reduceCtorEq, Nat.reduceAdd, Nat.reduceMul, Nat.reduceLeDiff, Nat.reduceLT, Nat.reduceDiv, Nat.reduceSub, TS T, f16, hw] <;> rfl)) rfl ?_
            refine Wo.nil ?_
            exact hnL _ (k - 1) (by omega) ⟨i + 1, _, _, rfl, by omega, rfl, by simp [look, f14], by simp [look, f15], rfl⟩
      · refine Wc.exit (hx8 _ _ (by simp) (hxL _ _ (by simp) (hbB _ (hnS _ ?_))))
        refine Wc.seq fun K9 hn9 hx9 => ?_
        refine Wc.rg ?_
        refine Wo.val rfl (by first | rfl | (simp only [MS, Nat.reduceBEq, Nat.reduceBNe, Nat.reduceEqDiff, reduceIte, if_true, if_false, reduceCtorEq, Nat.reduceAdd, Nat.reduceMul, Nat.reduceLeDiff, Nat.reduceLT, Nat.reduceDiv, Nat.reduceSub, cval, cv, TS T] <;> rfl)) rfl ?_
        refine Wo.nil ?_
        exact hn9 _ (Wc.ret (hr0 _ _ [_] rfl ⟨0, rfl, rfl, fun _ => by omega⟩))

/-- even: as many numbers as there are dents. -/
theorem S.f33_ok {tb fc} (T : S.Ty tb) {call call' : Caller} {lf : Nat} (hlf : 2000000000000 ≤ lf) (hc : ∀ args h, call' (.fn 33) args h = runF tb fc call lf Tryz.f33 args h) {h : Hp} (ends : Int) {d : Nat} (hd4 : d ≤ 4000) :
    ∃ (v : V) (h' : Hp), call' (.fn 33) [.i .i64 ends, .i .i64 d] h = some (.ret v, h') ∧ Ext h h' ∧ IntRes h h' v := by
  suffices H : Wf tb fc call lf Tryz.f33 [.i .i64 ends, .i .i64 d] h (fun w h' => Ext h h' ∧ IntRes h h' w) by
    obtain ⟨w, h', h1, h2⟩ := H
    exact ⟨w, h', by rw [hc]; exact h1, h2⟩
  refine Wf.intro (sz := 28) rfl rfl fun K hn0 hr0 => ?_
  repeat refine Wc.assoc ?_
  refine Wc.seq fun K1 hn1 hx1 => ?_
  refine Wc.rg ?_
  refine Wo.val rfl (by first | rfl | (simp only [MS, Nat.reduceBEq, Nat.reduceBNe, Nat.reduceEqDiff, reduceIte, if_true, if_false, reduceCtorEq, Nat.reduceAdd, Nat.reduceMul, Nat.reduceLeDiff, Nat.reduceLT, Nat.reduceDiv, Nat.reduceSub, cval, cv, TS T] <;> rfl)) rfl ?_
  refine Wo.nil ?_
  refine hn1 _ ?_
  repeat refine Wc.assoc ?_
  refine Wc.seq fun K2 hn2 hx2 => ?_
  refine Wc.rg ?_
  refine Wo.val rfl (by first | rfl | (simp only [MS, Nat.reduceBEq, Nat.reduceBNe, Nat.reduceEqDiff, reduceIte, if_true, if_false, reduceCtorEq, Nat.reduceAdd, Nat.reduceMul, Nat.reduceLeDiff, Nat.reduceLT, Nat.reduceDiv, Nat.reduceSub, cval, cv, TS T] <;> rfl)) rfl ?_
  refine Wo.nil ?_
  refine hn2 _ ?_
  repeat refine Wc.assoc ?_
  refine Wc.seq fun K3 hn3 hx3 => ?_
  refine Wc.rg ?_
  refine Wo.val rfl (by first | rfl | (simp only [MS, Nat.reduceBEq, Nat.reduceBNe, Nat.reduceEqDiff, reduceIte, if_true, if_false, reduceCtorEq, Nat.reduceAdd, Nat.reduceMul, Nat.reduceLeDiff, Nat.reduceLT, Nat.reduceDiv, Nat.reduceSub, TS T] <;> rfl)) rfl ?_
  refine Wo.val rfl (by first | rfl | (simp only [MS, Nat.reduceBEq, Nat.reduceBNe, Nat.reduceEqDiff, reduceIte, if_true, if_false, reduceCtorEq, Nat.reduceAdd, Nat.reduceMul, Nat.reduceLeDiff, Nat.reduceLT, Nat.reduceDiv, Nat.reduceSub, TS T] <;> rfl)) rfl ?_
  refine Wo.nil ?_
  refine hn3 _ ?_
  repeat refine Wc.assoc ?_
  refine Wc.seq fun KS hnS hxS => ?_
  refine Wc.block fun KB hbB hxB => ?_
  refine Wc.loop (fun k s => ∃ (i : Nat) (fr : List (Nat × V)) (hi : Hp) (v : V) (ns : List Int), s = ⟨fr, [], hi⟩ ∧ i + k = d ∧ Ext h hi ∧ SlAt 3 hi v (ns.map (V.i .i64)) ∧ (∀ b, blkOf v = some b → h.n ≤ b) ∧ ns.length = i ∧ (∀ n ∈ ns, IntKind.i64.wrap n = n) ∧
    look fr 0 = some (.i .i64 ends) ∧ look fr 1 = some (.i .i64 (d : Nat)) ∧ look fr 5 = some v ∧ look fr 7 = some (.i .i64 (d : Nat)) ∧ look fr 8 = some (.i .i64 (i : Nat))) d (by omega) ⟨0, _, h, .nils, [], rfl, by omega, Ext.refl h, .inl ⟨rfl, rfl⟩, (fun b hb => by simp [blkOf] at hb), rfl, (fun n hn => by simp at hn), rfl, rfl, rfl, rfl, rfl⟩ ?_
  rintro k _ ⟨i, fr, hi, v, ns, rfl, hik, hx, hsl, hbl, hnl, hnw, f0, f1, f5, f7, f8⟩ KL hnL hxL
  repeat refine Wc.assoc ?_
  refine Wc.seq fun K7 hn7 hx7 => ?_
  refine Wc.rg ?_
  refine Wo.val rfl (by simp only [MS, Nat.reduceBEq, Nat.reduceBNe, Nat.reduceEqDiff, reduceIte, if_true, if_false, reduceCtorEq, Nat.reduceAdd, Nat.reduceMul, Nat.reduceLeDiff, Nat.reduceLT, Nat.reduceDiv, Nat.reduceSub, binA, arithA, strA, isC, cval, cv, TS T, f7, f8] <;> rfl) rfl ?_
  refine Wo.nil ?_
  refine hn7 _ ?_
  refine Wc.seq fun K8 hn8 hx8 => ?_
  refine Wc.cond (t := decide ((i : Int) < (d : Int))) rfl (fun hd => ?_) fun hd => ?_
  · refine Wc.skip (hn8 _ ?_)
    have hid : i < d := by have := of_decide_eq_true hd; omega
    refine Wc.seq fun K9 hn9 hx9 => ?_
    refine Wc.block fun K10 hb10 hx10 => ?_
    refine Wc.seq fun K11 hn11 hx11 => ?_
    refine Wc.rg ?_
    refine Wo.val rfl (by first | rfl | (simp only [MS, Nat.reduceBEq, Nat.reduceBNe, Nat.reduceEqDiff, reduceIte, if_true, if_false, reduceCtorEq, Nat.reduceAdd, Nat.reduceMul, Nat.reduceLeDiff, Nat.reduceLT, Nat.reduceDiv, Nat.reduceSub, TS T, f8] <;> rfl)) rfl ?_
    refine Wo.val rfl (by first | rfl | (simp only [MS, Nat.reduceBEq, Nat.reduceBNe, Nat.reduceEqDiff, reduceIte, if_true, if_false, reduceCtorEq, Nat.reduceAdd, Nat.reduceMul, Nat.reduceLeDiff, Nat.reduceLT, Nat.reduceDiv, Nat.reduceSub, cval, cv, TS T, f8] <;> rfl)) rfl ?_
    refine Wo.nil ?_
    refine hn11 _ ?_
    have hd0 : ((d : Nat) : Int) ≠ 0 := by omega
    have hw := w64 (n := i) (by omega)
    obtain ⟨val, hval⟩ : ∃ val : Int, IntKind.i64.wrap (IntKind.i64.wrap ((IntKind.i64.wrap (ends * ((i + 1 : Nat) : Int))).tdiv (d : Int)) - IntKind.i64.wrap ((IntKind.i64.wrap (ends * (i : Int))).tdiv (d : Int))) = val := ⟨_, rfl⟩
    have hvw : IntKind.i64.wrap val = val := by rw [← hval]; exact wrap_wrap _ _
    have hbs := fun hh => buildSlice_one T.n hh (v := .i .i64 val) rfl
    obtain ⟨nv, h2, ha, hs2, hn2, hp2, ho2⟩ := SlAt.app (h := hi.push (.blk 6 [.i .i64 val] true)) T.n (x := .i .i64 val) (xb := hi.n) (xt := 6) (xw := true) (hsl.same (by simp) fun b hb => Hp.get_push_ne _ _ (by have := hsl.lt hb; omega)) (by simp) rfl (by simp; omega)
    have hvq := hsl.vbeq
    have hxn := hx.n
    simp only [Hp.n_push] at hn2
    refine Wc.drawn [.p 0 [11, 12, 13, 14, 15, 16, 17, 18, 19, 20, 21, 22, 23, 24] none, .p 1 [11, 12, 13, 14, 15, 16, 17, 18, 19, 20, 21, 22, 23] none, .p 2 [11, 12, 13, 14, 15, 16, 17, 18, 19, 20, 21, 22, 23] none, .p 3 [11, 12, 14, 15, 16, 17, 18, 19, 20, 21, 22, 23] none, .p 4 [11, 15, 16, 17, 18, 19, 20, 21, 22, 23] none, .p 5 [11, 12, 13, 14, 15, 16, 17, 18, 19, 20, 21, 22, 23] none, .p 6 [11, 17, 18, 19, 20, 21, 22, 23] none, .p 7 [11, 12, 13, 14, 15, 16, 17, 18, 19, 20, 21, 22, 23] none, .p 8 [11, 12, 13, 14, 15, 16, 17, 18, 19, 20, 21, 22, 23] none, .p 9 [11, 12, 13, 14, 15, 16, 17, 20, 21, 22, 23] none, .p 10 [11, 12, 13, 14, 15, 16, 17, 18, 19, 20, 21, 22, 23] none, .p 11 [11, 12, 13, 14, 15, 16, 17, 22, 23] none, .p 12 [11, 23] none, .e 13 [11, 24] none 8190, .e 14 [25] none 16383, .e 15 [5] none 32767] (by kernel_rfl) ?_
    refine Wz.v rfl rfl rfl (by first | rfl | (simp only [MS, Nat.reduceBEq, Nat.reduceBNe, Nat.reduceEqDiff, reduceIte, if_true, if_false, reduceCtorEq, Nat.reduceAdd, Nat.reduceMul, Nat.reduceLeDiff, Nat.reduceLT, Nat.reduceDiv, Nat.reduceSub, evR, List.contains, List.elem, TS T, f0, f1, f5, hw, hd0, hval, hbs, ha, hvq] <;> rfl)) rfl ?_
    refine Wz.v rfl rfl rfl (by first | rfl | (simp only [MS, Nat.reduceBEq, Nat.reduceBNe, Nat.reduceEqDiff, reduceIte, if_true, if_false, reduceCtorEq, Nat.reduceAdd, Nat.reduceMul, Nat.reduceLeDiff, Nat.reduceLT, Nat.reduceDiv, Nat.reduceSub, evR, List.contains, List.elem, TS T, f0, f1, f5, hw, hd0, hval, hbs, ha, hvq] <;> rfl)) rfl ?_
    refine Wz.v rfl rfl rfl (by first | rfl | (simp only [MS, Nat.reduceBEq, Nat.reduceBNe, Nat.reduceEqDiff, reduceIte, if_true, if_false, reduceCtorEq, Nat.reduceAdd, Nat.reduceMul, Nat.reduceLeDiff, Nat.reduceLT, Nat.reduceDiv, Nat.reduceSub, evR, List.contains, List.elem, TS T, f0, f1, f5, hw, hd0, hval, hbs, ha, hvq] <;> rfl)) rfl ?_
    refine Wz.v rfl rfl rfl (by simp only [MS, Nat.reduceBEq, Nat.reduceBNe, Nat.reduceEqDiff, reduceIte, if_true, if_false, reduceCtorEq, Nat.reduceAdd, Nat.reduceMul, Nat.reduceLeDiff, Nat.reduceLT, Nat.reduceDiv, Nat.reduceSub, binA, arithA, strA, isC, cval, cv, evR, List.contains, List.elem, TS T, f0, f1, f5, hw, hd0, hval, hbs, ha, hvq] <;> rfl) rfl ?_
    refine Wz.v rfl rfl rfl (by simp only [MS, Nat.reduceBEq, Nat.reduceBNe, Nat.reduceEqDiff, reduceIte, if_true, if_false, reduceCtorEq, Nat.reduceAdd, Nat.reduceMul, Nat.reduceLeDiff, Nat.reduceLT, Nat.reduceDiv, Nat.reduceSub, binA, arithA, strA, isC, cval, cv, evR, List.contains, List.elem, TS T, f0, f1, f5, hw, hd0, hval, hbs, ha, hvq] <;> rfl) rfl ?_
    refine Wz.v rfl rfl rfl (by first | rfl | (simp only [MS, Nat.reduceBEq, Nat.reduceBNe, Nat.reduceEqDiff, reduceIte, if_true, if_false, reduceCtorEq, Nat.reduceAdd, Nat.reduceMul, Nat.reduceLeDiff, Nat.reduceLT, Nat.reduceDiv, Nat.reduceSub, evR, List.contains, List.elem, TS T, f0, f1, f5, hw, hd0, hval, hbs, ha, hvq] <;> rfl)) rfl ?_
    refine Wz.v rfl rfl rfl (by simp only [MS, Nat.reduceBEq, Nat.reduceBNe, Nat.reduceEqDiff, reduceIte, if_true, if_false, reduceCtorEq, Nat.reduceAdd, Nat.reduceMul, Nat.reduceLeDiff, Nat.reduceLT, Nat.reduceDiv, Nat.reduceSub, binA, arithA, strA, isC, cval, cv, evR, List.contains, List.elem, TS T, f0, f1, f5, hw, hd0, hval, hbs, ha, hvq] <;> rfl) rfl ?_
    refine Wz.v rfl rfl rfl (by first | rfl | (simp only [MS, Nat.reduceBEq, Nat.reduceBNe, Nat.reduceEqDiff, reduceIte, if_true, if_false, reduceCtorEq, Nat.reduceAdd, Nat.reduceMul, Nat.reduceLeDiff, Nat.reduceLT, Nat.reduceDiv, Nat.reduceSub, evR, List.contains, List.elem, TS T, f0, f1, f5, hw, hd0, hval, hbs, ha, hvq] <;> rfl)) rfl ?_
    refine Wz.v rfl rfl rfl (by first | rfl | (simp only [MS, Nat.reduceBEq, Nat.reduceBNe, Nat.reduceEqDiff, reduceIte, if_true, if_false, reduceCtorEq, Nat.reduceAdd, Nat.reduceMul, Nat.reduceLeDiff, Nat.reduceLT, Nat.reduceDiv, Nat.reduceSub, evR, List.contains, List.elem, TS T, f0, f1, f5, hw, hd0, hval, hbs, ha, hvq] <;> rfl)) rfl ?_
    refine Wz.v rfl rfl rfl (by simp only [MS, Nat.reduceBEq, Nat.reduceBNe, Nat.reduceEqDiff, reduceIte, if_true, if_false, reduceCtorEq, Nat.reduceAdd, Nat.reduceMul, Nat.reduceLeDiff, Nat.reduceLT, Nat.reduceDiv, Nat.reduceSub, binA, arithA, strA, isC, cval, cv, evR, List.contains, List.elem, TS T, f0, f1, f5, hw, hd0, hval, hbs, ha, hvq] <;> rfl) rfl ?_
    refine Wz.v rfl rfl rfl (by first | rfl | (simp only [MS, Nat.reduceBEq, Nat.reduceBNe, Nat.reduceEqDiff, reduceIte, if_true, if_false, reduceCtorEq, Nat.reduceAdd, Nat.reduceMul, Nat.reduceLeDiff, Nat.reduceLT, Nat.reduceDiv, Nat.reduceSub, evR, List.contains, List.elem, TS T, f0, f1, f5, hw, hd0, hval, hbs, ha, hvq] <;> rfl)) rfl ?_
    refine Wz.v rfl rfl rfl (by simp only [MS, Nat.reduceBEq, Nat.reduceBNe, Nat.reduceEqDiff, reduceIte, if_true, if_false, reduceCtorEq, Nat.reduceAdd, Nat.reduceMul, Nat.reduceLeDiff, Nat.reduceLT, Nat.reduceDiv, Nat.reduceSub, binA, arithA, strA, isC, cval, cv, evR, List.contains, List.elem, TS T, f0, f1, f5, hw, hd0, hval, hbs, ha, hvq] <;> rfl) rfl ?_
    refine Wz.v rfl rfl rfl (by simp only [MS, Nat.reduceBEq, Nat.reduceBNe, Nat.reduceEqDiff, reduceIte, if_true, if_false, reduceCtorEq, Nat.reduceAdd, Nat.reduceMul, Nat.reduceLeDiff, Nat.reduceLT, Nat.reduceDiv, Nat.reduceSub, binA, arithA, strA, isC, cval, cv, evR, List.contains, List.elem, TS T, f0, f1, f5, hw, hd0, hval, hbs, ha, hvq] <;> rfl) rfl ?_
    refine Wz.e rfl rfl (by simp only [MS, Nat.reduceBEq, Nat.reduceBNe, Nat.reduceEqDiff, reduceIte, if_true, if_false, reduceCtorEq, Nat.reduceAdd, Nat.reduceMul, Nat.reduceLeDiff, Nat.reduceLT, Nat.reduceDiv, Nat.reduceSub, partsA, cval, cv, evR, List.contains, List.elem, TS T, f0, f1, f5, hw, hd0, hval, hbs, ha, hvq] <;> rfl) rfl (by repeat' first | exact ldsOk_nil | refine ldsOk_skip (by rfl) ?_ | refine ldsOk_cons (by simp only [MS, Nat.reduceBEq, Nat.reduceBNe, Nat.reduceEqDiff, reduceIte, if_true, if_false, reduceCtorEq, Nat.reduceAdd, Nat.reduceMul, Nat.reduceLeDiff, Nat.reduceLT, Nat.reduceDiv, Nat.reduceSub, evR, List.contains, List.elem, loadA, partV, TS T, f0, f1, f5, hw, hd0, hval, hbs, ha, hvq]) (by simp [vbeq, vbeqs, f0, f1, f5, hw, hd0, hval, hbs, ha, hvq]) ?_) (by repeat' first | exact alsOk_nil | refine alsOk_skip (by rfl) ?_ | refine alsOk_cons (by simp only [MS, Nat.reduceBEq, Nat.reduceBNe, Nat.reduceEqDiff, reduceIte, if_true, if_false, reduceCtorEq, Nat.reduceAdd, Nat.reduceMul, Nat.reduceLeDiff, Nat.reduceLT, Nat.reduceDiv, Nat.reduceSub, evR, List.contains, List.elem, loadA, partV, TS T, f0, f1, f5, hw, hd0, hval, hbs, ha, hvq]) (by simp [vbeq, vbeqs]) ?_) ?_
    refine Wz.e rfl rfl (by simp only [MS, Nat.reduceBEq, Nat.reduceBNe, Nat.reduceEqDiff, reduceIte, if_true, if_false, reduceCtorEq, Nat.reduceAdd, Nat.reduceMul, Nat.reduceLeDiff, Nat.reduceLT, Nat.reduceDiv, Nat.reduceSub, bltA, intsA, intsA.go, cval, cv, evR, List.contains, List.elem, TS T, f0, f1, f5, hw, hd0, hval, hbs, ha, hvq] <;> rfl) rfl (by repeat' first | exact ldsOk_nil | refine ldsOk_skip (by rfl) ?_ | refine ldsOk_cons (by simp only [MS, Nat.reduceBEq, Nat.reduceBNe, Nat.reduceEqDiff, reduceIte, if_true, if_false, reduceCtorEq, Nat.reduceAdd, Nat.reduceMul, Nat.reduceLeDiff, Nat.reduceLT, Nat.reduceDiv, Nat.reduceSub, evR, List.contains, List.elem, loadA, partV, TS T, f0, f1, f5, hw, hd0, hval, hbs, ha, hvq]) (by simp [vbeq, vbeqs, f0, f1, f5, hw, hd0, hval, hbs, ha, hvq]) ?_) (by repeat' first | exact alsOk_nil | refine alsOk_skip (by rfl) ?_ | refine alsOk_cons (by simp only [MS, Nat.reduceBEq, Nat.reduceBNe, Nat.reduceEqDiff, reduceIte, if_true, if_false, reduceCtorEq, Nat.reduceAdd, Nat.reduceMul, Nat.reduceLeDiff, Nat.reduceLT, Nat.reduceDiv, Nat.reduceSub, evR, List.contains, List.elem, loadA, partV, TS T, f0, f1, f5, hw, hd0, hval, hbs, ha, hvq]) (by simp [vbeq, vbeqs]) ?_) ?_
    refine Wz.e rfl rfl (by first | rfl | (simp only [MS, Nat.reduceBEq, Nat.reduceBNe, Nat.reduceEqDiff, reduceIte, if_true, if_false, reduceCtorEq, Nat.reduceAdd, Nat.reduceMul, Nat.reduceLeDiff, Nat.reduceLT, Nat.reduceDiv, Nat.reduceSub, cval, cv, evR, List.contains, List.elem, TS T, f0, f1, f5, hw, hd0, hval, hbs, ha, hvq] <;> rfl)) rfl (by repeat' first | exact ldsOk_nil | refine ldsOk_skip (by rfl) ?_ | refine ldsOk_cons (by simp only [MS, Nat.reduceBEq, Nat.reduceBNe, Nat.reduceEqDiff, reduceIte, if_true, if_false, reduceCtorEq, Nat.reduceAdd, Nat.reduceMul, Nat.reduceLeDiff, Nat.reduceLT, Nat.reduceDiv, Nat.reduceSub, evR, List.contains, List.elem, loadA, partV, TS T, f0, f1, f5, hw, hd0, hval, hbs, ha, hvq]) (by simp [vbeq, vbeqs, f0, f1, f5, hw, hd0, hval, hbs, ha, hvq]) ?_) (by repeat' first | exact alsOk_nil | refine alsOk_skip (by rfl) ?_ | refine alsOk_cons (by simp only [MS, Nat.reduceBEq, Nat.reduceBNe, Nat.reduceEqDiff, reduceIte, if_true, if_false, reduceCtorEq, Nat.reduceAdd, Nat.reduceMul, Nat.reduceLeDiff, Nat.reduceLT, Nat.reduceDiv, Nat.reduceSub, evR, List.contains, List.elem, loadA, partV, TS T, f0, f1, f5, hw, hd0, hval, hbs, ha, hvq]) (by simp [vbeq, vbeqs]) ?_) ?_
    refine Wz.nil ?_
    refine hx10 _ _ (by simp) (hn9 _ ?_)
    refine Wc.rg ?_
    refine Wo.val rfl (by simp only [MS, Nat.reduceBEq, Nat.reduceBNe, Nat.reduceEqDiff, reduceIte, if_true, if_false, reduceCtorEq, Nat.reduceAdd, Nat.reduceMul, Nat.reduceLeDiff, Nat.reduceLT, Nat.reduceDiv, Nat.reduceSub, binA, arithA, strA, isC, cval, cv, TS T, f8, hw] <;> rfl) rfl ?_
    refine Wo.val rfl (by first | rfl | (simp only [MS, Nat.reduceBEq, Nat.reduceBNe, Nat.reduceEqDiff, reduceIte, if_true, if_false, reduceCtorEq, Nat.reduceAdd, Nat.reduceMul, Nat.reduceLeDiff, Nat.reduceLT, Nat.reduceDiv, Nat.reduceSub, TS T, f8, hw] <;> rfl)) rfl ?_
    refine Wo.nil ?_
    refine hnL _ (k - 1) (by omega) ⟨i + 1, _, h2, nv, ns ++ [val], rfl, by omega, ⟨by omega, fun b hb => ?_⟩, by simpa using hs2, fun b hb => by have := hp2 b hb; simp at this; omega, by simp [hnl], ?_, by simp [look, f0], by simp [look, f1], by simp [look], by simp [look, f7], rfl⟩
    · have hne : blkOf v ≠ some b := fun e => by have := hbl b e; omega
      rw [ho2 b (by simp; omega) hne, Hp.get_push_ne _ _ (by omega)]; exact hx.old b hb
    · intro n hn
      rcases List.mem_append.1 hn with h | h
      · exact hnw n h
      · simp at h; subst h; exact hvw
  · refine Wc.exit (hx8 _ _ (by simp) (hxL _ _ (by simp) (hbB _ (hnS _ ?_))))
    refine Wc.seq fun K9 hn9 hx9 => ?_
    refine Wc.rg ?_
    refine Wo.val rfl (by first | rfl | (simp only [MS, Nat.reduceBEq, Nat.reduceBNe, Nat.reduceEqDiff, reduceIte, if_true, if_false, reduceCtorEq, Nat.reduceAdd, Nat.reduceMul, Nat.reduceLeDiff, Nat.reduceLT, Nat.reduceDiv, Nat.reduceSub, TS T, f5] <;> rfl)) rfl ?_
    refine Wo.val rfl (by first | rfl | (simp only [MS, Nat.reduceBEq, Nat.reduceBNe, Nat.reduceEqDiff, reduceIte, if_true, if_false, reduceCtorEq, Nat.reduceAdd, Nat.reduceMul, Nat.reduceLeDiff, Nat.reduceLT, Nat.reduceDiv, Nat.reduceSub, cval, cv, TS T, f5] <;> rfl)) rfl ?_
    refine Wo.nil ?_
    exact hn9 _ (Wc.ret (hr0 _ _ [_] rfl ⟨hx, hsl.res hbl (by omega) hnw⟩))
end Go.Mx

/- The seat's layer: its functions. -/
namespace Go.Mx
open Go.Proofs
set_option maxRecDepth 100000
set_option maxHeartbeats 2000000

theorem S.f10_ok {tb fc} (T : S.Ty tb) {call call' : Caller} {lf : Nat} (hc : ∀ args h, call' (.fn 10) args h = runF tb fc call lf Tryz.f10 args h)
    (h33 : ∀ (ends : Int) (d : Nat) (h : Hp), d ≤ 4000 → ∃ (v : V) (h' : Hp), call (.fn 33) [.i .i64 ends, .i .i64 d] h = some (.ret v, h') ∧ Ext h h' ∧ IntRes h h' v)
    (a b : Int) (h : Hp) : ∃ (v : V) (e : Int) (h' : Hp), call' (.fn 10) [.i .i64 a, .i .i64 b] h = some (.ret (.tup [v, .i .i64 e]), h') ∧ Ext h h' ∧ IntRes h h' v := by
  suffices H : Wf tb fc call lf Tryz.f10 [.i .i64 a, .i .i64 b] h (fun w h' => ∃ (v : V) (e : Int), w = .tup [v, .i .i64 e] ∧ Ext h h' ∧ IntRes h h' v) by
    obtain ⟨w, h', h1, v, e, rfl, h2⟩ := H
    exact ⟨v, e, h', by rw [hc]; exact h1, h2⟩
  refine Wf.intro (sz := 23) rfl rfl fun K hn0 hr0 => ?_
  repeat refine Wc.assoc ?_
  refine Wc.seq fun K1 hn1 hx1 => ?_
  refine Wc.rg ?_
  refine Wo.val rfl rfl rfl ?_
  refine Wo.val rfl rfl rfl ?_
  refine Wo.nil ?_
  refine hn1 _ ?_
  repeat refine Wc.assoc ?_
  refine Wc.seq fun K2 hn2 hx2 => ?_
  refine Wc.rg ?_
  refine Wo.val rfl rfl rfl ?_
  refine Wo.val rfl (by simp only [MS, Nat.reduceBEq, Nat.reduceBNe, Nat.reduceEqDiff, reduceIte, if_true, if_false, reduceCtorEq, Nat.reduceAdd, Nat.reduceMul, Nat.reduceLeDiff, Nat.reduceLT, Nat.reduceDiv, Nat.reduceSub, binA, arithA, strA, isC, cval, cv, TS T] <;> rfl) rfl ?_
  refine Wo.val rfl rfl rfl ?_
  refine Wo.split (n := 8) rfl (fun c1 => ?_) (fun c1 => ?_)
  · try have d1 := of_decide_eq_true c1
    refine Wo.skip (by first | rfl | (simp only [wantedA, wantedP, evR, List.contains, List.elem, MS, Nat.reduceBEq, Nat.reduceBNe, Nat.reduceEqDiff, reduceIte, if_true, if_false, reduceCtorEq, Nat.reduceAdd, Nat.reduceMul, Nat.reduceLeDiff, Nat.reduceLT, Nat.reduceDiv, Nat.reduceSub, c1] <;> rfl)) rfl ?_
    refine Wo.skip (by first | rfl | (simp only [wantedA, wantedP, evR, List.contains, List.elem, MS, Nat.reduceBEq, Nat.reduceBNe, Nat.reduceEqDiff, reduceIte, if_true, if_false, reduceCtorEq, Nat.reduceAdd, Nat.reduceMul, Nat.reduceLeDiff, Nat.reduceLT, Nat.reduceDiv, Nat.reduceSub, c1] <;> rfl)) rfl ?_
    refine Wo.val rfl (by first | rfl | (simp only [MS, Nat.reduceBEq, Nat.reduceBNe, Nat.reduceEqDiff, reduceIte, if_true, if_false, reduceCtorEq, Nat.reduceAdd, Nat.reduceMul, Nat.reduceLeDiff, Nat.reduceLT, Nat.reduceDiv, Nat.reduceSub, cval, cv, TS T, c1] <;> rfl)) rfl ?_
    refine Wo.val rfl rfl rfl ?_
    refine Wo.skip (by first | rfl | (simp only [wantedA, wantedP, evR, List.contains, List.elem, MS, Nat.reduceBEq, Nat.reduceBNe, Nat.reduceEqDiff, reduceIte, if_true, if_false, reduceCtorEq, Nat.reduceAdd, Nat.reduceMul, Nat.reduceLeDiff, Nat.reduceLT, Nat.reduceDiv, Nat.reduceSub, c1] <;> rfl)) rfl ?_
    refine Wo.skip (by first | rfl | (simp only [wantedA, wantedP, evR, List.contains, List.elem, MS, Nat.reduceBEq, Nat.reduceBNe, Nat.reduceEqDiff, reduceIte, if_true, if_false, reduceCtorEq, Nat.reduceAdd, Nat.reduceMul, Nat.reduceLeDiff, Nat.reduceLT, Nat.reduceDiv, Nat.reduceSub, c1] <;> rfl)) rfl ?_
    refine Wo.val rfl (by first | rfl | (simp only [MS, Nat.reduceBEq, Nat.reduceBNe, Nat.reduceEqDiff, reduceIte, if_true, if_false, reduceCtorEq, Nat.reduceAdd, Nat.reduceMul, Nat.reduceLeDiff, Nat.reduceLT, Nat.reduceDiv, Nat.reduceSub, cval, cv, TS T, c1] <;> rfl)) rfl ?_
    refine Wo.val rfl rfl rfl ?_
    refine Wo.skip (by first | rfl | (simp only [wantedA, wantedP, evR, List.contains, List.elem, MS, Nat.reduceBEq, Nat.reduceBNe, Nat.reduceEqDiff, reduceIte, if_true, if_false, reduceCtorEq, Nat.reduceAdd, Nat.reduceMul, Nat.reduceLeDiff, Nat.reduceLT, Nat.reduceDiv, Nat.reduceSub, c1] <;> rfl)) rfl ?_
    refine Wo.skip (by first | rfl | (simp only [wantedA, wantedP, evR, List.contains, List.elem, MS, Nat.reduceBEq, Nat.reduceBNe, Nat.reduceEqDiff, reduceIte, if_true, if_false, reduceCtorEq, Nat.reduceAdd, Nat.reduceMul, Nat.reduceLeDiff, Nat.reduceLT, Nat.reduceDiv, Nat.reduceSub, c1] <;> rfl)) rfl ?_
    refine Wo.val rfl (by first | rfl | (simp only [MS, Nat.reduceBEq, Nat.reduceBNe, Nat.reduceEqDiff, reduceIte, if_true, if_false, reduceCtorEq, Nat.reduceAdd, Nat.reduceMul, Nat.reduceLeDiff, Nat.reduceLT, Nat.reduceDiv, Nat.reduceSub, cval, cv, TS T, c1] <;> rfl)) rfl ?_
    refine Wo.nil ?_
    refine hn2 _ ?_
    repeat refine Wc.assoc ?_
    refine Wc.seq fun K3 hn3 hx3 => ?_
    refine Wc.cond (t := true) (by first | rfl | (simp only [evF, look, c1]; rfl) | simp [evF, look, c1]) (fun _ => ?_) (fun h => by cases h)
    repeat refine Wc.assoc ?_
    refine Wc.seq fun K4 hn4 hx4 => ?_
    refine Wc.rg ?_
    refine Wo.val rfl rfl rfl ?_
    refine Wo.val rfl rfl rfl ?_
    refine Wo.nil ?_
    refine hn4 _ ?_
    exact Wc.ret (hx3 _ _ (by simp) ((hr0 _ _ [_, _] rfl ⟨_, _, rfl, Ext.refl h, .inl rfl⟩)))
  · try have d1 := of_decide_eq_false c1
    refine Wo.val (by first | rfl | (simp only [wantedA, wantedP, evR, List.contains, List.elem, MS, Nat.reduceBEq, Nat.reduceBNe, Nat.reduceEqDiff, reduceIte, if_true, if_false, reduceCtorEq, Nat.reduceAdd, Nat.reduceMul, Nat.reduceLeDiff, Nat.reduceLT, Nat.reduceDiv, Nat.reduceSub, c1] <;> rfl)) (by first | rfl | (simp only [MS, Nat.reduceBEq, Nat.reduceBNe, Nat.reduceEqDiff, reduceIte, if_true, if_false, reduceCtorEq, Nat.reduceAdd, Nat.reduceMul, Nat.reduceLeDiff, Nat.reduceLT, Nat.reduceDiv, Nat.reduceSub, TS T, c1] <;> rfl)) rfl ?_
    refine Wo.val (by first | rfl | (simp only [wantedA, wantedP, evR, List.contains, List.elem, MS, Nat.reduceBEq, Nat.reduceBNe, Nat.reduceEqDiff, reduceIte, if_true, if_false, reduceCtorEq, Nat.reduceAdd, Nat.reduceMul, Nat.reduceLeDiff, Nat.reduceLT, Nat.reduceDiv, Nat.reduceSub, c1] <;> rfl)) (by simp only [MS, Nat.reduceBEq, Nat.reduceBNe, Nat.reduceEqDiff, reduceIte, if_true, if_false, reduceCtorEq, Nat.reduceAdd, Nat.reduceMul, Nat.reduceLeDiff, Nat.reduceLT, Nat.reduceDiv, Nat.reduceSub, binA, arithA, strA, isC, cval, cv, TS T, c1] <;> rfl) rfl ?_
    refine Wo.val rfl (by first | rfl | (simp only [MS, Nat.reduceBEq, Nat.reduceBNe, Nat.reduceEqDiff, reduceIte, if_true, if_false, reduceCtorEq, Nat.reduceAdd, Nat.reduceMul, Nat.reduceLeDiff, Nat.reduceLT, Nat.reduceDiv, Nat.reduceSub, cval, cv, TS T, c1] <;> rfl)) rfl ?_
    refine Wo.val rfl rfl rfl ?_
    refine Wo.split (n := 12) rfl (fun c2 => ?_) (fun c2 => ?_)
    · try have d2 := of_decide_eq_true c2
      refine Wo.skip (by first | rfl | (simp only [wantedA, wantedP, evR, List.contains, List.elem, MS, Nat.reduceBEq, Nat.reduceBNe, Nat.reduceEqDiff, reduceIte, if_true, if_false, reduceCtorEq, Nat.reduceAdd, Nat.reduceMul, Nat.reduceLeDiff, Nat.reduceLT, Nat.reduceDiv, Nat.reduceSub, c1, c2] <;> rfl)) rfl ?_
      refine Wo.skip (by first | rfl | (simp only [wantedA, wantedP, evR, List.contains, List.elem, MS, Nat.reduceBEq, Nat.reduceBNe, Nat.reduceEqDiff, reduceIte, if_true, if_false, reduceCtorEq, Nat.reduceAdd, Nat.reduceMul, Nat.reduceLeDiff, Nat.reduceLT, Nat.reduceDiv, Nat.reduceSub, c1, c2] <;> rfl)) rfl ?_
      refine Wo.val rfl (by first | rfl | (simp only [MS, Nat.reduceBEq, Nat.reduceBNe, Nat.reduceEqDiff, reduceIte, if_true, if_false, reduceCtorEq, Nat.reduceAdd, Nat.reduceMul, Nat.reduceLeDiff, Nat.reduceLT, Nat.reduceDiv, Nat.reduceSub, cval, cv, TS T, c1, c2] <;> rfl)) rfl ?_
      refine Wo.val rfl rfl rfl ?_
      refine Wo.skip (by first | rfl | (simp only [wantedA, wantedP, evR, List.contains, List.elem, MS, Nat.reduceBEq, Nat.reduceBNe, Nat.reduceEqDiff, reduceIte, if_true, if_false, reduceCtorEq, Nat.reduceAdd, Nat.reduceMul, Nat.reduceLeDiff, Nat.reduceLT, Nat.reduceDiv, Nat.reduceSub, c1, c2] <;> rfl)) rfl ?_
      refine Wo.skip (by first | rfl | (simp only [wantedA, wantedP, evR, List.contains, List.elem, MS, Nat.reduceBEq, Nat.reduceBNe, Nat.reduceEqDiff, reduceIte, if_true, if_false, reduceCtorEq, Nat.reduceAdd, Nat.reduceMul, Nat.reduceLeDiff, Nat.reduceLT, Nat.reduceDiv, Nat.reduceSub, c1, c2] <;> rfl)) rfl ?_
      refine Wo.val rfl (by first | rfl | (simp only [MS, Nat.reduceBEq, Nat.reduceBNe, Nat.reduceEqDiff, reduceIte, if_true, if_false, reduceCtorEq, Nat.reduceAdd, Nat.reduceMul, Nat.reduceLeDiff, Nat.reduceLT, Nat.reduceDiv, Nat.reduceSub, cval, cv, TS T, c1, c2] <;> rfl)) rfl ?_
      refine Wo.nil ?_
      refine hn2 _ ?_
      repeat refine Wc.assoc ?_
      refine Wc.seq fun K5 hn5 hx5 => ?_
      refine Wc.cond (t := true) (by first | rfl | (simp only [evF, look, c1, c2]; rfl) | simp [evF, look, c1, c2]) (fun _ => ?_) (fun h => by cases h)
      repeat refine Wc.assoc ?_
      refine Wc.seq fun K6 hn6 hx6 => ?_
      refine Wc.rg ?_
      refine Wo.val rfl rfl rfl ?_
      refine Wo.val rfl rfl rfl ?_
      refine Wo.nil ?_
      refine hn6 _ ?_
      exact Wc.ret (hx5 _ _ (by simp) ((hr0 _ _ [_, _] rfl ⟨_, _, rfl, Ext.refl h, .inl rfl⟩)))
    · try have d2 := of_decide_eq_false c2
      refine Wo.val (by first | rfl | (simp only [wantedA, wantedP, evR, List.contains, List.elem, MS, Nat.reduceBEq, Nat.reduceBNe, Nat.reduceEqDiff, reduceIte, if_true, if_false, reduceCtorEq, Nat.reduceAdd, Nat.reduceMul, Nat.reduceLeDiff, Nat.reduceLT, Nat.reduceDiv, Nat.reduceSub, c1, c2] <;> rfl)) (by first | rfl | (simp only [MS, Nat.reduceBEq, Nat.reduceBNe, Nat.reduceEqDiff, reduceIte, if_true, if_false, reduceCtorEq, Nat.reduceAdd, Nat.reduceMul, Nat.reduceLeDiff, Nat.reduceLT, Nat.reduceDiv, Nat.reduceSub, TS T, c1, c2] <;> rfl)) rfl ?_
      refine Wo.val (by first | rfl | (simp only [wantedA, wantedP, evR, List.contains, List.elem, MS, Nat.reduceBEq, Nat.reduceBNe, Nat.reduceEqDiff, reduceIte, if_true, if_false, reduceCtorEq, Nat.reduceAdd, Nat.reduceMul, Nat.reduceLeDiff, Nat.reduceLT, Nat.reduceDiv, Nat.reduceSub, c1, c2] <;> rfl)) (by simp only [MS, Nat.reduceBEq, Nat.reduceBNe, Nat.reduceEqDiff, reduceIte, if_true, if_false, reduceCtorEq, Nat.reduceAdd, Nat.reduceMul, Nat.reduceLeDiff, Nat.reduceLT, Nat.reduceDiv, Nat.reduceSub, binA, arithA, strA, isC, cval, cv, TS T, c1, c2] <;> rfl) rfl ?_
      refine Wo.val rfl (by first | rfl | (simp only [MS, Nat.reduceBEq, Nat.reduceBNe, Nat.reduceEqDiff, reduceIte, if_true, if_false, reduceCtorEq, Nat.reduceAdd, Nat.reduceMul, Nat.reduceLeDiff, Nat.reduceLT, Nat.reduceDiv, Nat.reduceSub, cval, cv, TS T, c1, c2] <;> rfl)) rfl ?_
      refine Wo.val rfl rfl rfl ?_
      refine Wo.split (n := 16) rfl (fun c3 => ?_) (fun c3 => ?_)
      · try have d3 := of_decide_eq_true c3
        refine Wo.skip (by first | rfl | (simp only [wantedA, wantedP, evR, List.contains, List.elem, MS, Nat.reduceBEq, Nat.reduceBNe, Nat.reduceEqDiff, reduceIte, if_true, if_false, reduceCtorEq, Nat.reduceAdd, Nat.reduceMul, Nat.reduceLeDiff, Nat.reduceLT, Nat.reduceDiv, Nat.reduceSub, c1, c2, c3] <;> rfl)) rfl ?_
        refine Wo.skip (by first | rfl | (simp only [wantedA, wantedP, evR, List.contains, List.elem, MS, Nat.reduceBEq, Nat.reduceBNe, Nat.reduceEqDiff, reduceIte, if_true, if_false, reduceCtorEq, Nat.reduceAdd, Nat.reduceMul, Nat.reduceLeDiff, Nat.reduceLT, Nat.reduceDiv, Nat.reduceSub, c1, c2, c3] <;> rfl)) rfl ?_
        refine Wo.val rfl (by first | rfl | (simp only [MS, Nat.reduceBEq, Nat.reduceBNe, Nat.reduceEqDiff, reduceIte, if_true, if_false, reduceCtorEq, Nat.reduceAdd, Nat.reduceMul, Nat.reduceLeDiff, Nat.reduceLT, Nat.reduceDiv, Nat.reduceSub, cval, cv, TS T, c1, c2, c3] <;> rfl)) rfl ?_
        refine Wo.nil ?_
        refine hn2 _ ?_
        repeat refine Wc.assoc ?_
        refine Wc.seq fun K7 hn7 hx7 => ?_
        refine Wc.cond (t := true) (by first | rfl | (simp only [evF, look, c1, c2, c3]; rfl) | simp [evF, look, c1, c2, c3]) (fun _ => ?_) (fun h => by cases h)
        repeat refine Wc.assoc ?_
        refine Wc.seq fun K8 hn8 hx8 => ?_
        refine Wc.rg ?_
        refine Wo.val rfl rfl rfl ?_
        refine Wo.val rfl rfl rfl ?_
        refine Wo.nil ?_
        refine hn8 _ ?_
        exact Wc.ret (hx7 _ _ (by simp) ((hr0 _ _ [_, _] rfl ⟨_, _, rfl, Ext.refl h, .inl rfl⟩)))
      · try have d3 := of_decide_eq_false c3
        refine Wo.val (by first | rfl | (simp only [wantedA, wantedP, evR, List.contains, List.elem, MS, Nat.reduceBEq, Nat.reduceBNe, Nat.reduceEqDiff, reduceIte, if_true, if_false, reduceCtorEq, Nat.reduceAdd, Nat.reduceMul, Nat.reduceLeDiff, Nat.reduceLT, Nat.reduceDiv, Nat.reduceSub, c1, c2, c3] <;> rfl)) (by first | rfl | (simp only [MS, Nat.reduceBEq, Nat.reduceBNe, Nat.reduceEqDiff, reduceIte, if_true, if_false, reduceCtorEq, Nat.reduceAdd, Nat.reduceMul, Nat.reduceLeDiff, Nat.reduceLT, Nat.reduceDiv, Nat.reduceSub, TS T, c1, c2, c3] <;> rfl)) rfl ?_
        refine Wo.val (by first | rfl | (simp only [wantedA, wantedP, evR, List.contains, List.elem, MS, Nat.reduceBEq, Nat.reduceBNe, Nat.reduceEqDiff, reduceIte, if_true, if_false, reduceCtorEq, Nat.reduceAdd, Nat.reduceMul, Nat.reduceLeDiff, Nat.reduceLT, Nat.reduceDiv, Nat.reduceSub, c1, c2, c3] <;> rfl)) (by simp only [MS, Nat.reduceBEq, Nat.reduceBNe, Nat.reduceEqDiff, reduceIte, if_true, if_false, reduceCtorEq, Nat.reduceAdd, Nat.reduceMul, Nat.reduceLeDiff, Nat.reduceLT, Nat.reduceDiv, Nat.reduceSub, binA, arithA, strA, isC, cval, cv, TS T, c1, c2, c3] <;> rfl) rfl ?_
        refine Wo.val rfl (by first | rfl | (simp only [MS, Nat.reduceBEq, Nat.reduceBNe, Nat.reduceEqDiff, reduceIte, if_true, if_false, reduceCtorEq, Nat.reduceAdd, Nat.reduceMul, Nat.reduceLeDiff, Nat.reduceLT, Nat.reduceDiv, Nat.reduceSub, cval, cv, TS T, c1, c2, c3] <;> rfl)) rfl ?_
        refine Wo.nil ?_
        refine hn2 _ ?_
        repeat refine Wc.assoc ?_
        refine Wc.seq fun K9 hn9 hx9 => ?_
        refine Wc.cond rfl (fun c4 => ?_) (fun c4 => ?_)
        · try have d4 := of_decide_eq_true c4
          repeat refine Wc.assoc ?_
          refine Wc.seq fun K10 hn10 hx10 => ?_
          refine Wc.rg ?_
          refine Wo.val rfl rfl rfl ?_
          refine Wo.val rfl rfl rfl ?_
          refine Wo.nil ?_
          refine hn10 _ ?_
          exact Wc.ret (hx9 _ _ (by simp) ((hr0 _ _ [_, _] rfl ⟨_, _, rfl, Ext.refl h, .inl rfl⟩)))
        · try have d4 := of_decide_eq_false c4
          refine Wc.skip (hn9 _ ?_)
          repeat refine Wc.assoc ?_
          refine Wc.seq fun K11 hn11 hx11 => ?_
          obtain ⟨n, rfl⟩ : ∃ n : Nat, b = n := ⟨b.toNat, by omega⟩
          obtain ⟨v, h', hcall, hx, hr⟩ := h33 a n h (by omega)
          refine Wc.rg ?_
          refine Wo.val rfl rfl rfl ?_
          refine Wo.val rfl rfl rfl ?_
          refine Wo.cl rfl rfl rfl (by first | rfl | (simp only [MS, Nat.reduceBEq, Nat.reduceBNe, Nat.reduceEqDiff, reduceIte, if_true, if_false, reduceCtorEq, Nat.reduceAdd, Nat.reduceMul, Nat.reduceLeDiff, Nat.reduceLT, Nat.reduceDiv, Nat.reduceSub, cval, cv, TS T, c1, c2, c3, c4] <;> rfl)) (by first | rfl | (simp only [MS, Nat.reduceBEq, Nat.reduceBNe, Nat.reduceEqDiff, reduceIte, if_true, if_false, reduceCtorEq, Nat.reduceAdd, Nat.reduceMul, Nat.reduceLeDiff, Nat.reduceLT, Nat.reduceDiv, Nat.reduceSub, cval, cv, TS T, c1, c2, c3, c4] <;> rfl)) (fun _ => rfl) ?_
          refine ⟨_, h', hcall, ?_⟩
          refine Wo.val rfl rfl rfl ?_
          refine Wo.val rfl rfl rfl ?_
          refine Wo.nil ?_
          refine hn11 _ ?_
          exact Wc.ret ((hr0 _ _ [_, _] rfl ⟨_, _, rfl, hx, hr⟩))

theorem S.f14_ok {tb fc} (T : S.Ty tb) {call call' : Caller} {lf : Nat} (hlf : 2000000000000 ≤ lf) (hc : ∀ args h, call' (.fn 14) args h = runF tb fc call lf Tryz.f14 args h)
    (h8 : ∀ {h : Hp} {v : V} {n : Nat}, IL tb 22 3 h v n → ∃ e : Int, call (.fn 8) [v] h = some (.ret (.i .i64 e), h) ∧ (e = 0 → 0 < n ∧ n ≤ 4000))
    {h : Hp} {v : V} {n : Nat} (hL : IL tb 22 3 h v n) (e : Int) : ∃ (i x : Int), call' (.fn 14) [v, .i .i64 e] h = some (.ret (.tup [.i .i64 i, .i .i64 x]), h) := by
  suffices H : Wf tb fc call lf Tryz.f14 [v, .i .i64 e] h (fun w h' => h' = h ∧ ∃ i x : Int, w = .tup [.i .i64 i, .i .i64 x]) by
    obtain ⟨w, h', h1, rfl, i, x, rfl⟩ := H
    exact ⟨i, x, by rw [hc]; exact h1⟩
  have hln := hL.len
  obtain ⟨e8, hcall, he8⟩ := h8 hL
  refine Wf.intro (sz := 31) rfl rfl fun K hn0 hr0 => ?_
  repeat refine Wc.assoc ?_
  refine Wc.seq fun K1 hn1 hx1 => ?_
  refine Wc.rg ?_
  refine Wo.val rfl rfl rfl ?_
  refine Wo.val rfl rfl rfl ?_
  refine Wo.nil ?_
  refine hn1 _ ?_
  repeat refine Wc.assoc ?_
  refine Wc.seq fun K2 hn2 hx2 => ?_
  refine Wc.rg ?_
  refine Wo.val rfl rfl rfl ?_
  refine Wo.cl rfl rfl rfl (by first | rfl | (simp only [MS, Nat.reduceBEq, Nat.reduceBNe, Nat.reduceEqDiff, reduceIte, if_true, if_false, reduceCtorEq, Nat.reduceAdd, Nat.reduceMul, Nat.reduceLeDiff, Nat.reduceLT, Nat.reduceDiv, Nat.reduceSub, cval, cv, TS T] <;> rfl)) (by first | rfl | (simp only [MS, Nat.reduceBEq, Nat.reduceBNe, Nat.reduceEqDiff, reduceIte, if_true, if_false, reduceCtorEq, Nat.reduceAdd, Nat.reduceMul, Nat.reduceLeDiff, Nat.reduceLT, Nat.reduceDiv, Nat.reduceSub, cval, cv, TS T] <;> rfl)) (fun _ => rfl) ?_
  refine ⟨_, h, hcall, ?_⟩
  refine Wo.val rfl rfl rfl ?_
  refine Wo.nil ?_
  refine hn2 _ ?_
  repeat refine Wc.assoc ?_
  refine Wc.seq fun K3 hn3 hx3 => ?_
  refine Wc.rg ?_
  refine Wo.val rfl rfl rfl ?_
  refine Wo.val rfl (by simp only [MS, Nat.reduceBEq, Nat.reduceBNe, Nat.reduceEqDiff, reduceIte, if_true, if_false, reduceCtorEq, Nat.reduceAdd, Nat.reduceMul, Nat.reduceLeDiff, Nat.reduceLT, Nat.reduceDiv, Nat.reduceSub, binA, arithA, strA, isC, cval, cv, TS T] <;> rfl) rfl ?_
  refine Wo.nil ?_
  refine hn3 _ ?_
  repeat refine Wc.assoc ?_
  refine Wc.seq fun K4 hn4 hx4 => ?_
  refine Wc.cond rfl (fun c2 => ?_) (fun c2 => ?_)
  · try have d2 := bne_iff_ne.1 c2
    repeat refine Wc.assoc ?_
    refine Wc.seq fun K5 hn5 hx5 => ?_
    refine Wc.rg ?_
    refine Wo.val rfl rfl rfl ?_
    refine Wo.val rfl rfl rfl ?_
    refine Wo.val rfl rfl rfl ?_
    refine Wo.nil ?_
    refine hn5 _ ?_
    exact Wc.ret (hx4 _ _ (by simp) ((hr0 _ _ [_, _] rfl ⟨rfl, _, _, rfl⟩)))
  · try have d2 := bne_eq_false_iff_eq.1 c2
    refine Wc.skip (hn4 _ ?_)
    repeat refine Wc.assoc ?_
    refine Wc.seq fun K6 hn6 hx6 => ?_
    refine Wc.rg ?_
    refine Wo.val rfl rfl rfl ?_
    refine Wo.val rfl (by simp only [MS, Nat.reduceBEq, Nat.reduceBNe, Nat.reduceEqDiff, reduceIte, if_true, if_false, reduceCtorEq, Nat.reduceAdd, Nat.reduceMul, Nat.reduceLeDiff, Nat.reduceLT, Nat.reduceDiv, Nat.reduceSub, binA, arithA, strA, isC, cval, cv, TS T, c2] <;> rfl) rfl ?_
    refine Wo.nil ?_
    refine hn6 _ ?_
    repeat refine Wc.assoc ?_
    refine Wc.seq fun K7 hn7 hx7 => ?_
    refine Wc.cond rfl (fun c3 => ?_) (fun c3 => ?_)
    · try have d3 := of_decide_eq_true c3
      repeat refine Wc.assoc ?_
      refine Wc.seq fun K8 hn8 hx8 => ?_
      refine Wc.rg ?_
      refine Wo.val rfl rfl rfl ?_
      refine Wo.val rfl rfl rfl ?_
      refine Wo.nil ?_
      refine hn8 _ ?_
      exact Wc.ret (hx7 _ _ (by simp) ((hr0 _ _ [_, _] rfl ⟨rfl, _, _, rfl⟩)))
    · try have d3 := of_decide_eq_false c3
      refine Wc.skip (hn7 _ ?_)
      repeat refine Wc.assoc ?_
      refine Wc.seq fun K9 hn9 hx9 => ?_
      refine Wc.rg ?_
      refine Wo.val rfl rfl rfl ?_
      refine Wo.val rfl (by simp only [MS, Nat.reduceBEq, Nat.reduceBNe, Nat.reduceEqDiff, reduceIte, if_true, if_false, reduceCtorEq, Nat.reduceAdd, Nat.reduceMul, Nat.reduceLeDiff, Nat.reduceLT, Nat.reduceDiv, Nat.reduceSub, cval, cv, TS T, c2, c3, hln] <;> rfl) rfl ?_
      refine Wo.val rfl rfl rfl ?_
      refine Wo.nil ?_
      refine hn9 _ ?_
      repeat refine Wc.assoc ?_
      refine Wc.seq fun K10 hn10 hx10 => ?_
      refine Wc.block fun K11 hb11 hx11 => ?_
      have hn4 := he8 (by assumption)
      have hn3 : n ≤ 4000 := hn4.2
      refine Wc.loop (fun k0 s => ∃ (i : Nat) (y : Int) (fr : List (Nat × V)), s = ⟨fr, [], h⟩ ∧ (i + k0 = n) ∧ look fr 1 = some (.i .i64 y) ∧ look fr 16 = some (v) ∧ look fr 17 = some (.i .i64 (n : Nat)) ∧ look fr 18 = some (.i .i64 (i : Nat))) (n) (by omega) ⟨0, _, _, rfl, by omega, rfl, rfl, rfl, rfl⟩ ?_
      rintro k0 _ ⟨i, y, fr, rfl, hik, f1, f16, f17, f18⟩ KL0 hnL0 hxL0
      repeat refine Wc.assoc ?_
      refine Wc.seq fun K12 hn12 hx12 => ?_
      refine Wc.rg ?_
      refine Wo.val rfl (by simp only [MS, Nat.reduceBEq, Nat.reduceBNe, Nat.reduceEqDiff, reduceIte, if_true, if_false, reduceCtorEq, Nat.reduceAdd, Nat.reduceMul, Nat.reduceLeDiff, Nat.reduceLT, Nat.reduceDiv, Nat.reduceSub, binA, arithA, strA, isC, cval, cv, TS T, f1, f16, f17, f18, c2, c3] <;> rfl) rfl ?_
      refine Wo.nil ?_
      refine hn12 _ ?_
      repeat refine Wc.assoc ?_
      refine Wc.seq fun K13 hn13 hx13 => ?_
      refine Wc.cond rfl (fun c5 => ?_) (fun c5 => ?_)
      · try have d5 := of_decide_eq_true c5
        refine Wc.skip (hn13 _ ?_)
        repeat refine Wc.assoc ?_
        refine Wc.seq fun K14 hn14 hx14 => ?_
        refine Wc.block fun K15 hb15 hx15 => ?_
        repeat refine Wc.assoc ?_
        refine Wc.seq fun K16 hn16 hx16 => ?_
        obtain ⟨bb, oo, z, hia, hld, _⟩ := hL.at_ h (Ext.refl h) i (by omega)
        refine Wc.rg ?_
        refine Wo.val rfl (by first | rfl | (simp only [MS, Nat.reduceBEq, Nat.reduceBNe, Nat.reduceEqDiff, reduceIte, if_true, if_false, reduceCtorEq, Nat.reduceAdd, Nat.reduceMul, Nat.reduceLeDiff, Nat.reduceLT, Nat.reduceDiv, Nat.reduceSub, TS T, f1, f16, f17, f18, c2, c3, c5, hia, hld] <;> rfl)) rfl ?_
        refine Wo.val rfl (by simp only [MS, Nat.reduceBEq, Nat.reduceBNe, Nat.reduceEqDiff, reduceIte, if_true, if_false, reduceCtorEq, Nat.reduceAdd, Nat.reduceMul, Nat.reduceLeDiff, Nat.reduceLT, Nat.reduceDiv, Nat.reduceSub, cval, cv, TS T, f1, f16, f17, f18, c2, c3, c5, hia, hld] <;> rfl) rfl ?_
        refine Wo.val rfl (by simp only [MS, Nat.reduceBEq, Nat.reduceBNe, Nat.reduceEqDiff, reduceIte, if_true, if_false, reduceCtorEq, Nat.reduceAdd, Nat.reduceMul, Nat.reduceLeDiff, Nat.reduceLT, Nat.reduceDiv, Nat.reduceSub, partV, TS T, f1, f16, f17, f18, c2, c3, c5, hia, hld] <;> rfl) rfl ?_
        refine Wo.val rfl rfl rfl ?_
        refine Wo.val rfl rfl rfl ?_
        refine Wo.nil ?_
        refine hn16 _ ?_
        repeat refine Wc.assoc ?_
        refine Wc.seq fun K17 hn17 hx17 => ?_
        refine Wc.rg ?_
        refine Wo.val rfl (by first | rfl | (simp only [MS, Nat.reduceBEq, Nat.reduceBNe, Nat.reduceEqDiff, reduceIte, if_true, if_false, reduceCtorEq, Nat.reduceAdd, Nat.reduceMul, Nat.reduceLeDiff, Nat.reduceLT, Nat.reduceDiv, Nat.reduceSub, TS T, f1, f16, f17, f18, c2, c3, c5] <;> rfl)) rfl ?_
        refine Wo.val rfl rfl rfl ?_
        refine Wo.val rfl (by simp only [MS, Nat.reduceBEq, Nat.reduceBNe, Nat.reduceEqDiff, reduceIte, if_true, if_false, reduceCtorEq, Nat.reduceAdd, Nat.reduceMul, Nat.reduceLeDiff, Nat.reduceLT, Nat.reduceDiv, Nat.reduceSub, binA, arithA, strA, isC, cval, cv, TS T, f1, f16, f17, f18, c2, c3, c5] <;> rfl) rfl ?_
        refine Wo.nil ?_
        refine hn17 _ ?_
        repeat refine Wc.assoc ?_
        refine Wc.seq fun K18 hn18 hx18 => ?_
        refine Wc.cond rfl (fun c7 => ?_) (fun c7 => ?_)
        · try have d7 := of_decide_eq_true c7
          repeat refine Wc.assoc ?_
          refine Wc.seq fun K19 hn19 hx19 => ?_
          refine Wc.rg ?_
          refine Wo.val rfl rfl rfl ?_
          refine Wo.val rfl rfl rfl ?_
          refine Wo.val rfl rfl rfl ?_
          refine Wo.nil ?_
          refine hn19 _ ?_
          exact Wc.ret (hx18 _ _ (by simp) (hx15 _ _ (by simp) (hx14 _ _ (by simp) (hxL0 _ _ (by simp) (hx11 _ _ (by simp) (hx10 _ _ (by simp) ((hr0 _ _ [_, _] rfl ⟨rfl, _, _, rfl⟩))))))))
        · try have d7 := of_decide_eq_false c7
          refine Wc.skip (hn18 _ ?_)
          refine Wc.rg ?_
          refine Wo.val rfl (by first | rfl | (simp only [MS, Nat.reduceBEq, Nat.reduceBNe, Nat.reduceEqDiff, reduceIte, if_true, if_false, reduceCtorEq, Nat.reduceAdd, Nat.reduceMul, Nat.reduceLeDiff, Nat.reduceLT, Nat.reduceDiv, Nat.reduceSub, TS T, f1, f16, f17, f18, c2, c3, c5, c7] <;> rfl)) rfl ?_
          refine Wo.val rfl rfl rfl ?_
          refine Wo.val rfl (by simp only [MS, Nat.reduceBEq, Nat.reduceBNe, Nat.reduceEqDiff, reduceIte, if_true, if_false, reduceCtorEq, Nat.reduceAdd, Nat.reduceMul, Nat.reduceLeDiff, Nat.reduceLT, Nat.reduceDiv, Nat.reduceSub, binA, arithA, strA, isC, cval, cv, TS T, f1, f16, f17, f18, c2, c3, c5, c7] <;> rfl) rfl ?_
          refine Wo.val rfl rfl rfl ?_
          refine Wo.nil ?_
          refine hx15 _ _ (by simp) (hn14 _ ?_)
          have hw := w64 (n := i) (by omega)
          refine Wc.rg ?_
          refine Wo.val rfl (by simp only [MS, Nat.reduceBEq, Nat.reduceBNe, Nat.reduceEqDiff, reduceIte, if_true, if_false, reduceCtorEq, Nat.reduceAdd, Nat.reduceMul, Nat.reduceLeDiff, Nat.reduceLT, Nat.reduceDiv, Nat.reduceSub, binA, arithA, strA, isC, cval, cv, TS T, f1, f16, f17, f18, c2, c3, c5, c7, hw] <;> rfl) rfl ?_
          refine Wo.val rfl rfl rfl ?_
          refine Wo.nil ?_
          exact hnL0 _ (k0 - 1) (by omega) ⟨i + 1, _, _, rfl, by omega, rfl, (by simp [look, f16]), (by simp [look, f17]), rfl⟩
      · try have d5 := of_decide_eq_false c5
        refine Wc.exit (hx13 _ _ (by simp) (hxL0 _ _ (by simp) (hb11 _ (hn10 _ ?_))))
        repeat refine Wc.assoc ?_
        refine Wc.seq fun K20 hn20 hx20 => ?_
        refine Wc.rg ?_
        refine Wo.val rfl rfl rfl ?_
        refine Wo.val rfl rfl rfl ?_
        refine Wo.nil ?_
        refine hn20 _ ?_
        exact Wc.ret ((hr0 _ _ [_, _] rfl ⟨rfl, _, _, rfl⟩))

theorem S.f35_ok {tb fc} (T : S.Ty tb) {call call' : Caller} {lf : Nat} (hlf : 2000000000000 ≤ lf) (hc : ∀ args h, call' (.fn 35) args h = runF tb fc call lf Tryz.f35 args h)
    {h : Hp} {v : V} {n : Nat} (hL : IL tb 22 3 h v n) (hpos : 0 < n) (hn4 : n ≤ 4000) : ∃ (x : Int), call' (.fn 35) [v] h = some (.ret (.i .i64 x), h) := by
  suffices H : Wf tb fc call lf Tryz.f35 [v] h (fun w h' => h' = h ∧ ∃ x : Int, w = .i .i64 x) by
    obtain ⟨w, h', h1, rfl, x, rfl⟩ := H
    exact ⟨x, by rw [hc]; exact h1⟩
  have hln := hL.len
  refine Wf.intro (sz := 25) rfl rfl fun K hn0 hr0 => ?_
  repeat refine Wc.assoc ?_
  refine Wc.seq fun K1 hn1 hx1 => ?_
  refine Wc.rg ?_
  refine Wo.val rfl rfl rfl ?_
  refine Wo.nil ?_
  refine hn1 _ ?_
  repeat refine Wc.assoc ?_
  refine Wc.seq fun K2 hn2 hx2 => ?_
  refine Wc.rg ?_
  refine Wo.val rfl rfl rfl ?_
  refine Wo.val rfl (by simp only [MS, Nat.reduceBEq, Nat.reduceBNe, Nat.reduceEqDiff, reduceIte, if_true, if_false, reduceCtorEq, Nat.reduceAdd, Nat.reduceMul, Nat.reduceLeDiff, Nat.reduceLT, Nat.reduceDiv, Nat.reduceSub, cval, cv, TS T, hln] <;> rfl) rfl ?_
  refine Wo.val rfl (by simp only [MS, Nat.reduceBEq, Nat.reduceBNe, Nat.reduceEqDiff, reduceIte, if_true, if_false, reduceCtorEq, Nat.reduceAdd, Nat.reduceMul, Nat.reduceLeDiff, Nat.reduceLT, Nat.reduceDiv, Nat.reduceSub, binA, arithA, strA, isC, cval, cv, TS T, hln] <;> rfl) rfl ?_
  refine Wo.nil ?_
  refine hn2 _ ?_
  repeat refine Wc.assoc ?_
  refine Wc.seq fun K3 hn3 hx3 => ?_
  refine Wc.cond rfl (fun c2 => ?_) (fun c2 => ?_)
  · try have d2 := of_decide_eq_true c2
    omega
  · try have d2 := of_decide_eq_false c2
    refine Wc.skip (hn3 _ ?_)
    repeat refine Wc.assoc ?_
    refine Wc.seq fun K4 hn4 hx4 => ?_
    obtain ⟨bb, oo, z, hia, hld, _⟩ := hL.at_ h (Ext.refl h) 0 hpos
    have hia0 : indexAddrA tb 22 v (.i .i64 0) = some (.p bb oo) := by simpa using hia
    refine Wc.rg ?_
    refine Wo.val rfl rfl rfl ?_
    refine Wo.val rfl (by simp only [MS, Nat.reduceBEq, Nat.reduceBNe, Nat.reduceEqDiff, reduceIte, if_true, if_false, reduceCtorEq, Nat.reduceAdd, Nat.reduceMul, Nat.reduceLeDiff, Nat.reduceLT, Nat.reduceDiv, Nat.reduceSub, cval, cv, TS T, c2, hia0, hld] <;> rfl) rfl ?_
    refine Wo.val rfl (by simp only [MS, Nat.reduceBEq, Nat.reduceBNe, Nat.reduceEqDiff, reduceIte, if_true, if_false, reduceCtorEq, Nat.reduceAdd, Nat.reduceMul, Nat.reduceLeDiff, Nat.reduceLT, Nat.reduceDiv, Nat.reduceSub, partV, TS T, c2, hia0, hld] <;> rfl) rfl ?_
    refine Wo.val rfl rfl rfl ?_
    refine Wo.nil ?_
    refine hn4 _ ?_
    repeat refine Wc.assoc ?_
    refine Wc.seq fun K5 hn5 hx5 => ?_
    refine Wc.rg ?_
    refine Wo.val rfl rfl rfl ?_
    refine Wo.nil ?_
    refine hn5 _ ?_
    repeat refine Wc.assoc ?_
    refine Wc.seq fun K6 hn6 hx6 => ?_
    refine Wc.block fun K7 hb7 hx7 => ?_
    refine Wc.loop (fun k0 s => ∃ (i : Nat) (y : Int) (fr : List (Nat × V)), s = ⟨fr, [], h⟩ ∧ (i + k0 = n + 1) ∧ (1 ≤ i) ∧ look fr 0 = some (v) ∧ look fr 3 = some (.i .i64 y) ∧ look fr 4 = some (.i .i64 (i : Nat))) (n) (by omega) ⟨1, _, _, rfl, by omega, by omega, rfl, rfl, rfl⟩ ?_
    rintro k0 _ ⟨i, y, fr, rfl, hik, hi1, f0, f3, f4⟩ KL0 hnL0 hxL0
    repeat refine Wc.assoc ?_
    refine Wc.seq fun K8 hn8 hx8 => ?_
    refine Wc.rg ?_
    refine Wo.val rfl (by first | rfl | (simp only [MS, Nat.reduceBEq, Nat.reduceBNe, Nat.reduceEqDiff, reduceIte, if_true, if_false, reduceCtorEq, Nat.reduceAdd, Nat.reduceMul, Nat.reduceLeDiff, Nat.reduceLT, Nat.reduceDiv, Nat.reduceSub, TS T, f0, f3, f4, c2, hln] <;> rfl)) rfl ?_
    refine Wo.val rfl (by first | rfl | (simp only [MS, Nat.reduceBEq, Nat.reduceBNe, Nat.reduceEqDiff, reduceIte, if_true, if_false, reduceCtorEq, Nat.reduceAdd, Nat.reduceMul, Nat.reduceLeDiff, Nat.reduceLT, Nat.reduceDiv, Nat.reduceSub, TS T, f0, f3, f4, c2, hln] <;> rfl)) rfl ?_
    refine Wo.val rfl (by simp only [MS, Nat.reduceBEq, Nat.reduceBNe, Nat.reduceEqDiff, reduceIte, if_true, if_false, reduceCtorEq, Nat.reduceAdd, Nat.reduceMul, Nat.reduceLeDiff, Nat.reduceLT, Nat.reduceDiv, Nat.reduceSub, cval, cv, TS T, f0, f3, f4, c2, hln] <;> rfl) rfl ?_
    refine Wo.val rfl (by simp only [MS, Nat.reduceBEq, Nat.reduceBNe, Nat.reduceEqDiff, reduceIte, if_true, if_false, reduceCtorEq, Nat.reduceAdd, Nat.reduceMul, Nat.reduceLeDiff, Nat.reduceLT, Nat.reduceDiv, Nat.reduceSub, binA, arithA, strA, isC, cval, cv, TS T, f0, f3, f4, c2, hln] <;> rfl) rfl ?_
    refine Wo.nil ?_
    refine hn8 _ ?_
    repeat refine Wc.assoc ?_
    refine Wc.seq fun K9 hn9 hx9 => ?_
    refine Wc.cond rfl (fun c5 => ?_) (fun c5 => ?_)
    · try have d5 := of_decide_eq_true c5
      refine Wc.skip (hn9 _ ?_)
      repeat refine Wc.assoc ?_
      refine Wc.seq fun K10 hn10 hx10 => ?_
      refine Wc.block fun K11 hb11 hx11 => ?_
      obtain ⟨bb, oo, z, hia, hld, _⟩ := hL.at_ h (Ext.refl h) i (by omega)
      refine Wc.rg ?_
      refine Wo.val rfl (by first | rfl | (simp only [MS, Nat.reduceBEq, Nat.reduceBNe, Nat.reduceEqDiff, reduceIte, if_true, if_false, reduceCtorEq, Nat.reduceAdd, Nat.reduceMul, Nat.reduceLeDiff, Nat.reduceLT, Nat.reduceDiv, Nat.reduceSub, TS T, f0, f3, f4, c2, c5, hia, hld] <;> rfl)) rfl ?_
      refine Wo.val rfl (by first | rfl | (simp only [MS, Nat.reduceBEq, Nat.reduceBNe, Nat.reduceEqDiff, reduceIte, if_true, if_false, reduceCtorEq, Nat.reduceAdd, Nat.reduceMul, Nat.reduceLeDiff, Nat.reduceLT, Nat.reduceDiv, Nat.reduceSub, TS T, f0, f3, f4, c2, c5, hia, hld] <;> rfl)) rfl ?_
      refine Wo.val rfl (by first | rfl | (simp only [MS, Nat.reduceBEq, Nat.reduceBNe, Nat.reduceEqDiff, reduceIte, if_true, if_false, reduceCtorEq, Nat.reduceAdd, Nat.reduceMul, Nat.reduceLeDiff, Nat.reduceLT, Nat.reduceDiv, Nat.reduceSub, TS T, f0, f3, f4, c2, c5, hia, hld] <;> rfl)) rfl ?_
      refine Wo.val rfl (by simp only [MS, Nat.reduceBEq, Nat.reduceBNe, Nat.reduceEqDiff, reduceIte, if_true, if_false, reduceCtorEq, Nat.reduceAdd, Nat.reduceMul, Nat.reduceLeDiff, Nat.reduceLT, Nat.reduceDiv, Nat.reduceSub, cval, cv, TS T, f0, f3, f4, c2, c5, hia, hld] <;> rfl) rfl ?_
      refine Wo.val rfl (by simp only [MS, Nat.reduceBEq, Nat.reduceBNe, Nat.reduceEqDiff, reduceIte, if_true, if_false, reduceCtorEq, Nat.reduceAdd, Nat.reduceMul, Nat.reduceLeDiff, Nat.reduceLT, Nat.reduceDiv, Nat.reduceSub, partV, TS T, f0, f3, f4, c2, c5, hia, hld] <;> rfl) rfl ?_
      refine Wo.val rfl (by simp only [MS, Nat.reduceBEq, Nat.reduceBNe, Nat.reduceEqDiff, reduceIte, if_true, if_false, reduceCtorEq, Nat.reduceAdd, Nat.reduceMul, Nat.reduceLeDiff, Nat.reduceLT, Nat.reduceDiv, Nat.reduceSub, bltA, intsA, intsA.go, cval, cv, TS T, f0, f3, f4, c2, c5, hia, hld] <;> rfl) rfl ?_
      refine Wo.val rfl rfl rfl ?_
      refine Wo.nil ?_
      refine hx11 _ _ (by simp) (hn10 _ ?_)
      have hw := w64 (n := i) (by omega)
      refine Wc.rg ?_
      refine Wo.val rfl (by first | rfl | (simp only [MS, Nat.reduceBEq, Nat.reduceBNe, Nat.reduceEqDiff, reduceIte, if_true, if_false, reduceCtorEq, Nat.reduceAdd, Nat.reduceMul, Nat.reduceLeDiff, Nat.reduceLT, Nat.reduceDiv, Nat.reduceSub, TS T, f0, f3, f4, c2, c5, hw] <;> rfl)) rfl ?_
      refine Wo.val rfl (by simp only [MS, Nat.reduceBEq, Nat.reduceBNe, Nat.reduceEqDiff, reduceIte, if_true, if_false, reduceCtorEq, Nat.reduceAdd, Nat.reduceMul, Nat.reduceLeDiff, Nat.reduceLT, Nat.reduceDiv, Nat.reduceSub, binA, arithA, strA, isC, cval, cv, TS T, f0, f3, f4, c2, c5, hw] <;> rfl) rfl ?_
      refine Wo.val rfl rfl rfl ?_
      refine Wo.nil ?_
      exact hnL0 _ (k0 - 1) (by omega) ⟨i + 1, _, _, rfl, by omega, by omega, (by simp [look, f0]), rfl, rfl⟩
    · try have d5 := of_decide_eq_false c5
      refine Wc.exit (hx9 _ _ (by simp) (hxL0 _ _ (by simp) (hb7 _ (hn6 _ ?_))))
      repeat refine Wc.assoc ?_
      refine Wc.seq fun K12 hn12 hx12 => ?_
      refine Wc.rg ?_
      refine Wo.val rfl (by first | rfl | (simp only [MS, Nat.reduceBEq, Nat.reduceBNe, Nat.reduceEqDiff, reduceIte, if_true, if_false, reduceCtorEq, Nat.reduceAdd, Nat.reduceMul, Nat.reduceLeDiff, Nat.reduceLT, Nat.reduceDiv, Nat.reduceSub, TS T, f0, f3, f4, c2, c5] <;> rfl)) rfl ?_
      refine Wo.val rfl rfl rfl ?_
      refine Wo.nil ?_
      refine hn12 _ ?_
      exact Wc.ret ((hr0 _ _ [_] rfl ⟨rfl, _, rfl⟩))

theorem S.f36_ok {tb fc} (T : S.Ty tb) {call call' : Caller} {lf : Nat} (hlf : 2000000000000 ≤ lf) (hc : ∀ args h, call' (.fn 36) args h = runF tb fc call lf Tryz.f36 args h)
    {h : Hp} {u v : V} {m n : Nat} (hU : IL tb 22 3 h u m) (hL : IL tb 22 3 h v n) (hm4 : m ≤ 4000) : ∃ t : Bool, call' (.fn 36) [u, v] h = some (.ret (.b t), h) ∧ (m = 0 → n = 0 → t = true) := by
  suffices H : Wf tb fc call lf Tryz.f36 [u, v] h (fun w h' => h' = h ∧ ∃ t : Bool, w = .b t ∧ (m = 0 → n = 0 → t = true)) by
    obtain ⟨w, h', h1, rfl, x, rfl, h2⟩ := H
    exact ⟨x, by rw [hc]; exact h1, h2⟩
  have hlu := hU.len
  have hln := hL.len
  refine Wf.intro (sz := 26) rfl rfl fun K hn0 hr0 => ?_
  repeat refine Wc.assoc ?_
  refine Wc.seq fun K1 hn1 hx1 => ?_
  refine Wc.rg ?_
  refine Wo.val rfl rfl rfl ?_
  refine Wo.nil ?_
  refine hn1 _ ?_
  repeat refine Wc.assoc ?_
  refine Wc.seq fun K2 hn2 hx2 => ?_
  refine Wc.rg ?_
  refine Wo.val rfl rfl rfl ?_
  refine Wo.val rfl (by simp only [MS, Nat.reduceBEq, Nat.reduceBNe, Nat.reduceEqDiff, reduceIte, if_true, if_false, reduceCtorEq, Nat.reduceAdd, Nat.reduceMul, Nat.reduceLeDiff, Nat.reduceLT, Nat.reduceDiv, Nat.reduceSub, cval, cv, TS T, hln, hlu] <;> rfl) rfl ?_
  refine Wo.val rfl rfl rfl ?_
  refine Wo.val rfl (by simp only [MS, Nat.reduceBEq, Nat.reduceBNe, Nat.reduceEqDiff, reduceIte, if_true, if_false, reduceCtorEq, Nat.reduceAdd, Nat.reduceMul, Nat.reduceLeDiff, Nat.reduceLT, Nat.reduceDiv, Nat.reduceSub, cval, cv, TS T, hln, hlu] <;> rfl) rfl ?_
  refine Wo.val rfl (by simp only [MS, Nat.reduceBEq, Nat.reduceBNe, Nat.reduceEqDiff, reduceIte, if_true, if_false, reduceCtorEq, Nat.reduceAdd, Nat.reduceMul, Nat.reduceLeDiff, Nat.reduceLT, Nat.reduceDiv, Nat.reduceSub, binA, arithA, strA, isC, cval, cv, TS T, hln, hlu] <;> rfl) rfl ?_
  refine Wo.nil ?_
  refine hn2 _ ?_
  repeat refine Wc.assoc ?_
  refine Wc.seq fun K3 hn3 hx3 => ?_
  refine Wc.cond rfl (fun c3 => ?_) (fun c3 => ?_)
  · try have d3 := bne_iff_ne.1 c3
    repeat refine Wc.assoc ?_
    refine Wc.seq fun K4 hn4 hx4 => ?_
    refine Wc.rg ?_
    refine Wo.val rfl rfl rfl ?_
    refine Wo.nil ?_
    refine hn4 _ ?_
    exact Wc.ret (hx3 _ _ (by simp) ((hr0 _ _ [_] rfl ⟨rfl, _, rfl, fun _ _ => by first | rfl | omega⟩)))
  · try have d3 := bne_eq_false_iff_eq.1 c3
    refine Wc.skip (hn3 _ ?_)
    repeat refine Wc.assoc ?_
    refine Wc.seq fun K5 hn5 hx5 => ?_
    refine Wc.rg ?_
    refine Wo.val rfl rfl rfl ?_
    refine Wo.val rfl (by simp only [MS, Nat.reduceBEq, Nat.reduceBNe, Nat.reduceEqDiff, reduceIte, if_true, if_false, reduceCtorEq, Nat.reduceAdd, Nat.reduceMul, Nat.reduceLeDiff, Nat.reduceLT, Nat.reduceDiv, Nat.reduceSub, cval, cv, TS T, c3, hln, hlu] <;> rfl) rfl ?_
    refine Wo.val rfl rfl rfl ?_
    refine Wo.nil ?_
    refine hn5 _ ?_
    repeat refine Wc.assoc ?_
    refine Wc.seq fun K6 hn6 hx6 => ?_
    refine Wc.block fun K7 hb7 hx7 => ?_
    refine Wc.loop (fun k0 s => ∃ (i : Nat) (fr : List (Nat × V)), s = ⟨fr, [], h⟩ ∧ (i + k0 = m) ∧ look fr 0 = some (u) ∧ look fr 1 = some (v) ∧ look fr 12 = some (.i .i64 (m : Nat)) ∧ look fr 13 = some (.i .i64 (i : Nat))) (n) (by omega) ⟨0, _, rfl, by omega, rfl, rfl, rfl, rfl⟩ ?_
    rintro k0 _ ⟨i, fr, rfl, hik, f0, f1, f12, f13⟩ KL0 hnL0 hxL0
    repeat refine Wc.assoc ?_
    refine Wc.seq fun K8 hn8 hx8 => ?_
    refine Wc.rg ?_
    refine Wo.val rfl (by simp only [MS, Nat.reduceBEq, Nat.reduceBNe, Nat.reduceEqDiff, reduceIte, if_true, if_false, reduceCtorEq, Nat.reduceAdd, Nat.reduceMul, Nat.reduceLeDiff, Nat.reduceLT, Nat.reduceDiv, Nat.reduceSub, binA, arithA, strA, isC, cval, cv, TS T, f0, f1, f12, f13, c3] <;> rfl) rfl ?_
    refine Wo.nil ?_
    refine hn8 _ ?_
    repeat refine Wc.assoc ?_
    refine Wc.seq fun K9 hn9 hx9 => ?_
    refine Wc.cond rfl (fun c5 => ?_) (fun c5 => ?_)
    · try have d5 := of_decide_eq_true c5
      refine Wc.skip (hn9 _ ?_)
      repeat refine Wc.assoc ?_
      refine Wc.seq fun K10 hn10 hx10 => ?_
      refine Wc.block fun K11 hb11 hx11 => ?_
      repeat refine Wc.assoc ?_
      refine Wc.seq fun K12 hn12 hx12 => ?_
      refine Wc.rg ?_
      refine Wo.val rfl (by first | rfl | (simp only [MS, Nat.reduceBEq, Nat.reduceBNe, Nat.reduceEqDiff, reduceIte, if_true, if_false, reduceCtorEq, Nat.reduceAdd, Nat.reduceMul, Nat.reduceLeDiff, Nat.reduceLT, Nat.reduceDiv, Nat.reduceSub, TS T, f0, f1, f12, f13, c3, c5] <;> rfl)) rfl ?_
      refine Wo.val rfl rfl rfl ?_
      refine Wo.nil ?_
      refine hn12 _ ?_
      repeat refine Wc.assoc ?_
      refine Wc.seq fun K13 hn13 hx13 => ?_
      obtain ⟨bb, oo, z, hia, hld, _⟩ := hL.at_ h (Ext.refl h) i (by omega)
      obtain ⟨bb2, oo2, z2, hia2, hld2, _⟩ := hU.at_ h (Ext.refl h) i (by omega)
      refine Wc.drawn [.p 0 [16, 17, 18, 19, 20, 21, 22, 23, 24] none, .p 1 [16, 17, 18, 19, 20, 21, 22, 23, 24] none, .p 2 [18, 19, 20, 21, 22, 23, 24] none, .p 3 [19, 20, 21, 22, 23, 24] none, .p 4 [16, 17, 18, 19, 20, 21, 22, 23, 24] none, .p 5 [16, 17, 18, 19, 20, 21, 22, 23, 24] none, .p 6 [16, 17, 18, 19, 22, 23, 24] none, .p 7 [16, 17, 18, 19, 23, 24] none, .p 8 [24] none] (by kernel_rfl) ?_
      refine Wz.v rfl rfl rfl (by first | rfl | (simp only [MS, Nat.reduceBEq, Nat.reduceBNe, Nat.reduceEqDiff, reduceIte, if_true, if_false, reduceCtorEq, Nat.reduceAdd, Nat.reduceMul, Nat.reduceLeDiff, Nat.reduceLT, Nat.reduceDiv, Nat.reduceSub, evR, List.contains, List.elem, TS T, f0, f1, f12, f13, c3, c5, hia, hld, hia2, hld2] <;> rfl)) rfl ?_
      refine Wz.v rfl rfl rfl rfl rfl ?_
      refine Wz.v rfl rfl rfl (by simp only [MS, Nat.reduceBEq, Nat.reduceBNe, Nat.reduceEqDiff, reduceIte, if_true, if_false, reduceCtorEq, Nat.reduceAdd, Nat.reduceMul, Nat.reduceLeDiff, Nat.reduceLT, Nat.reduceDiv, Nat.reduceSub, cval, cv, evR, List.contains, List.elem, TS T, f0, f1, f12, f13, c3, c5, hia, hld, hia2, hld2] <;> rfl) rfl ?_
      refine Wz.ld rfl rfl rfl (by simp only [MS, Nat.reduceBEq, Nat.reduceBNe, Nat.reduceEqDiff, reduceIte, if_true, if_false, reduceCtorEq, Nat.reduceAdd, Nat.reduceMul, Nat.reduceLeDiff, Nat.reduceLT, Nat.reduceDiv, Nat.reduceSub, partV, evR, List.contains, List.elem, TS T, f0, f1, f12, f13, c3, c5, hia, hld, hia2, hld2] <;> rfl) rfl ?_
      refine Wz.v rfl rfl rfl (by first | rfl | (simp only [MS, Nat.reduceBEq, Nat.reduceBNe, Nat.reduceEqDiff, reduceIte, if_true, if_false, reduceCtorEq, Nat.reduceAdd, Nat.reduceMul, Nat.reduceLeDiff, Nat.reduceLT, Nat.reduceDiv, Nat.reduceSub, evR, List.contains, List.elem, TS T, f0, f1, f12, f13, c3, c5, hia, hld, hia2, hld2] <;> rfl)) rfl ?_
      refine Wz.v rfl rfl rfl rfl rfl ?_
      refine Wz.v rfl rfl rfl (by simp only [MS, Nat.reduceBEq, Nat.reduceBNe, Nat.reduceEqDiff, reduceIte, if_true, if_false, reduceCtorEq, Nat.reduceAdd, Nat.reduceMul, Nat.reduceLeDiff, Nat.reduceLT, Nat.reduceDiv, Nat.reduceSub, cval, cv, evR, List.contains, List.elem, TS T, f0, f1, f12, f13, c3, c5, hia, hld, hia2, hld2] <;> rfl) rfl ?_
      refine Wz.ld rfl rfl rfl (by simp only [MS, Nat.reduceBEq, Nat.reduceBNe, Nat.reduceEqDiff, reduceIte, if_true, if_false, reduceCtorEq, Nat.reduceAdd, Nat.reduceMul, Nat.reduceLeDiff, Nat.reduceLT, Nat.reduceDiv, Nat.reduceSub, partV, evR, List.contains, List.elem, TS T, f0, f1, f12, f13, c3, c5, hia, hld, hia2, hld2] <;> rfl) rfl ?_
      refine Wz.v rfl rfl rfl (by simp only [MS, Nat.reduceBEq, Nat.reduceBNe, Nat.reduceEqDiff, reduceIte, if_true, if_false, reduceCtorEq, Nat.reduceAdd, Nat.reduceMul, Nat.reduceLeDiff, Nat.reduceLT, Nat.reduceDiv, Nat.reduceSub, binA, arithA, strA, isC, cval, cv, evR, List.contains, List.elem, TS T, f0, f1, f12, f13, c3, c5, hia, hld, hia2, hld2] <;> rfl) rfl ?_
      refine Wz.nil ?_
      refine hn13 _ ?_
      refine Wc.cond rfl (fun c8 => ?_) (fun c8 => ?_)
      · try have d8 := bne_iff_ne.1 c8
        repeat refine Wc.assoc ?_
        refine Wc.seq fun K14 hn14 hx14 => ?_
        refine Wc.rg ?_
        refine Wo.val rfl rfl rfl ?_
        refine Wo.nil ?_
        refine hn14 _ ?_
        exact Wc.ret (hx11 _ _ (by simp) (hx10 _ _ (by simp) (hxL0 _ _ (by simp) (hx7 _ _ (by simp) (hx6 _ _ (by simp) ((hr0 _ _ [_] rfl ⟨rfl, _, rfl, fun _ _ => by first | rfl | omega⟩)))))))
      · try have d8 := bne_eq_false_iff_eq.1 c8
        refine Wc.skip (hx11 _ _ (by simp) (hn10 _ ?_))
        have hw := w64 (n := i) (by omega)
        refine Wc.rg ?_
        refine Wo.val rfl (by simp only [MS, Nat.reduceBEq, Nat.reduceBNe, Nat.reduceEqDiff, reduceIte, if_true, if_false, reduceCtorEq, Nat.reduceAdd, Nat.reduceMul, Nat.reduceLeDiff, Nat.reduceLT, Nat.reduceDiv, Nat.reduceSub, binA, arithA, strA, isC, cval, cv, TS T, f0, f1, f12, f13, c3, c5, c8, hw] <;> rfl) rfl ?_
        refine Wo.val rfl rfl rfl ?_
        refine Wo.nil ?_
        exact hnL0 _ (k0 - 1) (by omega) ⟨i + 1, _, rfl, by omega, (by simp [look, f0]), (by simp [look, f1]), (by simp [look, f12]), rfl⟩
    · try have d5 := of_decide_eq_false c5
      refine Wc.exit (hx9 _ _ (by simp) (hxL0 _ _ (by simp) (hb7 _ (hn6 _ ?_))))
      repeat refine Wc.assoc ?_
      refine Wc.seq fun K15 hn15 hx15 => ?_
      refine Wc.rg ?_
      refine Wo.val rfl rfl rfl ?_
      refine Wo.nil ?_
      refine hn15 _ ?_
      exact Wc.ret ((hr0 _ _ [_] rfl ⟨rfl, _, rfl, fun _ _ => by first | rfl | omega⟩))

theorem S.f37_ok {tb fc} (T : S.Ty tb) {call call' : Caller} {lf : Nat} (hc : ∀ args h, call' (.fn 37) args h = runF tb fc call lf Tryz.f37 args h)
    {G : Nat → Option BT} {r : Nat} {h : Hp} {v : V} {n : Nat} (hT : TOk G h) (hv : LfOk G r true (.sl [.int .i64]) v) (hln : bltA tb .len #[22] [v] = some (.i .i64 n)) (hn4 : n ≤ 4000) : ∃ w h', call' (.fn 37) [v] h = some (.ret w, h') ∧ Ext h h' ∧ IntRes h h' w := by
  suffices H : Wf tb fc call lf Tryz.f37 [v] h (fun w h' => Ext h h' ∧ IntRes h h' w) by
    obtain ⟨w, h', h1, h2⟩ := H
    exact ⟨w, h', by rw [hc]; exact h1, h2⟩
  rcases clone_of T.n hT hv hln (by omega) with rfl | ⟨w, h1, h2, hq1, hq2, hbs, hap, hx, hr⟩
  · skip
    refine Wf.intro (sz := 8) rfl rfl fun K hn0 hr0 => ?_
    repeat refine Wc.assoc ?_
    refine Wc.seq fun K1 hn1 hx1 => ?_
    refine Wc.rg ?_
    refine Wo.val rfl rfl rfl ?_
    refine Wo.nil ?_
    refine hn1 _ ?_
    repeat refine Wc.assoc ?_
    refine Wc.seq fun K2 hn2 hx2 => ?_
    refine Wc.rg ?_
    refine Wo.val rfl rfl rfl ?_
    refine Wo.val rfl (by simp only [MS, Nat.reduceBEq, Nat.reduceBNe, Nat.reduceEqDiff, reduceIte, if_true, if_false, reduceCtorEq, Nat.reduceAdd, Nat.reduceMul, Nat.reduceLeDiff, Nat.reduceLT, Nat.reduceDiv, Nat.reduceSub, binA, arithA, strA, isC, cval, cv, TS T, eqA, eqIn] <;> rfl) rfl ?_
    refine Wo.nil ?_
    refine hn2 _ ?_
    repeat refine Wc.assoc ?_
    refine Wc.seq fun K3 hn3 hx3 => ?_
    refine Wc.cond rfl (fun c1 => ?_) (fun c1 => ?_)
    · try have d1 := beq_iff_eq.1 c1
      repeat refine Wc.assoc ?_
      refine Wc.seq fun K4 hn4 hx4 => ?_
      refine Wc.rg ?_
      refine Wo.val rfl rfl rfl ?_
      refine Wo.nil ?_
      refine hn4 _ ?_
      exact Wc.ret (hx3 _ _ (by simp) ((hr0 _ _ [_] rfl ⟨Ext.refl h, .inl rfl⟩)))
    · try have d1 := beq_eq_false_iff_ne.1 c1
      refine Wc.skip (hn3 _ ?_)
      repeat refine Wc.assoc ?_
      refine Wc.seq fun K5 hn5 hx5 => ?_
      cases c1
  · skip
    refine Wf.intro (sz := 8) rfl rfl fun K hn0 hr0 => ?_
    repeat refine Wc.assoc ?_
    refine Wc.seq fun K1 hn1 hx1 => ?_
    refine Wc.rg ?_
    refine Wo.val rfl rfl rfl ?_
    refine Wo.nil ?_
    refine hn1 _ ?_
    repeat refine Wc.assoc ?_
    refine Wc.seq fun K2 hn2 hx2 => ?_
    refine Wc.rg ?_
    refine Wo.val rfl rfl rfl ?_
    refine Wo.val rfl (by simp only [MS, Nat.reduceBEq, Nat.reduceBNe, Nat.reduceEqDiff, reduceIte, if_true, if_false, reduceCtorEq, Nat.reduceAdd, Nat.reduceMul, Nat.reduceLeDiff, Nat.reduceLT, Nat.reduceDiv, Nat.reduceSub, arithA, strA, isC, cval, cv, TS T, hq2] <;> rfl) rfl ?_
    refine Wo.nil ?_
    refine hn2 _ ?_
    repeat refine Wc.assoc ?_
    refine Wc.seq fun K3 hn3 hx3 => ?_
    refine Wc.cond rfl (fun c1 => ?_) (fun c1 => ?_)
    · try have d1 := beq_iff_eq.1 c1
      repeat refine Wc.assoc ?_
      refine Wc.seq fun K4 hn4 hx4 => ?_
      refine Wc.rg ?_
      refine Wo.val rfl rfl rfl ?_
      refine Wo.nil ?_
      refine hn4 _ ?_
      exact Wc.ret (hx3 _ _ (by simp) ((hr0 _ _ [_] rfl ⟨Ext.refl h, .inl rfl⟩)))
    · try have d1 := beq_eq_false_iff_ne.1 c1
      refine Wc.skip (hn3 _ ?_)
      repeat refine Wc.assoc ?_
      refine Wc.seq fun K5 hn5 hx5 => ?_
      refine Wc.rg ?_
      refine Wo.val rfl (by simp only [MS, Nat.reduceBEq, Nat.reduceBNe, Nat.reduceEqDiff, reduceIte, if_true, if_false, reduceCtorEq, Nat.reduceAdd, Nat.reduceMul, Nat.reduceLeDiff, Nat.reduceLT, Nat.reduceDiv, Nat.reduceSub, partsA, cval, cv, TS T, c1, hbs, hap] <;> rfl) rfl ?_
      refine Wo.val rfl rfl rfl ?_
      refine Wo.val rfl (by simp only [MS, Nat.reduceBEq, Nat.reduceBNe, Nat.reduceEqDiff, reduceIte, if_true, if_false, reduceCtorEq, Nat.reduceAdd, Nat.reduceMul, Nat.reduceLeDiff, Nat.reduceLT, Nat.reduceDiv, Nat.reduceSub, cval, cv, TS T, c1, hbs, hap] <;> rfl) rfl ?_
      refine Wo.val rfl rfl rfl ?_
      refine Wo.nil ?_
      refine hn5 _ ?_
      exact Wc.ret ((hr0 _ _ [_] rfl ⟨hx, hr⟩))

theorem S.f16_ok {tb fc} (T : S.Ty tb) {call call' : Caller} {lf : Nat} (hlf : 2000000000000 ≤ lf) (hc : ∀ args h, call' (.fn 16) args h = runF tb fc call lf Tryz.f16 args h)
    (h8 : ∀ {h : Hp} {v : V} {n : Nat}, IL tb 22 3 h v n → ∃ e : Int, call (.fn 8) [v] h = some (.ret (.i .i64 e), h) ∧ (e = 0 → 0 < n ∧ n ≤ 4000))
    {G : Nat → Option BT} {r : Nat} {h : Hp} {v : V} (hT : TOk G h) (hv : LfOk G r true (.sl [.int .i64]) v) (kk : Int) : ∃ (w : V), call' (.fn 16) [v, .i .i64 kk] h = some (.ret w, h) := by
  suffices H : Wf tb fc call lf Tryz.f16 [v, .i .i64 kk] h (fun w h' => h' = h) by
    obtain ⟨w, h', h1, rfl⟩ := H
    exact ⟨w, by rw [hc]; exact h1⟩
  obtain ⟨n, hL⟩ := IL.of (S.nt T) hT hv
  have hln := hL.len
  obtain ⟨e8, hcall, he8⟩ := h8 hL
  refine Wf.intro (sz := 69) rfl rfl fun K hn0 hr0 => ?_
  repeat refine Wc.assoc ?_
  refine Wc.seq fun K1 hn1 hx1 => ?_
  refine Wc.rg ?_
  refine Wo.val rfl rfl rfl ?_
  refine Wo.val rfl rfl rfl ?_
  refine Wo.val rfl rfl rfl ?_
  refine Wo.nil ?_
  refine hn1 _ ?_
  repeat refine Wc.assoc ?_
  refine Wc.seq fun K2 hn2 hx2 => ?_
  refine Wc.rg ?_
  refine Wo.val rfl rfl rfl ?_
  refine Wo.cl rfl rfl rfl (by first | rfl | (simp only [MS, Nat.reduceBEq, Nat.reduceBNe, Nat.reduceEqDiff, reduceIte, if_true, if_false, reduceCtorEq, Nat.reduceAdd, Nat.reduceMul, Nat.reduceLeDiff, Nat.reduceLT, Nat.reduceDiv, Nat.reduceSub, cval, cv, TS T] <;> rfl)) (by first | rfl | (simp only [MS, Nat.reduceBEq, Nat.reduceBNe, Nat.reduceEqDiff, reduceIte, if_true, if_false, reduceCtorEq, Nat.reduceAdd, Nat.reduceMul, Nat.reduceLeDiff, Nat.reduceLT, Nat.reduceDiv, Nat.reduceSub, cval, cv, TS T] <;> rfl)) (fun _ => rfl) ?_
  refine ⟨_, h, hcall, ?_⟩
  refine Wo.val rfl rfl rfl ?_
  refine Wo.nil ?_
  refine hn2 _ ?_
  repeat refine Wc.assoc ?_
  refine Wc.seq fun K3 hn3 hx3 => ?_
  refine Wc.rg ?_
  refine Wo.val rfl rfl rfl ?_
  refine Wo.val rfl (by simp only [MS, Nat.reduceBEq, Nat.reduceBNe, Nat.reduceEqDiff, reduceIte, if_true, if_false, reduceCtorEq, Nat.reduceAdd, Nat.reduceMul, Nat.reduceLeDiff, Nat.reduceLT, Nat.reduceDiv, Nat.reduceSub, binA, arithA, strA, isC, cval, cv, TS T] <;> rfl) rfl ?_
  refine Wo.nil ?_
  refine hn3 _ ?_
  repeat refine Wc.assoc ?_
  refine Wc.seq fun K4 hn4 hx4 => ?_
  refine Wc.cond rfl (fun c2 => ?_) (fun c2 => ?_)
  · try have d2 := bne_iff_ne.1 c2
    repeat refine Wc.assoc ?_
    refine Wc.seq fun K5 hn5 hx5 => ?_
    refine Wc.rg ?_
    refine Wo.val rfl rfl rfl ?_
    refine Wo.val rfl rfl rfl ?_
    refine Wo.val rfl rfl rfl ?_
    refine Wo.val rfl rfl rfl ?_
    refine Wo.nil ?_
    refine hn5 _ ?_
    exact Wc.ret (hx4 _ _ (by simp) ((hr0 _ _ [_, _, _] rfl rfl)))
  · try have d2 := bne_eq_false_iff_eq.1 c2
    refine Wc.skip (hn4 _ ?_)
    repeat refine Wc.assoc ?_
    refine Wc.seq fun K6 hn6 hx6 => ?_
    refine Wc.rg ?_
    refine Wo.val rfl rfl rfl ?_
    refine Wo.val rfl (by simp only [MS, Nat.reduceBEq, Nat.reduceBNe, Nat.reduceEqDiff, reduceIte, if_true, if_false, reduceCtorEq, Nat.reduceAdd, Nat.reduceMul, Nat.reduceLeDiff, Nat.reduceLT, Nat.reduceDiv, Nat.reduceSub, binA, arithA, strA, isC, cval, cv, TS T, c2, hln] <;> rfl) rfl ?_
    refine Wo.val rfl rfl rfl ?_
    refine Wo.split (n := 19) rfl (fun c3 => ?_) (fun c3 => ?_)
    · try have d3 := of_decide_eq_true c3
      refine Wo.skip (by first | rfl | (simp only [wantedA, wantedP, evR, List.contains, List.elem, MS, Nat.reduceBEq, Nat.reduceBNe, Nat.reduceEqDiff, reduceIte, if_true, if_false, reduceCtorEq, Nat.reduceAdd, Nat.reduceMul, Nat.reduceLeDiff, Nat.reduceLT, Nat.reduceDiv, Nat.reduceSub, c2, c3, hln] <;> rfl)) rfl ?_
      refine Wo.skip (by first | rfl | (simp only [wantedA, wantedP, evR, List.contains, List.elem, MS, Nat.reduceBEq, Nat.reduceBNe, Nat.reduceEqDiff, reduceIte, if_true, if_false, reduceCtorEq, Nat.reduceAdd, Nat.reduceMul, Nat.reduceLeDiff, Nat.reduceLT, Nat.reduceDiv, Nat.reduceSub, c2, c3, hln] <;> rfl)) rfl ?_
      refine Wo.skip (by first | rfl | (simp only [wantedA, wantedP, evR, List.contains, List.elem, MS, Nat.reduceBEq, Nat.reduceBNe, Nat.reduceEqDiff, reduceIte, if_true, if_false, reduceCtorEq, Nat.reduceAdd, Nat.reduceMul, Nat.reduceLeDiff, Nat.reduceLT, Nat.reduceDiv, Nat.reduceSub, c2, c3, hln] <;> rfl)) rfl ?_
      refine Wo.skip (by first | rfl | (simp only [wantedA, wantedP, evR, List.contains, List.elem, MS, Nat.reduceBEq, Nat.reduceBNe, Nat.reduceEqDiff, reduceIte, if_true, if_false, reduceCtorEq, Nat.reduceAdd, Nat.reduceMul, Nat.reduceLeDiff, Nat.reduceLT, Nat.reduceDiv, Nat.reduceSub, c2, c3, hln] <;> rfl)) rfl ?_
      refine Wo.val rfl (by first | rfl | (simp only [MS, Nat.reduceBEq, Nat.reduceBNe, Nat.reduceEqDiff, reduceIte, if_true, if_false, reduceCtorEq, Nat.reduceAdd, Nat.reduceMul, Nat.reduceLeDiff, Nat.reduceLT, Nat.reduceDiv, Nat.reduceSub, cval, cv, TS T, c2, c3, hln] <;> rfl)) rfl ?_
      refine Wo.nil ?_
      refine hn6 _ ?_
      repeat refine Wc.assoc ?_
      refine Wc.seq fun K7 hn7 hx7 => ?_
      refine Wc.cond (t := true) (by first | rfl | (simp only [evF, look, c2, c3]; rfl) | simp [evF, look, c2, c3]) (fun _ => ?_) (fun h => by cases h)
      repeat refine Wc.assoc ?_
      refine Wc.seq fun K8 hn8 hx8 => ?_
      refine Wc.rg ?_
      refine Wo.val rfl rfl rfl ?_
      refine Wo.val rfl rfl rfl ?_
      refine Wo.val rfl rfl rfl ?_
      refine Wo.nil ?_
      refine hn8 _ ?_
      exact Wc.ret (hx7 _ _ (by simp) ((hr0 _ _ [_, _, _] rfl rfl)))
    · try have d3 := of_decide_eq_false c3
      refine Wo.val (by first | rfl | (simp only [wantedA, wantedP, evR, List.contains, List.elem, MS, Nat.reduceBEq, Nat.reduceBNe, Nat.reduceEqDiff, reduceIte, if_true, if_false, reduceCtorEq, Nat.reduceAdd, Nat.reduceMul, Nat.reduceLeDiff, Nat.reduceLT, Nat.reduceDiv, Nat.reduceSub, c2, c3, hln] <;> rfl)) (by first | rfl | (simp only [MS, Nat.reduceBEq, Nat.reduceBNe, Nat.reduceEqDiff, reduceIte, if_true, if_false, reduceCtorEq, Nat.reduceAdd, Nat.reduceMul, Nat.reduceLeDiff, Nat.reduceLT, Nat.reduceDiv, Nat.reduceSub, TS T, c2, c3, hln] <;> rfl)) rfl ?_
      refine Wo.val (by first | rfl | (simp only [wantedA, wantedP, evR, List.contains, List.elem, MS, Nat.reduceBEq, Nat.reduceBNe, Nat.reduceEqDiff, reduceIte, if_true, if_false, reduceCtorEq, Nat.reduceAdd, Nat.reduceMul, Nat.reduceLeDiff, Nat.reduceLT, Nat.reduceDiv, Nat.reduceSub, c2, c3, hln] <;> rfl)) (by first | rfl | (simp only [MS, Nat.reduceBEq, Nat.reduceBNe, Nat.reduceEqDiff, reduceIte, if_true, if_false, reduceCtorEq, Nat.reduceAdd, Nat.reduceMul, Nat.reduceLeDiff, Nat.reduceLT, Nat.reduceDiv, Nat.reduceSub, TS T, c2, c3, hln] <;> rfl)) rfl ?_
      refine Wo.val (by first | rfl | (simp only [wantedA, wantedP, evR, List.contains, List.elem, MS, Nat.reduceBEq, Nat.reduceBNe, Nat.reduceEqDiff, reduceIte, if_true, if_false, reduceCtorEq, Nat.reduceAdd, Nat.reduceMul, Nat.reduceLeDiff, Nat.reduceLT, Nat.reduceDiv, Nat.reduceSub, c2, c3, hln] <;> rfl)) (by simp only [MS, Nat.reduceBEq, Nat.reduceBNe, Nat.reduceEqDiff, reduceIte, if_true, if_false, reduceCtorEq, Nat.reduceAdd, Nat.reduceMul, Nat.reduceLeDiff, Nat.reduceLT, Nat.reduceDiv, Nat.reduceSub, cval, cv, TS T, c2, c3, hln] <;> rfl) rfl ?_
      refine Wo.val (by first | rfl | (simp only [wantedA, wantedP, evR, List.contains, List.elem, MS, Nat.reduceBEq, Nat.reduceBNe, Nat.reduceEqDiff, reduceIte, if_true, if_false, reduceCtorEq, Nat.reduceAdd, Nat.reduceMul, Nat.reduceLeDiff, Nat.reduceLT, Nat.reduceDiv, Nat.reduceSub, c2, c3, hln] <;> rfl)) (by simp only [MS, Nat.reduceBEq, Nat.reduceBNe, Nat.reduceEqDiff, reduceIte, if_true, if_false, reduceCtorEq, Nat.reduceAdd, Nat.reduceMul, Nat.reduceLeDiff, Nat.reduceLT, Nat.reduceDiv, Nat.reduceSub, binA, arithA, strA, isC, cval, cv, TS T, c2, c3, hln] <;> rfl) rfl ?_
      refine Wo.val rfl (by first | rfl | (simp only [MS, Nat.reduceBEq, Nat.reduceBNe, Nat.reduceEqDiff, reduceIte, if_true, if_false, reduceCtorEq, Nat.reduceAdd, Nat.reduceMul, Nat.reduceLeDiff, Nat.reduceLT, Nat.reduceDiv, Nat.reduceSub, cval, cv, TS T, c2, c3, hln] <;> rfl)) rfl ?_
      refine Wo.nil ?_
      refine hn6 _ ?_
      repeat refine Wc.assoc ?_
      refine Wc.seq fun K9 hn9 hx9 => ?_
      refine Wc.cond rfl (fun c5 => ?_) (fun c5 => ?_)
      · try have d5 := of_decide_eq_true c5
        repeat refine Wc.assoc ?_
        refine Wc.seq fun K10 hn10 hx10 => ?_
        refine Wc.rg ?_
        refine Wo.val rfl rfl rfl ?_
        refine Wo.val rfl rfl rfl ?_
        refine Wo.val rfl rfl rfl ?_
        refine Wo.nil ?_
        refine hn10 _ ?_
        exact Wc.ret (hx9 _ _ (by simp) ((hr0 _ _ [_, _, _] rfl rfl)))
      · try have d5 := of_decide_eq_false c5
        refine Wc.skip (hn9 _ ?_)
        repeat refine Wc.assoc ?_
        refine Wc.seq fun K11 hn11 hx11 => ?_
        refine Wc.rg ?_
        refine Wo.val rfl rfl rfl ?_
        refine Wo.nil ?_
        refine hn11 _ ?_
        repeat refine Wc.assoc ?_
        refine Wc.seq fun K12 hn12 hx12 => ?_
        obtain ⟨hn0', hn4⟩ := he8 (by assumption)
        obtain ⟨q, rfl⟩ : ∃ q : Nat, kk = q := ⟨kk.toNat, by omega⟩
        obtain ⟨v1, hs1, hv1, hL1⟩ := IL.cut (S.nt T) (S.rt T) hT hv hln (lo := none) (hi := some (q : Int)) (a := 0) (c := q) (.inl ⟨rfl, rfl⟩) (.inr rfl) (by omega) (by omega)
        have hln1 := hL1.len
        refine Wc.rg ?_
        refine Wo.val rfl rfl rfl ?_
        refine Wo.val rfl rfl rfl ?_
        refine Wo.val rfl (by simp only [MS, Nat.reduceBEq, Nat.reduceBNe, Nat.reduceEqDiff, reduceIte, if_true, if_false, reduceCtorEq, Nat.reduceAdd, Nat.reduceMul, Nat.reduceLeDiff, Nat.reduceLT, Nat.reduceDiv, Nat.reduceSub, bnd, bnds, TS T, c2, c3, c5, hs1, hln1] <;> rfl) rfl ?_
        refine Wo.val rfl (by simp only [MS, Nat.reduceBEq, Nat.reduceBNe, Nat.reduceEqDiff, reduceIte, if_true, if_false, reduceCtorEq, Nat.reduceAdd, Nat.reduceMul, Nat.reduceLeDiff, Nat.reduceLT, Nat.reduceDiv, Nat.reduceSub, cval, cv, TS T, c2, c3, c5, hs1, hln1] <;> rfl) rfl ?_
        refine Wo.val rfl rfl rfl ?_
        refine Wo.nil ?_
        refine hn12 _ ?_
        repeat refine Wc.assoc ?_
        refine Wc.seq fun K13 hn13 hx13 => ?_
        refine Wc.block fun K14 hb14 hx14 => ?_
        refine Wc.loop (fun k0 s => ∃ (i : Nat) (x : Int) (fr : List (Nat × V)), s = ⟨fr, [], h⟩ ∧ (i + k0 = q) ∧ look fr 0 = some (v) ∧ look fr 1 = some (.i .i64 (q : Nat)) ∧ look fr 8 = some (.i .i64 x) ∧ look fr 27 = some (v1) ∧ look fr 28 = some (.i .i64 ((q - 0 : Nat) : Int)) ∧ look fr 29 = some (.i .i64 (i : Nat))) (q) (by omega) ⟨0, _, _, rfl, by omega, rfl, rfl, rfl, rfl, rfl, rfl⟩ ?_
        rintro k0 _ ⟨i, x, fr, rfl, hik, f0, f1, f8, f27, f28, f29⟩ KL0 hnL0 hxL0
        repeat refine Wc.assoc ?_
        refine Wc.seq fun K15 hn15 hx15 => ?_
        refine Wc.rg ?_
        refine Wo.val rfl (by simp only [MS, Nat.reduceBEq, Nat.reduceBNe, Nat.reduceEqDiff, reduceIte, if_true, if_false, reduceCtorEq, Nat.reduceAdd, Nat.reduceMul, Nat.reduceLeDiff, Nat.reduceLT, Nat.reduceDiv, Nat.reduceSub, binA, arithA, strA, isC, cval, cv, TS T, f0, f1, f8, f27, f28, f29, c2, c3, c5] <;> rfl) rfl ?_
        refine Wo.nil ?_
        refine hn15 _ ?_
        repeat refine Wc.assoc ?_
        refine Wc.seq fun K16 hn16 hx16 => ?_
        refine Wc.cond rfl (fun c7 => ?_) (fun c7 => ?_)
        · try have d7 := of_decide_eq_true c7
          refine Wc.skip (hn16 _ ?_)
          repeat refine Wc.assoc ?_
          refine Wc.seq fun K17 hn17 hx17 => ?_
          refine Wc.block fun K18 hb18 hx18 => ?_
          repeat refine Wc.assoc ?_
          refine Wc.seq fun K19 hn19 hx19 => ?_
          obtain ⟨bb, oo, z, hia, hld, _⟩ := hL1.at_ h (Ext.refl h) i (by omega)
          refine Wc.rg ?_
          refine Wo.val rfl (by simp only [MS, Nat.reduceBEq, Nat.reduceBNe, Nat.reduceEqDiff, reduceIte, if_true, if_false, reduceCtorEq, Nat.reduceAdd, Nat.reduceMul, Nat.reduceLeDiff, Nat.reduceLT, Nat.reduceDiv, Nat.reduceSub, cval, cv, TS T, f0, f1, f8, f27, f28, f29, c2, c3, c5, c7, hia, hld] <;> rfl) rfl ?_
          refine Wo.val rfl (by simp only [MS, Nat.reduceBEq, Nat.reduceBNe, Nat.reduceEqDiff, reduceIte, if_true, if_false, reduceCtorEq, Nat.reduceAdd, Nat.reduceMul, Nat.reduceLeDiff, Nat.reduceLT, Nat.reduceDiv, Nat.reduceSub, partV, TS T, f0, f1, f8, f27, f28, f29, c2, c3, c5, c7, hia, hld] <;> rfl) rfl ?_
          refine Wo.val rfl rfl rfl ?_
          refine Wo.nil ?_
          refine hn19 _ ?_
          refine Wc.rg ?_
          refine Wo.val rfl (by first | rfl | (simp only [MS, Nat.reduceBEq, Nat.reduceBNe, Nat.reduceEqDiff, reduceIte, if_true, if_false, reduceCtorEq, Nat.reduceAdd, Nat.reduceMul, Nat.reduceLeDiff, Nat.reduceLT, Nat.reduceDiv, Nat.reduceSub, TS T, f0, f1, f8, f27, f28, f29, c2, c3, c5, c7] <;> rfl)) rfl ?_
          refine Wo.val rfl rfl rfl ?_
          refine Wo.val rfl (by simp only [MS, Nat.reduceBEq, Nat.reduceBNe, Nat.reduceEqDiff, reduceIte, if_true, if_false, reduceCtorEq, Nat.reduceAdd, Nat.reduceMul, Nat.reduceLeDiff, Nat.reduceLT, Nat.reduceDiv, Nat.reduceSub, binA, arithA, strA, isC, cval, cv, TS T, f0, f1, f8, f27, f28, f29, c2, c3, c5, c7] <;> rfl) rfl ?_
          refine Wo.val rfl rfl rfl ?_
          refine Wo.nil ?_
          refine hx18 _ _ (by simp) (hn17 _ ?_)
          have hw := w64 (n := i) (by omega)
          refine Wc.rg ?_
          refine Wo.val rfl (by simp only [MS, Nat.reduceBEq, Nat.reduceBNe, Nat.reduceEqDiff, reduceIte, if_true, if_false, reduceCtorEq, Nat.reduceAdd, Nat.reduceMul, Nat.reduceLeDiff, Nat.reduceLT, Nat.reduceDiv, Nat.reduceSub, binA, arithA, strA, isC, cval, cv, TS T, f0, f1, f8, f27, f28, f29, c2, c3, c5, c7, hw] <;> rfl) rfl ?_
          refine Wo.val rfl rfl rfl ?_
          refine Wo.nil ?_
          exact hnL0 _ (k0 - 1) (by omega) ⟨i + 1, _, _, rfl, by omega, (by simp [look, f0]), (by simp [look, f1]), rfl, (by simp [look, f27]), (by simp [look, f28]), rfl⟩
        · try have d7 := of_decide_eq_false c7
          refine Wc.exit (hx16 _ _ (by simp) (hxL0 _ _ (by simp) (hb14 _ (hn13 _ ?_))))
          repeat refine Wc.assoc ?_
          refine Wc.seq fun K20 hn20 hx20 => ?_
          refine Wc.rg ?_
          refine Wo.val rfl (by first | rfl | (simp only [MS, Nat.reduceBEq, Nat.reduceBNe, Nat.reduceEqDiff, reduceIte, if_true, if_false, reduceCtorEq, Nat.reduceAdd, Nat.reduceMul, Nat.reduceLeDiff, Nat.reduceLT, Nat.reduceDiv, Nat.reduceSub, TS T, f0, f1, f8, f27, f28, f29, c2, c3, c5, c7] <;> rfl)) rfl ?_
          refine Wo.val rfl (by first | rfl | (simp only [MS, Nat.reduceBEq, Nat.reduceBNe, Nat.reduceEqDiff, reduceIte, if_true, if_false, reduceCtorEq, Nat.reduceAdd, Nat.reduceMul, Nat.reduceLeDiff, Nat.reduceLT, Nat.reduceDiv, Nat.reduceSub, TS T, f0, f1, f8, f27, f28, f29, c2, c3, c5, c7] <;> rfl)) rfl ?_
          refine Wo.val rfl rfl rfl ?_
          refine Wo.val rfl rfl rfl ?_
          refine Wo.nil ?_
          refine hn20 _ ?_
          repeat refine Wc.assoc ?_
          refine Wc.seq fun K21 hn21 hx21 => ?_
          refine Wc.rg ?_
          refine Wo.val rfl (by first | rfl | (simp only [MS, Nat.reduceBEq, Nat.reduceBNe, Nat.reduceEqDiff, reduceIte, if_true, if_false, reduceCtorEq, Nat.reduceAdd, Nat.reduceMul, Nat.reduceLeDiff, Nat.reduceLT, Nat.reduceDiv, Nat.reduceSub, TS T, f0, f1, f8, f27, f28, f29, c2, c3, c5, c7, hln] <;> rfl)) rfl ?_
          refine Wo.val rfl (by simp only [MS, Nat.reduceBEq, Nat.reduceBNe, Nat.reduceEqDiff, reduceIte, if_true, if_false, reduceCtorEq, Nat.reduceAdd, Nat.reduceMul, Nat.reduceLeDiff, Nat.reduceLT, Nat.reduceDiv, Nat.reduceSub, cval, cv, TS T, f0, f1, f8, f27, f28, f29, c2, c3, c5, c7, hln] <;> rfl) rfl ?_
          refine Wo.val rfl rfl rfl ?_
          refine Wo.nil ?_
          refine hn21 _ ?_
          repeat refine Wc.assoc ?_
          refine Wc.seq fun K22 hn22 hx22 => ?_
          refine Wc.block fun K23 hb23 hx23 => ?_
          refine Wc.loop (fun k2 s => ∃ (i : Nat) (x a b : Int) (fr : List (Nat × V)), s = ⟨fr, [], h⟩ ∧ (i + k2 = n) ∧ look fr 0 = some (v) ∧ look fr 1 = some (.i .i64 (q : Nat)) ∧ look fr 8 = some (.i .i64 x) ∧ look fr 4 = some (.i .i64 a) ∧ look fr 5 = some (.i .i64 b) ∧ look fr 40 = some (.i .i64 (n : Nat)) ∧ look fr 41 = some (.i .i64 (i : Nat))) (n) (by omega) ⟨0, x, x, x, _, rfl, by omega, (by simp [look, f0]), (by simp [look, f1]), (by simp [look, f8]), rfl, rfl, rfl, rfl⟩ ?_
          rintro k2 _ ⟨i, x, a, b, fr, rfl, hik, f0, f1, f8, f4, f5, f40, f41⟩ KL2 hnL2 hxL2
          repeat refine Wc.assoc ?_
          refine Wc.seq fun K24 hn24 hx24 => ?_
          refine Wc.rg ?_
          refine Wo.val rfl (by simp only [MS, Nat.reduceBEq, Nat.reduceBNe, Nat.reduceEqDiff, reduceIte, if_true, if_false, reduceCtorEq, Nat.reduceAdd, Nat.reduceMul, Nat.reduceLeDiff, Nat.reduceLT, Nat.reduceDiv, Nat.reduceSub, binA, arithA, strA, isC, cval, cv, TS T, f0, f1, f8, f4, f5, f40, f41, c2, c3, c5, c7] <;> rfl) rfl ?_
          refine Wo.nil ?_
          refine hn24 _ ?_
          repeat refine Wc.assoc ?_
          refine Wc.seq fun K25 hn25 hx25 => ?_
          refine Wc.cond rfl (fun c10 => ?_) (fun c10 => ?_)
          · try have d10 := of_decide_eq_true c10
            refine Wc.skip (hn25 _ ?_)
            repeat refine Wc.assoc ?_
            refine Wc.seq fun K26 hn26 hx26 => ?_
            refine Wc.block fun K27 hb27 hx27 => ?_
            repeat refine Wc.assoc ?_
            refine Wc.seq fun K28 hn28 hx28 => ?_
            refine Wc.rg ?_
            refine Wo.val rfl (by first | rfl | (simp only [MS, Nat.reduceBEq, Nat.reduceBNe, Nat.reduceEqDiff, reduceIte, if_true, if_false, reduceCtorEq, Nat.reduceAdd, Nat.reduceMul, Nat.reduceLeDiff, Nat.reduceLT, Nat.reduceDiv, Nat.reduceSub, TS T, f0, f1, f8, f4, f5, f40, f41, c2, c3, c5, c7, c10] <;> rfl)) rfl ?_
            refine Wo.val rfl rfl rfl ?_
            refine Wo.nil ?_
            refine hn28 _ ?_
            repeat refine Wc.assoc ?_
            refine Wc.seq fun K29 hn29 hx29 => ?_
            have hwq : IntKind.i64.wrap ((i : Int) + (q : Int)) = ((i + q : Nat) : Int) := by rw [wrap_i64] <;> omega
            have hnz : ¬ ((n : Int) = 0) := by omega
            have htm := tmod_nat (i + q) n
            have hmod := Nat.mod_lt (i + q) hn0'
            obtain ⟨bb, oo, z, hia, hld, _⟩ := hL.at_ h (Ext.refl h) i (by omega)
            obtain ⟨bb2, oo2, z2, hia2, hld2, _⟩ := hL.at_ h (Ext.refl h) ((i + q) % n) (by omega)
            refine Wc.drawn [.p 0 [44, 45, 46, 47, 48, 49, 50, 51, 52, 53, 54, 55, 56, 57, 58, 59] none, .p 1 [44, 45, 46, 47, 48, 49, 50, 51, 52, 53, 54, 55, 56, 57, 58, 59] none, .p 2 [44, 45, 46, 47, 48, 49, 50, 51, 52, 53, 54, 55, 56, 57, 58, 59] none, .p 3 [44, 45, 46, 47, 48, 49, 50, 51, 52, 53, 54, 55, 56, 57, 58, 59] none, .p 4 [44, 45, 48, 49, 50, 51, 52, 53, 54, 55, 56, 57, 58, 59] none, .p 5 [44, 45, 46, 47, 48, 49, 50, 51, 52, 53, 54, 55, 56, 57, 58, 59] none, .p 6 [44, 45, 46, 47, 48, 50, 51, 52, 53, 54, 55, 56, 57, 58, 59] none, .p 7 [44, 45, 51, 52, 53, 54, 55, 56, 57, 58, 59] none, .p 8 [44, 52, 53, 54, 55, 56, 57, 58, 59] none, .p 9 [44, 53, 54, 55, 56, 57, 58, 59] none, .p 10 [44, 45, 46, 47, 48, 49, 50, 51, 52, 53, 54, 55, 56, 57, 58, 59] none, .p 11 [44, 45, 46, 47, 48, 49, 50, 51, 52, 53, 54, 55, 56, 57, 58, 59] none, .p 12 [44, 45, 46, 47, 48, 49, 50, 51, 52, 53, 56, 57, 58, 59] none, .p 13 [44, 45, 46, 47, 48, 49, 50, 51, 52, 53, 57, 58, 59] none, .p 14 [44, 58, 59] none, .p 15 [59] none, .e 16 [8] none 65535] (by kernel_rfl) ?_
            refine Wz.v rfl rfl rfl (by first | rfl | (simp only [MS, Nat.reduceBEq, Nat.reduceBNe, Nat.reduceEqDiff, reduceIte, if_true, if_false, reduceCtorEq, Nat.reduceAdd, Nat.reduceMul, Nat.reduceLeDiff, Nat.reduceLT, Nat.reduceDiv, Nat.reduceSub, evR, List.contains, List.elem, TS T, f0, f1, f8, f4, f5, f40, f41, c2, c3, c5, c7, c10, hln, hwq, hnz, htm, hia, hld, hia2, hld2] <;> rfl)) rfl ?_
            refine Wz.v rfl rfl rfl (by first | rfl | (simp only [MS, Nat.reduceBEq, Nat.reduceBNe, Nat.reduceEqDiff, reduceIte, if_true, if_false, reduceCtorEq, Nat.reduceAdd, Nat.reduceMul, Nat.reduceLeDiff, Nat.reduceLT, Nat.reduceDiv, Nat.reduceSub, evR, List.contains, List.elem, TS T, f0, f1, f8, f4, f5, f40, f41, c2, c3, c5, c7, c10, hln, hwq, hnz, htm, hia, hld, hia2, hld2] <;> rfl)) rfl ?_
            refine Wz.v rfl rfl rfl rfl rfl ?_
            refine Wz.v rfl rfl rfl (by first | rfl | (simp only [MS, Nat.reduceBEq, Nat.reduceBNe, Nat.reduceEqDiff, reduceIte, if_true, if_false, reduceCtorEq, Nat.reduceAdd, Nat.reduceMul, Nat.reduceLeDiff, Nat.reduceLT, Nat.reduceDiv, Nat.reduceSub, evR, List.contains, List.elem, TS T, f0, f1, f8, f4, f5, f40, f41, c2, c3, c5, c7, c10, hln, hwq, hnz, htm, hia, hld, hia2, hld2] <;> rfl)) rfl ?_
            refine Wz.v rfl rfl rfl (by simp only [MS, Nat.reduceBEq, Nat.reduceBNe, Nat.reduceEqDiff, reduceIte, if_true, if_false, reduceCtorEq, Nat.reduceAdd, Nat.reduceMul, Nat.reduceLeDiff, Nat.reduceLT, Nat.reduceDiv, Nat.reduceSub, binA, arithA, strA, isC, cval, cv, evR, List.contains, List.elem, TS T, f0, f1, f8, f4, f5, f40, f41, c2, c3, c5, c7, c10, hln, hwq, hnz, htm, hia, hld, hia2, hld2] <;> rfl) rfl ?_
            refine Wz.v rfl rfl rfl (by first | rfl | (simp only [MS, Nat.reduceBEq, Nat.reduceBNe, Nat.reduceEqDiff, reduceIte, if_true, if_false, reduceCtorEq, Nat.reduceAdd, Nat.reduceMul, Nat.reduceLeDiff, Nat.reduceLT, Nat.reduceDiv, Nat.reduceSub, evR, List.contains, List.elem, TS T, f0, f1, f8, f4, f5, f40, f41, c2, c3, c5, c7, c10, hln, hwq, hnz, htm, hia, hld, hia2, hld2] <;> rfl)) rfl ?_
            refine Wz.v rfl rfl rfl (by simp only [MS, Nat.reduceBEq, Nat.reduceBNe, Nat.reduceEqDiff, reduceIte, if_true, if_false, reduceCtorEq, Nat.reduceAdd, Nat.reduceMul, Nat.reduceLeDiff, Nat.reduceLT, Nat.reduceDiv, Nat.reduceSub, cval, cv, evR, List.contains, List.elem, TS T, f0, f1, f8, f4, f5, f40, f41, c2, c3, c5, c7, c10, hln, hwq, hnz, htm, hia, hld, hia2, hld2] <;> rfl) rfl ?_
            refine Wz.v rfl rfl rfl (by simp only [MS, Nat.reduceBEq, Nat.reduceBNe, Nat.reduceEqDiff, reduceIte, if_true, if_false, reduceCtorEq, Nat.reduceAdd, Nat.reduceMul, Nat.reduceLeDiff, Nat.reduceLT, Nat.reduceDiv, Nat.reduceSub, binA, arithA, strA, isC, cval, cv, evR, List.contains, List.elem, TS T, f0, f1, f8, f4, f5, f40, f41, c2, c3, c5, c7, c10, hln, hwq, hnz, htm, hia, hld, hia2, hld2] <;> rfl) rfl ?_
            refine Wz.v rfl rfl rfl (by simp only [MS, Nat.reduceBEq, Nat.reduceBNe, Nat.reduceEqDiff, reduceIte, if_true, if_false, reduceCtorEq, Nat.reduceAdd, Nat.reduceMul, Nat.reduceLeDiff, Nat.reduceLT, Nat.reduceDiv, Nat.reduceSub, cval, cv, evR, List.contains, List.elem, TS T, f0, f1, f8, f4, f5, f40, f41, c2, c3, c5, c7, c10, hln, hwq, hnz, htm, hia, hld, hia2, hld2] <;> rfl) rfl ?_
            refine Wz.ld rfl rfl rfl (by simp only [MS, Nat.reduceBEq, Nat.reduceBNe, Nat.reduceEqDiff, reduceIte, if_true, if_false, reduceCtorEq, Nat.reduceAdd, Nat.reduceMul, Nat.reduceLeDiff, Nat.reduceLT, Nat.reduceDiv, Nat.reduceSub, partV, evR, List.contains, List.elem, TS T, f0, f1, f8, f4, f5, f40, f41, c2, c3, c5, c7, c10, hln, hwq, hnz, htm, hia, hld, hia2, hld2] <;> rfl) rfl ?_
            refine Wz.v rfl rfl rfl (by first | rfl | (simp only [MS, Nat.reduceBEq, Nat.reduceBNe, Nat.reduceEqDiff, reduceIte, if_true, if_false, reduceCtorEq, Nat.reduceAdd, Nat.reduceMul, Nat.reduceLeDiff, Nat.reduceLT, Nat.reduceDiv, Nat.reduceSub, evR, List.contains, List.elem, TS T, f0, f1, f8, f4, f5, f40, f41, c2, c3, c5, c7, c10, hln, hwq, hnz, htm, hia, hld, hia2, hld2] <;> rfl)) rfl ?_
            refine Wz.v rfl rfl rfl rfl rfl ?_
            refine Wz.v rfl rfl rfl (by simp only [MS, Nat.reduceBEq, Nat.reduceBNe, Nat.reduceEqDiff, reduceIte, if_true, if_false, reduceCtorEq, Nat.reduceAdd, Nat.reduceMul, Nat.reduceLeDiff, Nat.reduceLT, Nat.reduceDiv, Nat.reduceSub, cval, cv, evR, List.contains, List.elem, TS T, f0, f1, f8, f4, f5, f40, f41, c2, c3, c5, c7, c10, hln, hwq, hnz, htm, hia, hld, hia2, hld2] <;> rfl) rfl ?_
            refine Wz.ld rfl rfl rfl (by simp only [MS, Nat.reduceBEq, Nat.reduceBNe, Nat.reduceEqDiff, reduceIte, if_true, if_false, reduceCtorEq, Nat.reduceAdd, Nat.reduceMul, Nat.reduceLeDiff, Nat.reduceLT, Nat.reduceDiv, Nat.reduceSub, partV, evR, List.contains, List.elem, TS T, f0, f1, f8, f4, f5, f40, f41, c2, c3, c5, c7, c10, hln, hwq, hnz, htm, hia, hld, hia2, hld2] <;> rfl) rfl ?_
            refine Wz.v rfl rfl rfl (by simp only [MS, Nat.reduceBEq, Nat.reduceBNe, Nat.reduceEqDiff, reduceIte, if_true, if_false, reduceCtorEq, Nat.reduceAdd, Nat.reduceMul, Nat.reduceLeDiff, Nat.reduceLT, Nat.reduceDiv, Nat.reduceSub, binA, arithA, strA, isC, cval, cv, evR, List.contains, List.elem, TS T, f0, f1, f8, f4, f5, f40, f41, c2, c3, c5, c7, c10, hln, hwq, hnz, htm, hia, hld, hia2, hld2] <;> rfl) rfl ?_
            refine Wz.v rfl rfl rfl (by simp only [MS, Nat.reduceBEq, Nat.reduceBNe, Nat.reduceEqDiff, reduceIte, if_true, if_false, reduceCtorEq, Nat.reduceAdd, Nat.reduceMul, Nat.reduceLeDiff, Nat.reduceLT, Nat.reduceDiv, Nat.reduceSub, binA, arithA, strA, isC, cval, cv, evR, List.contains, List.elem, TS T, f0, f1, f8, f4, f5, f40, f41, c2, c3, c5, c7, c10, hln, hwq, hnz, htm, hia, hld, hia2, hld2] <;> rfl) rfl ?_
            refine Wz.e rfl rfl (by first | rfl | (simp only [MS, Nat.reduceBEq, Nat.reduceBNe, Nat.reduceEqDiff, reduceIte, if_true, if_false, reduceCtorEq, Nat.reduceAdd, Nat.reduceMul, Nat.reduceLeDiff, Nat.reduceLT, Nat.reduceDiv, Nat.reduceSub, cval, cv, evR, List.contains, List.elem, TS T, f0, f1, f8, f4, f5, f40, f41, c2, c3, c5, c7, c10, hln, hwq, hnz, htm, hia, hld, hia2, hld2] <;> rfl)) rfl (by repeat' first | exact ldsOk_nil | refine ldsOk_skip (by rfl) ?_ | refine ldsOk_cons (by simp only [MS, Nat.reduceBEq, Nat.reduceBNe, Nat.reduceEqDiff, reduceIte, if_true, if_false, reduceCtorEq, Nat.reduceAdd, Nat.reduceMul, Nat.reduceLeDiff, Nat.reduceLT, Nat.reduceDiv, Nat.reduceSub, evR, List.contains, List.elem, partV, TS T, f0, f1, f8, f4, f5, f40, f41, c2, c3, c5, c7, c10, hln, hwq, hnz, htm, hia, hld, hia2, hld2]) (by simp [vbeq, vbeqs, f0, f1, f8, f4, f5, f40, f41, c2, c3, c5, c7, c10, hln, hwq, hnz, htm, hia, hld, hia2, hld2]) ?_) (by repeat' first | exact alsOk_nil | refine alsOk_skip (by rfl) ?_ | refine alsOk_cons (by simp only [MS, Nat.reduceBEq, Nat.reduceBNe, Nat.reduceEqDiff, reduceIte, if_true, if_false, reduceCtorEq, Nat.reduceAdd, Nat.reduceMul, Nat.reduceLeDiff, Nat.reduceLT, Nat.reduceDiv, Nat.reduceSub, evR, List.contains, List.elem, partV, TS T, f0, f1, f8, f4, f5, f40, f41, c2, c3, c5, c7, c10, hln, hwq, hnz, htm, hia, hld, hia2, hld2]) (by simp [vbeq, vbeqs]) ?_) ?_
            refine Wz.nil ?_
            refine hn29 _ ?_
            refine Wc.rg ?_
            refine Wo.val rfl (by first | rfl | (simp only [MS, Nat.reduceBEq, Nat.reduceBNe, Nat.reduceEqDiff, reduceIte, if_true, if_false, reduceCtorEq, Nat.reduceAdd, Nat.reduceMul, Nat.reduceLeDiff, Nat.reduceLT, Nat.reduceDiv, Nat.reduceSub, TS T, f0, f1, f8, f4, f5, f40, f41, c2, c3, c5, c7, c10] <;> rfl)) rfl ?_
            refine Wo.val rfl rfl rfl ?_
            refine Wo.val rfl (by simp only [MS, Nat.reduceBEq, Nat.reduceBNe, Nat.reduceEqDiff, reduceIte, if_true, if_false, reduceCtorEq, Nat.reduceAdd, Nat.reduceMul, Nat.reduceLeDiff, Nat.reduceLT, Nat.reduceDiv, Nat.reduceSub, bltA, intsA, intsA.go, cval, cv, TS T, f0, f1, f8, f4, f5, f40, f41, c2, c3, c5, c7, c10] <;> rfl) rfl ?_
            refine Wo.val rfl (by first | rfl | (simp only [MS, Nat.reduceBEq, Nat.reduceBNe, Nat.reduceEqDiff, reduceIte, if_true, if_false, reduceCtorEq, Nat.reduceAdd, Nat.reduceMul, Nat.reduceLeDiff, Nat.reduceLT, Nat.reduceDiv, Nat.reduceSub, TS T, f0, f1, f8, f4, f5, f40, f41, c2, c3, c5, c7, c10] <;> rfl)) rfl ?_
            refine Wo.val rfl rfl rfl ?_
            refine Wo.val rfl (by simp only [MS, Nat.reduceBEq, Nat.reduceBNe, Nat.reduceEqDiff, reduceIte, if_true, if_false, reduceCtorEq, Nat.reduceAdd, Nat.reduceMul, Nat.reduceLeDiff, Nat.reduceLT, Nat.reduceDiv, Nat.reduceSub, bltA, intsA, intsA.go, cval, cv, TS T, f0, f1, f8, f4, f5, f40, f41, c2, c3, c5, c7, c10] <;> rfl) rfl ?_
            refine Wo.val rfl rfl rfl ?_
            refine Wo.val rfl rfl rfl ?_
            refine Wo.nil ?_
            refine hx27 _ _ (by simp) (hn26 _ ?_)
            have hw := w64 (n := i) (by omega)
            refine Wc.rg ?_
            refine Wo.val rfl (by simp only [MS, Nat.reduceBEq, Nat.reduceBNe, Nat.reduceEqDiff, reduceIte, if_true, if_false, reduceCtorEq, Nat.reduceAdd, Nat.reduceMul, Nat.reduceLeDiff, Nat.reduceLT, Nat.reduceDiv, Nat.reduceSub, binA, arithA, strA, isC, cval, cv, TS T, f0, f1, f8, f4, f5, f40, f41, c2, c3, c5, c7, c10, hw] <;> rfl) rfl ?_
            refine Wo.val rfl rfl rfl ?_
            refine Wo.nil ?_
            exact hnL2 _ (k2 - 1) (by omega) ⟨i + 1, _, _, _, _, rfl, by omega, (by simp [look, f0]), (by simp [look, f1]), rfl, rfl, rfl, (by simp [look, f40]), rfl⟩
          · try have d10 := of_decide_eq_false c10
            refine Wc.exit (hx25 _ _ (by simp) (hxL2 _ _ (by simp) (hb23 _ (hn22 _ ?_))))
            repeat refine Wc.assoc ?_
            refine Wc.seq fun K30 hn30 hx30 => ?_
            refine Wc.rg ?_
            refine Wo.val rfl (by first | rfl | (simp only [MS, Nat.reduceBEq, Nat.reduceBNe, Nat.reduceEqDiff, reduceIte, if_true, if_false, reduceCtorEq, Nat.reduceAdd, Nat.reduceMul, Nat.reduceLeDiff, Nat.reduceLT, Nat.reduceDiv, Nat.reduceSub, TS T, f0, f1, f8, f4, f5, f40, f41, c2, c3, c5, c7, c10] <;> rfl)) rfl ?_
            refine Wo.val rfl (by first | rfl | (simp only [MS, Nat.reduceBEq, Nat.reduceBNe, Nat.reduceEqDiff, reduceIte, if_true, if_false, reduceCtorEq, Nat.reduceAdd, Nat.reduceMul, Nat.reduceLeDiff, Nat.reduceLT, Nat.reduceDiv, Nat.reduceSub, TS T, f0, f1, f8, f4, f5, f40, f41, c2, c3, c5, c7, c10] <;> rfl)) rfl ?_
            refine Wo.val rfl rfl rfl ?_
            refine Wo.val rfl rfl rfl ?_
            refine Wo.val rfl rfl rfl ?_
            refine Wo.nil ?_
            refine hn30 _ ?_
            exact Wc.ret ((hr0 _ _ [_, _, _] rfl rfl))

theorem S.f18_ok {tb fc} (T : S.Ty tb) {call call' : Caller} {lf : Nat} (hlf : 2000000000000 ≤ lf) (hc : ∀ args h, call' (.fn 18) args h = runF tb fc call lf Tryz.f18 args h)
    (h33 : ∀ (ends : Int) (d : Nat) (h : Hp), d ≤ 4000 → ∃ (v : V) (h' : Hp), call (.fn 33) [.i .i64 ends, .i .i64 d] h = some (.ret v, h') ∧ Ext h h' ∧ IntRes h h' v)
    (a b : Int) (h : Hp) : ∃ (v : V) (e : Int) (h' : Hp), call' (.fn 18) [.i .i64 a, .i .i64 b] h = some (.ret (.tup [v, .i .i64 e]), h') ∧ Ext h h' ∧ IntRes h h' v := by
  suffices H : Wf tb fc call lf Tryz.f18 [.i .i64 a, .i .i64 b] h (fun w h' => ∃ (v : V) (e : Int), w = .tup [v, .i .i64 e] ∧ Ext h h' ∧ IntRes h h' v) by
    obtain ⟨w, h', h1, v, e, rfl, h2⟩ := H
    exact ⟨v, e, h', by rw [hc]; exact h1, h2⟩
  refine Wf.intro (sz := 47) rfl rfl fun K hn0 hr0 => ?_
  repeat refine Wc.assoc ?_
  refine Wc.seq fun K1 hn1 hx1 => ?_
  refine Wc.rg ?_
  refine Wo.val rfl rfl rfl ?_
  refine Wo.val rfl rfl rfl ?_
  refine Wo.nil ?_
  refine hn1 _ ?_
  repeat refine Wc.assoc ?_
  refine Wc.seq fun K2 hn2 hx2 => ?_
  refine Wc.rg ?_
  refine Wo.val rfl rfl rfl ?_
  refine Wo.val rfl (by simp only [MS, Nat.reduceBEq, Nat.reduceBNe, Nat.reduceEqDiff, reduceIte, if_true, if_false, reduceCtorEq, Nat.reduceAdd, Nat.reduceMul, Nat.reduceLeDiff, Nat.reduceLT, Nat.reduceDiv, Nat.reduceSub, binA, arithA, strA, isC, cval, cv, TS T] <;> rfl) rfl ?_
  refine Wo.val rfl rfl rfl ?_
  refine Wo.split (n := 10) rfl (fun c1 => ?_) (fun c1 => ?_)
  · try have d1 := of_decide_eq_true c1
    refine Wo.skip (by first | rfl | (simp only [wantedA, wantedP, evR, List.contains, List.elem, MS, Nat.reduceBEq, Nat.reduceBNe, Nat.reduceEqDiff, reduceIte, if_true, if_false, reduceCtorEq, Nat.reduceAdd, Nat.reduceMul, Nat.reduceLeDiff, Nat.reduceLT, Nat.reduceDiv, Nat.reduceSub, c1] <;> rfl)) rfl ?_
    refine Wo.skip (by first | rfl | (simp only [wantedA, wantedP, evR, List.contains, List.elem, MS, Nat.reduceBEq, Nat.reduceBNe, Nat.reduceEqDiff, reduceIte, if_true, if_false, reduceCtorEq, Nat.reduceAdd, Nat.reduceMul, Nat.reduceLeDiff, Nat.reduceLT, Nat.reduceDiv, Nat.reduceSub, c1] <;> rfl)) rfl ?_
    refine Wo.val rfl (by first | rfl | (simp only [MS, Nat.reduceBEq, Nat.reduceBNe, Nat.reduceEqDiff, reduceIte, if_true, if_false, reduceCtorEq, Nat.reduceAdd, Nat.reduceMul, Nat.reduceLeDiff, Nat.reduceLT, Nat.reduceDiv, Nat.reduceSub, cval, cv, TS T, c1] <;> rfl)) rfl ?_
    refine Wo.val rfl rfl rfl ?_
    refine Wo.skip (by first | rfl | (simp only [wantedA, wantedP, evR, List.contains, List.elem, MS, Nat.reduceBEq, Nat.reduceBNe, Nat.reduceEqDiff, reduceIte, if_true, if_false, reduceCtorEq, Nat.reduceAdd, Nat.reduceMul, Nat.reduceLeDiff, Nat.reduceLT, Nat.reduceDiv, Nat.reduceSub, c1] <;> rfl)) rfl ?_
    refine Wo.skip (by first | rfl | (simp only [wantedA, wantedP, evR, List.contains, List.elem, MS, Nat.reduceBEq, Nat.reduceBNe, Nat.reduceEqDiff, reduceIte, if_true, if_false, reduceCtorEq, Nat.reduceAdd, Nat.reduceMul, Nat.reduceLeDiff, Nat.reduceLT, Nat.reduceDiv, Nat.reduceSub, c1] <;> rfl)) rfl ?_
    refine Wo.val rfl (by first | rfl | (simp only [MS, Nat.reduceBEq, Nat.reduceBNe, Nat.reduceEqDiff, reduceIte, if_true, if_false, reduceCtorEq, Nat.reduceAdd, Nat.reduceMul, Nat.reduceLeDiff, Nat.reduceLT, Nat.reduceDiv, Nat.reduceSub, cval, cv, TS T, c1] <;> rfl)) rfl ?_
    refine Wo.val rfl rfl rfl ?_
    refine Wo.skip (by first | rfl | (simp only [wantedA, wantedP, evR, List.contains, List.elem, MS, Nat.reduceBEq, Nat.reduceBNe, Nat.reduceEqDiff, reduceIte, if_true, if_false, reduceCtorEq, Nat.reduceAdd, Nat.reduceMul, Nat.reduceLeDiff, Nat.reduceLT, Nat.reduceDiv, Nat.reduceSub, c1] <;> rfl)) rfl ?_
    refine Wo.skip (by first | rfl | (simp only [wantedA, wantedP, evR, List.contains, List.elem, MS, Nat.reduceBEq, Nat.reduceBNe, Nat.reduceEqDiff, reduceIte, if_true, if_false, reduceCtorEq, Nat.reduceAdd, Nat.reduceMul, Nat.reduceLeDiff, Nat.reduceLT, Nat.reduceDiv, Nat.reduceSub, c1] <;> rfl)) rfl ?_
    refine Wo.val rfl (by first | rfl | (simp only [MS, Nat.reduceBEq, Nat.reduceBNe, Nat.reduceEqDiff, reduceIte, if_true, if_false, reduceCtorEq, Nat.reduceAdd, Nat.reduceMul, Nat.reduceLeDiff, Nat.reduceLT, Nat.reduceDiv, Nat.reduceSub, cval, cv, TS T, c1] <;> rfl)) rfl ?_
    refine Wo.nil ?_
    refine hn2 _ ?_
    repeat refine Wc.assoc ?_
    refine Wc.seq fun K3 hn3 hx3 => ?_
    refine Wc.cond (t := true) (by first | rfl | (simp only [evF, look, c1]; rfl) | simp [evF, look, c1]) (fun _ => ?_) (fun h => by cases h)
    repeat refine Wc.assoc ?_
    refine Wc.seq fun K4 hn4 hx4 => ?_
    refine Wc.rg ?_
    refine Wo.val rfl rfl rfl ?_
    refine Wo.val rfl rfl rfl ?_
    refine Wo.nil ?_
    refine hn4 _ ?_
    exact Wc.ret (hx3 _ _ (by simp) ((hr0 _ _ [_, _] rfl ⟨_, _, rfl, Ext.refl h, .inl rfl⟩)))
  · try have d1 := of_decide_eq_false c1
    refine Wo.val (by first | rfl | (simp only [wantedA, wantedP, evR, List.contains, List.elem, MS, Nat.reduceBEq, Nat.reduceBNe, Nat.reduceEqDiff, reduceIte, if_true, if_false, reduceCtorEq, Nat.reduceAdd, Nat.reduceMul, Nat.reduceLeDiff, Nat.reduceLT, Nat.reduceDiv, Nat.reduceSub, c1] <;> rfl)) (by first | rfl | (simp only [MS, Nat.reduceBEq, Nat.reduceBNe, Nat.reduceEqDiff, reduceIte, if_true, if_false, reduceCtorEq, Nat.reduceAdd, Nat.reduceMul, Nat.reduceLeDiff, Nat.reduceLT, Nat.reduceDiv, Nat.reduceSub, TS T, c1] <;> rfl)) rfl ?_
    refine Wo.val (by first | rfl | (simp only [wantedA, wantedP, evR, List.contains, List.elem, MS, Nat.reduceBEq, Nat.reduceBNe, Nat.reduceEqDiff, reduceIte, if_true, if_false, reduceCtorEq, Nat.reduceAdd, Nat.reduceMul, Nat.reduceLeDiff, Nat.reduceLT, Nat.reduceDiv, Nat.reduceSub, c1] <;> rfl)) (by simp only [MS, Nat.reduceBEq, Nat.reduceBNe, Nat.reduceEqDiff, reduceIte, if_true, if_false, reduceCtorEq, Nat.reduceAdd, Nat.reduceMul, Nat.reduceLeDiff, Nat.reduceLT, Nat.reduceDiv, Nat.reduceSub, binA, arithA, strA, isC, cval, cv, TS T, c1] <;> rfl) rfl ?_
    refine Wo.val rfl (by first | rfl | (simp only [MS, Nat.reduceBEq, Nat.reduceBNe, Nat.reduceEqDiff, reduceIte, if_true, if_false, reduceCtorEq, Nat.reduceAdd, Nat.reduceMul, Nat.reduceLeDiff, Nat.reduceLT, Nat.reduceDiv, Nat.reduceSub, cval, cv, TS T, c1] <;> rfl)) rfl ?_
    refine Wo.val rfl rfl rfl ?_
    refine Wo.split (n := 14) rfl (fun c2 => ?_) (fun c2 => ?_)
    · try have d2 := of_decide_eq_true c2
      refine Wo.skip (by first | rfl | (simp only [wantedA, wantedP, evR, List.contains, List.elem, MS, Nat.reduceBEq, Nat.reduceBNe, Nat.reduceEqDiff, reduceIte, if_true, if_false, reduceCtorEq, Nat.reduceAdd, Nat.reduceMul, Nat.reduceLeDiff, Nat.reduceLT, Nat.reduceDiv, Nat.reduceSub, c1, c2] <;> rfl)) rfl ?_
      refine Wo.skip (by first | rfl | (simp only [wantedA, wantedP, evR, List.contains, List.elem, MS, Nat.reduceBEq, Nat.reduceBNe, Nat.reduceEqDiff, reduceIte, if_true, if_false, reduceCtorEq, Nat.reduceAdd, Nat.reduceMul, Nat.reduceLeDiff, Nat.reduceLT, Nat.reduceDiv, Nat.reduceSub, c1, c2] <;> rfl)) rfl ?_
      refine Wo.val rfl (by first | rfl | (simp only [MS, Nat.reduceBEq, Nat.reduceBNe, Nat.reduceEqDiff, reduceIte, if_true, if_false, reduceCtorEq, Nat.reduceAdd, Nat.reduceMul, Nat.reduceLeDiff, Nat.reduceLT, Nat.reduceDiv, Nat.reduceSub, cval, cv, TS T, c1, c2] <;> rfl)) rfl ?_
      refine Wo.val rfl rfl rfl ?_
      refine Wo.skip (by first | rfl | (simp only [wantedA, wantedP, evR, List.contains, List.elem, MS, Nat.reduceBEq, Nat.reduceBNe, Nat.reduceEqDiff, reduceIte, if_true, if_false, reduceCtorEq, Nat.reduceAdd, Nat.reduceMul, Nat.reduceLeDiff, Nat.reduceLT, Nat.reduceDiv, Nat.reduceSub, c1, c2] <;> rfl)) rfl ?_
      refine Wo.skip (by first | rfl | (simp only [wantedA, wantedP, evR, List.contains, List.elem, MS, Nat.reduceBEq, Nat.reduceBNe, Nat.reduceEqDiff, reduceIte, if_true, if_false, reduceCtorEq, Nat.reduceAdd, Nat.reduceMul, Nat.reduceLeDiff, Nat.reduceLT, Nat.reduceDiv, Nat.reduceSub, c1, c2] <;> rfl)) rfl ?_
      refine Wo.val rfl (by first | rfl | (simp only [MS, Nat.reduceBEq, Nat.reduceBNe, Nat.reduceEqDiff, reduceIte, if_true, if_false, reduceCtorEq, Nat.reduceAdd, Nat.reduceMul, Nat.reduceLeDiff, Nat.reduceLT, Nat.reduceDiv, Nat.reduceSub, cval, cv, TS T, c1, c2] <;> rfl)) rfl ?_
      refine Wo.nil ?_
      refine hn2 _ ?_
      repeat refine Wc.assoc ?_
      refine Wc.seq fun K5 hn5 hx5 => ?_
      refine Wc.cond (t := true) (by first | rfl | (simp only [evF, look, c1, c2]; rfl) | simp [evF, look, c1, c2]) (fun _ => ?_) (fun h => by cases h)
      repeat refine Wc.assoc ?_
      refine Wc.seq fun K6 hn6 hx6 => ?_
      refine Wc.rg ?_
      refine Wo.val rfl rfl rfl ?_
      refine Wo.val rfl rfl rfl ?_
      refine Wo.nil ?_
      refine hn6 _ ?_
      exact Wc.ret (hx5 _ _ (by simp) ((hr0 _ _ [_, _] rfl ⟨_, _, rfl, Ext.refl h, .inl rfl⟩)))
    · try have d2 := of_decide_eq_false c2
      refine Wo.val (by first | rfl | (simp only [wantedA, wantedP, evR, List.contains, List.elem, MS, Nat.reduceBEq, Nat.reduceBNe, Nat.reduceEqDiff, reduceIte, if_true, if_false, reduceCtorEq, Nat.reduceAdd, Nat.reduceMul, Nat.reduceLeDiff, Nat.reduceLT, Nat.reduceDiv, Nat.reduceSub, c1, c2] <;> rfl)) (by first | rfl | (simp only [MS, Nat.reduceBEq, Nat.reduceBNe, Nat.reduceEqDiff, reduceIte, if_true, if_false, reduceCtorEq, Nat.reduceAdd, Nat.reduceMul, Nat.reduceLeDiff, Nat.reduceLT, Nat.reduceDiv, Nat.reduceSub, TS T, c1, c2] <;> rfl)) rfl ?_
      refine Wo.val (by first | rfl | (simp only [wantedA, wantedP, evR, List.contains, List.elem, MS, Nat.reduceBEq, Nat.reduceBNe, Nat.reduceEqDiff, reduceIte, if_true, if_false, reduceCtorEq, Nat.reduceAdd, Nat.reduceMul, Nat.reduceLeDiff, Nat.reduceLT, Nat.reduceDiv, Nat.reduceSub, c1, c2] <;> rfl)) (by simp only [MS, Nat.reduceBEq, Nat.reduceBNe, Nat.reduceEqDiff, reduceIte, if_true, if_false, reduceCtorEq, Nat.reduceAdd, Nat.reduceMul, Nat.reduceLeDiff, Nat.reduceLT, Nat.reduceDiv, Nat.reduceSub, binA, arithA, strA, isC, cval, cv, TS T, c1, c2] <;> rfl) rfl ?_
      refine Wo.val rfl (by first | rfl | (simp only [MS, Nat.reduceBEq, Nat.reduceBNe, Nat.reduceEqDiff, reduceIte, if_true, if_false, reduceCtorEq, Nat.reduceAdd, Nat.reduceMul, Nat.reduceLeDiff, Nat.reduceLT, Nat.reduceDiv, Nat.reduceSub, cval, cv, TS T, c1, c2] <;> rfl)) rfl ?_
      refine Wo.val rfl rfl rfl ?_
      refine Wo.split (n := 18) rfl (fun c3 => ?_) (fun c3 => ?_)
      · try have d3 := of_decide_eq_true c3
        refine Wo.skip (by first | rfl | (simp only [wantedA, wantedP, evR, List.contains, List.elem, MS, Nat.reduceBEq, Nat.reduceBNe, Nat.reduceEqDiff, reduceIte, if_true, if_false, reduceCtorEq, Nat.reduceAdd, Nat.reduceMul, Nat.reduceLeDiff, Nat.reduceLT, Nat.reduceDiv, Nat.reduceSub, c1, c2, c3] <;> rfl)) rfl ?_
        refine Wo.skip (by first | rfl | (simp only [wantedA, wantedP, evR, List.contains, List.elem, MS, Nat.reduceBEq, Nat.reduceBNe, Nat.reduceEqDiff, reduceIte, if_true, if_false, reduceCtorEq, Nat.reduceAdd, Nat.reduceMul, Nat.reduceLeDiff, Nat.reduceLT, Nat.reduceDiv, Nat.reduceSub, c1, c2, c3] <;> rfl)) rfl ?_
        refine Wo.val rfl (by first | rfl | (simp only [MS, Nat.reduceBEq, Nat.reduceBNe, Nat.reduceEqDiff, reduceIte, if_true, if_false, reduceCtorEq, Nat.reduceAdd, Nat.reduceMul, Nat.reduceLeDiff, Nat.reduceLT, Nat.reduceDiv, Nat.reduceSub, cval, cv, TS T, c1, c2, c3] <;> rfl)) rfl ?_
        refine Wo.nil ?_
        refine hn2 _ ?_
        repeat refine Wc.assoc ?_
        refine Wc.seq fun K7 hn7 hx7 => ?_
        refine Wc.cond (t := true) (by first | rfl | (simp only [evF, look, c1, c2, c3]; rfl) | simp [evF, look, c1, c2, c3]) (fun _ => ?_) (fun h => by cases h)
        repeat refine Wc.assoc ?_
        refine Wc.seq fun K8 hn8 hx8 => ?_
        refine Wc.rg ?_
        refine Wo.val rfl rfl rfl ?_
        refine Wo.val rfl rfl rfl ?_
        refine Wo.nil ?_
        refine hn8 _ ?_
        exact Wc.ret (hx7 _ _ (by simp) ((hr0 _ _ [_, _] rfl ⟨_, _, rfl, Ext.refl h, .inl rfl⟩)))
      · try have d3 := of_decide_eq_false c3
        refine Wo.val (by first | rfl | (simp only [wantedA, wantedP, evR, List.contains, List.elem, MS, Nat.reduceBEq, Nat.reduceBNe, Nat.reduceEqDiff, reduceIte, if_true, if_false, reduceCtorEq, Nat.reduceAdd, Nat.reduceMul, Nat.reduceLeDiff, Nat.reduceLT, Nat.reduceDiv, Nat.reduceSub, c1, c2, c3] <;> rfl)) (by first | rfl | (simp only [MS, Nat.reduceBEq, Nat.reduceBNe, Nat.reduceEqDiff, reduceIte, if_true, if_false, reduceCtorEq, Nat.reduceAdd, Nat.reduceMul, Nat.reduceLeDiff, Nat.reduceLT, Nat.reduceDiv, Nat.reduceSub, TS T, c1, c2, c3] <;> rfl)) rfl ?_
        refine Wo.val (by first | rfl | (simp only [wantedA, wantedP, evR, List.contains, List.elem, MS, Nat.reduceBEq, Nat.reduceBNe, Nat.reduceEqDiff, reduceIte, if_true, if_false, reduceCtorEq, Nat.reduceAdd, Nat.reduceMul, Nat.reduceLeDiff, Nat.reduceLT, Nat.reduceDiv, Nat.reduceSub, c1, c2, c3] <;> rfl)) (by simp only [MS, Nat.reduceBEq, Nat.reduceBNe, Nat.reduceEqDiff, reduceIte, if_true, if_false, reduceCtorEq, Nat.reduceAdd, Nat.reduceMul, Nat.reduceLeDiff, Nat.reduceLT, Nat.reduceDiv, Nat.reduceSub, binA, arithA, strA, isC, cval, cv, TS T, c1, c2, c3] <;> rfl) rfl ?_
        refine Wo.val rfl (by first | rfl | (simp only [MS, Nat.reduceBEq, Nat.reduceBNe, Nat.reduceEqDiff, reduceIte, if_true, if_false, reduceCtorEq, Nat.reduceAdd, Nat.reduceMul, Nat.reduceLeDiff, Nat.reduceLT, Nat.reduceDiv, Nat.reduceSub, cval, cv, TS T, c1, c2, c3] <;> rfl)) rfl ?_
        refine Wo.nil ?_
        refine hn2 _ ?_
        repeat refine Wc.assoc ?_
        refine Wc.seq fun K9 hn9 hx9 => ?_
        refine Wc.cond rfl (fun c4 => ?_) (fun c4 => ?_)
        · try have d4 := of_decide_eq_true c4
          repeat refine Wc.assoc ?_
          refine Wc.seq fun K10 hn10 hx10 => ?_
          refine Wc.rg ?_
          refine Wo.val rfl rfl rfl ?_
          refine Wo.val rfl rfl rfl ?_
          refine Wo.nil ?_
          refine hn10 _ ?_
          exact Wc.ret (hx9 _ _ (by simp) ((hr0 _ _ [_, _] rfl ⟨_, _, rfl, Ext.refl h, .inl rfl⟩)))
        · try have d4 := of_decide_eq_false c4
          refine Wc.skip (hn9 _ ?_)
          repeat refine Wc.assoc ?_
          refine Wc.seq fun K11 hn11 hx11 => ?_
          obtain ⟨an, rfl⟩ : ∃ n : Nat, a = n := ⟨a.toNat, by omega⟩
          obtain ⟨bn, rfl⟩ : ∃ n : Nat, b = n := ⟨b.toNat, by omega⟩
          refine Wc.rg ?_
          refine Wo.val rfl rfl rfl ?_
          refine Wo.val rfl rfl rfl ?_
          refine Wo.val rfl rfl rfl ?_
          refine Wo.val rfl rfl rfl ?_
          refine Wo.nil ?_
          refine hn11 _ ?_
          repeat refine Wc.assoc ?_
          refine Wc.seq fun K12 hn12 hx12 => ?_
          refine Wc.block fun K13 hb13 hx13 => ?_
          refine Wc.loop (fun k0 s => ∃ (x y : Nat) (fr : List (Nat × V)), s = ⟨fr, [], h⟩ ∧ (y ≤ k0) ∧ (1 ≤ x) ∧ look fr 0 = some (.i .i64 (an : Nat)) ∧ look fr 1 = some (.i .i64 (bn : Nat)) ∧ look fr 6 = some (.i .i64 (x : Nat)) ∧ look fr 7 = some (.i .i64 (y : Nat))) (bn) (by omega) ⟨an, bn, _, rfl, by omega, by omega, rfl, rfl, rfl, rfl⟩ ?_
          rintro k0 _ ⟨x, y, fr, rfl, hik, hx1, f0, f1, f6, f7⟩ KL0 hnL0 hxL0
          repeat refine Wc.assoc ?_
          refine Wc.seq fun K14 hn14 hx14 => ?_
          refine Wc.rg ?_
          refine Wo.val rfl (by first | rfl | (simp only [MS, Nat.reduceBEq, Nat.reduceBNe, Nat.reduceEqDiff, reduceIte, if_true, if_false, reduceCtorEq, Nat.reduceAdd, Nat.reduceMul, Nat.reduceLeDiff, Nat.reduceLT, Nat.reduceDiv, Nat.reduceSub, TS T, f0, f1, f6, f7, c1, c2, c3, c4] <;> rfl)) rfl ?_
          refine Wo.val rfl (by simp only [MS, Nat.reduceBEq, Nat.reduceBNe, Nat.reduceEqDiff, reduceIte, if_true, if_false, reduceCtorEq, Nat.reduceAdd, Nat.reduceMul, Nat.reduceLeDiff, Nat.reduceLT, Nat.reduceDiv, Nat.reduceSub, binA, arithA, strA, isC, cval, cv, TS T, f0, f1, f6, f7, c1, c2, c3, c4] <;> rfl) rfl ?_
          refine Wo.nil ?_
          refine hn14 _ ?_
          repeat refine Wc.assoc ?_
          refine Wc.seq fun K15 hn15 hx15 => ?_
          refine Wc.cond rfl (fun c5 => ?_) (fun c5 => ?_)
          · try have d5 := of_decide_eq_true c5
            refine Wc.skip (hn15 _ ?_)
            refine Wc.block fun K16 hb16 hx16 => ?_
            have hnz : ¬ ((y : Int) = 0) := by omega
            have htm := tmod_nat x y
            have hmod := Nat.mod_lt x (show 0 < y by omega)
            refine Wc.drawn [.p 0 [26, 27, 28, 29] none, .p 1 [26, 27, 28, 29] none, .p 2 [26, 27, 28, 29, 6] none, .p 3 [26, 29, 6] none, .e 4 [28, 29, 6] none 3, .e 5 [7] none 31] (by kernel_rfl) ?_
            refine Wz.v rfl rfl rfl (by first | rfl | (simp only [MS, Nat.reduceBEq, Nat.reduceBNe, Nat.reduceEqDiff, reduceIte, if_true, if_false, reduceCtorEq, Nat.reduceAdd, Nat.reduceMul, Nat.reduceLeDiff, Nat.reduceLT, Nat.reduceDiv, Nat.reduceSub, evR, List.contains, List.elem, TS T, f0, f1, f6, f7, c1, c2, c3, c4, c5, hnz, htm] <;> rfl)) rfl ?_
            refine Wz.v rfl rfl rfl (by first | rfl | (simp only [MS, Nat.reduceBEq, Nat.reduceBNe, Nat.reduceEqDiff, reduceIte, if_true, if_false, reduceCtorEq, Nat.reduceAdd, Nat.reduceMul, Nat.reduceLeDiff, Nat.reduceLT, Nat.reduceDiv, Nat.reduceSub, evR, List.contains, List.elem, TS T, f0, f1, f6, f7, c1, c2, c3, c4, c5, hnz, htm] <;> rfl)) rfl ?_
            refine Wz.v rfl rfl rfl (by first | rfl | (simp only [MS, Nat.reduceBEq, Nat.reduceBNe, Nat.reduceEqDiff, reduceIte, if_true, if_false, reduceCtorEq, Nat.reduceAdd, Nat.reduceMul, Nat.reduceLeDiff, Nat.reduceLT, Nat.reduceDiv, Nat.reduceSub, evR, List.contains, List.elem, TS T, f0, f1, f6, f7, c1, c2, c3, c4, c5, hnz, htm] <;> rfl)) rfl ?_
            refine Wz.v rfl rfl rfl (by simp only [MS, Nat.reduceBEq, Nat.reduceBNe, Nat.reduceEqDiff, reduceIte, if_true, if_false, reduceCtorEq, Nat.reduceAdd, Nat.reduceMul, Nat.reduceLeDiff, Nat.reduceLT, Nat.reduceDiv, Nat.reduceSub, binA, arithA, strA, isC, cval, cv, evR, List.contains, List.elem, TS T, f0, f1, f6, f7, c1, c2, c3, c4, c5, hnz, htm] <;> rfl) rfl ?_
            refine Wz.e rfl rfl (by first | rfl | (simp only [MS, Nat.reduceBEq, Nat.reduceBNe, Nat.reduceEqDiff, reduceIte, if_true, if_false, reduceCtorEq, Nat.reduceAdd, Nat.reduceMul, Nat.reduceLeDiff, Nat.reduceLT, Nat.reduceDiv, Nat.reduceSub, cval, cv, evR, List.contains, List.elem, TS T, f0, f1, f6, f7, c1, c2, c3, c4, c5, hnz, htm] <;> rfl)) rfl (by repeat' first | exact ldsOk_nil | refine ldsOk_skip (by rfl) ?_ | refine ldsOk_cons (by simp only [MS, Nat.reduceBEq, Nat.reduceBNe, Nat.reduceEqDiff, reduceIte, if_true, if_false, reduceCtorEq, Nat.reduceAdd, Nat.reduceMul, Nat.reduceLeDiff, Nat.reduceLT, Nat.reduceDiv, Nat.reduceSub, evR, List.contains, List.elem, loadA, partV, TS T, f0, f1, f6, f7, c1, c2, c3, c4, c5, hnz, htm]) (by simp [vbeq, vbeqs, f0, f1, f6, f7, c1, c2, c3, c4, c5, hnz, htm]) ?_) (by repeat' first | exact alsOk_nil | refine alsOk_skip (by rfl) ?_ | refine alsOk_cons (by simp only [MS, Nat.reduceBEq, Nat.reduceBNe, Nat.reduceEqDiff, reduceIte, if_true, if_false, reduceCtorEq, Nat.reduceAdd, Nat.reduceMul, Nat.reduceLeDiff, Nat.reduceLT, Nat.reduceDiv, Nat.reduceSub, evR, List.contains, List.elem, loadA, partV, TS T, f0, f1, f6, f7, c1, c2, c3, c4, c5, hnz, htm]) (by simp [vbeq, vbeqs]) ?_) ?_
            refine Wz.e rfl rfl (by first | rfl | (simp only [MS, Nat.reduceBEq, Nat.reduceBNe, Nat.reduceEqDiff, reduceIte, if_true, if_false, reduceCtorEq, Nat.reduceAdd, Nat.reduceMul, Nat.reduceLeDiff, Nat.reduceLT, Nat.reduceDiv, Nat.reduceSub, cval, cv, evR, List.contains, List.elem, TS T, f0, f1, f6, f7, c1, c2, c3, c4, c5, hnz, htm] <;> rfl)) rfl (by repeat' first | exact ldsOk_nil | refine ldsOk_skip (by rfl) ?_ | refine ldsOk_cons (by simp only [MS, Nat.reduceBEq, Nat.reduceBNe, Nat.reduceEqDiff, reduceIte, if_true, if_false, reduceCtorEq, Nat.reduceAdd, Nat.reduceMul, Nat.reduceLeDiff, Nat.reduceLT, Nat.reduceDiv, Nat.reduceSub, evR, List.contains, List.elem, loadA, partV, TS T, f0, f1, f6, f7, c1, c2, c3, c4, c5, hnz, htm]) (by simp [vbeq, vbeqs, f0, f1, f6, f7, c1, c2, c3, c4, c5, hnz, htm]) ?_) (by repeat' first | exact alsOk_nil | refine alsOk_skip (by rfl) ?_ | refine alsOk_cons (by simp only [MS, Nat.reduceBEq, Nat.reduceBNe, Nat.reduceEqDiff, reduceIte, if_true, if_false, reduceCtorEq, Nat.reduceAdd, Nat.reduceMul, Nat.reduceLeDiff, Nat.reduceLT, Nat.reduceDiv, Nat.reduceSub, evR, List.contains, List.elem, loadA, partV, TS T, f0, f1, f6, f7, c1, c2, c3, c4, c5, hnz, htm]) (by simp [vbeq, vbeqs]) ?_) ?_
            refine Wz.nil ?_
            exact hx16 _ _ (by simp) (hnL0 _ (x % y) (by omega) ⟨y, x % y, _, rfl, Nat.le_refl _, by omega, (by simp [look, f0]), (by simp [look, f1]), rfl, rfl⟩)
          · try have d5 := of_decide_eq_false c5
            refine Wc.exit (hx15 _ _ (by simp) (hxL0 _ _ (by simp) (hb13 _ (hn12 _ ?_))))
            repeat refine Wc.assoc ?_
            refine Wc.seq fun K17 hn17 hx17 => ?_
            have hnz : ¬ ((x : Int) = 0) := by omega
            have htd := tdiv_nat an x
            have htd2 := tdiv_nat bn x
            have hle1 := Nat.div_le_self an x
            have hle2 := Nat.div_le_self bn x
            have hw1 := wrap_nat (n := an / x) (by omega)
            have hw2 := wrap_nat (n := bn / x) (by omega)
            refine Wc.rg ?_
            refine Wo.val rfl (by first | rfl | (simp only [MS, Nat.reduceBEq, Nat.reduceBNe, Nat.reduceEqDiff, reduceIte, if_true, if_false, reduceCtorEq, Nat.reduceAdd, Nat.reduceMul, Nat.reduceLeDiff, Nat.reduceLT, Nat.reduceDiv, Nat.reduceSub, TS T, f0, f1, f6, f7, c1, c2, c3, c4, c5, hnz, htd, htd2, hw1, hw2] <;> rfl)) rfl ?_
            refine Wo.val rfl (by first | rfl | (simp only [MS, Nat.reduceBEq, Nat.reduceBNe, Nat.reduceEqDiff, reduceIte, if_true, if_false, reduceCtorEq, Nat.reduceAdd, Nat.reduceMul, Nat.reduceLeDiff, Nat.reduceLT, Nat.reduceDiv, Nat.reduceSub, TS T, f0, f1, f6, f7, c1, c2, c3, c4, c5, hnz, htd, htd2, hw1, hw2] <;> rfl)) rfl ?_
            refine Wo.val rfl (by simp only [MS, Nat.reduceBEq, Nat.reduceBNe, Nat.reduceEqDiff, reduceIte, if_true, if_false, reduceCtorEq, Nat.reduceAdd, Nat.reduceMul, Nat.reduceLeDiff, Nat.reduceLT, Nat.reduceDiv, Nat.reduceSub, binA, arithA, strA, isC, cval, cv, TS T, f0, f1, f6, f7, c1, c2, c3, c4, c5, hnz, htd, htd2, hw1, hw2] <;> rfl) rfl ?_
            refine Wo.val rfl (by simp only [MS, Nat.reduceBEq, Nat.reduceBNe, Nat.reduceEqDiff, reduceIte, if_true, if_false, reduceCtorEq, Nat.reduceAdd, Nat.reduceMul, Nat.reduceLeDiff, Nat.reduceLT, Nat.reduceDiv, Nat.reduceSub, binA, arithA, strA, isC, cval, cv, TS T, f0, f1, f6, f7, c1, c2, c3, c4, c5, hnz, htd, htd2, hw1, hw2] <;> rfl) rfl ?_
            refine Wo.val rfl rfl rfl ?_
            refine Wo.split (n := 34) rfl (fun c6 => ?_) (fun c6 => ?_)
            · try have d6 := of_decide_eq_true c6
              refine Wo.skip (by first | rfl | (simp only [wantedA, wantedP, evR, List.contains, List.elem, MS, Nat.reduceBEq, Nat.reduceBNe, Nat.reduceEqDiff, reduceIte, if_true, if_false, reduceCtorEq, Nat.reduceAdd, Nat.reduceMul, Nat.reduceLeDiff, Nat.reduceLT, Nat.reduceDiv, Nat.reduceSub, f0, f1, f6, f7, c1, c2, c3, c4, c5, c6, hnz, htd, htd2, hw1, hw2] <;> rfl)) rfl ?_
              refine Wo.skip (by first | rfl | (simp only [wantedA, wantedP, evR, List.contains, List.elem, MS, Nat.reduceBEq, Nat.reduceBNe, Nat.reduceEqDiff, reduceIte, if_true, if_false, reduceCtorEq, Nat.reduceAdd, Nat.reduceMul, Nat.reduceLeDiff, Nat.reduceLT, Nat.reduceDiv, Nat.reduceSub, f0, f1, f6, f7, c1, c2, c3, c4, c5, c6, hnz, htd, htd2, hw1, hw2] <;> rfl)) rfl ?_
              refine Wo.skip (by first | rfl | (simp only [wantedA, wantedP, evR, List.contains, List.elem, MS, Nat.reduceBEq, Nat.reduceBNe, Nat.reduceEqDiff, reduceIte, if_true, if_false, reduceCtorEq, Nat.reduceAdd, Nat.reduceMul, Nat.reduceLeDiff, Nat.reduceLT, Nat.reduceDiv, Nat.reduceSub, f0, f1, f6, f7, c1, c2, c3, c4, c5, c6, hnz, htd, htd2, hw1, hw2] <;> rfl)) rfl ?_
              refine Wo.skip (by first | rfl | (simp only [wantedA, wantedP, evR, List.contains, List.elem, MS, Nat.reduceBEq, Nat.reduceBNe, Nat.reduceEqDiff, reduceIte, if_true, if_false, reduceCtorEq, Nat.reduceAdd, Nat.reduceMul, Nat.reduceLeDiff, Nat.reduceLT, Nat.reduceDiv, Nat.reduceSub, f0, f1, f6, f7, c1, c2, c3, c4, c5, c6, hnz, htd, htd2, hw1, hw2] <;> rfl)) rfl ?_
              refine Wo.val rfl (by first | rfl | (simp only [MS, Nat.reduceBEq, Nat.reduceBNe, Nat.reduceEqDiff, reduceIte, if_true, if_false, reduceCtorEq, Nat.reduceAdd, Nat.reduceMul, Nat.reduceLeDiff, Nat.reduceLT, Nat.reduceDiv, Nat.reduceSub, cval, cv, TS T, f0, f1, f6, f7, c1, c2, c3, c4, c5, c6, hnz, htd, htd2, hw1, hw2] <;> rfl)) rfl ?_
              refine Wo.nil ?_
              refine hn17 _ ?_
              repeat refine Wc.assoc ?_
              refine Wc.seq fun K18 hn18 hx18 => ?_
              refine Wc.cond (t := true) (by first | rfl | (simp only [evF, look, f0, f1, f6, f7, c1, c2, c3, c4, c5, c6]; rfl) | simp [evF, look, f0, f1, f6, f7, c1, c2, c3, c4, c5, c6]) (fun _ => ?_) (fun h => by cases h)
              repeat refine Wc.assoc ?_
              refine Wc.seq fun K19 hn19 hx19 => ?_
              refine Wc.rg ?_
              refine Wo.val rfl rfl rfl ?_
              refine Wo.val rfl rfl rfl ?_
              refine Wo.nil ?_
              refine hn19 _ ?_
              exact Wc.ret (hx18 _ _ (by simp) ((hr0 _ _ [_, _] rfl ⟨_, _, rfl, Ext.refl h, .inl rfl⟩)))
            · try have d6 := of_decide_eq_false c6
              refine Wo.val (by first | rfl | (simp only [wantedA, wantedP, evR, List.contains, List.elem, MS, Nat.reduceBEq, Nat.reduceBNe, Nat.reduceEqDiff, reduceIte, if_true, if_false, reduceCtorEq, Nat.reduceAdd, Nat.reduceMul, Nat.reduceLeDiff, Nat.reduceLT, Nat.reduceDiv, Nat.reduceSub, f0, f1, f6, f7, c1, c2, c3, c4, c5, c6, hnz, htd, htd2, hw1, hw2] <;> rfl)) (by first | rfl | (simp only [MS, Nat.reduceBEq, Nat.reduceBNe, Nat.reduceEqDiff, reduceIte, if_true, if_false, reduceCtorEq, Nat.reduceAdd, Nat.reduceMul, Nat.reduceLeDiff, Nat.reduceLT, Nat.reduceDiv, Nat.reduceSub, TS T, f0, f1, f6, f7, c1, c2, c3, c4, c5, c6, hnz, htd, htd2, hw1, hw2] <;> rfl)) rfl ?_
              refine Wo.val (by first | rfl | (simp only [wantedA, wantedP, evR, List.contains, List.elem, MS, Nat.reduceBEq, Nat.reduceBNe, Nat.reduceEqDiff, reduceIte, if_true, if_false, reduceCtorEq, Nat.reduceAdd, Nat.reduceMul, Nat.reduceLeDiff, Nat.reduceLT, Nat.reduceDiv, Nat.reduceSub, f0, f1, f6, f7, c1, c2, c3, c4, c5, c6, hnz, htd, htd2, hw1, hw2] <;> rfl)) (by first | rfl | (simp only [MS, Nat.reduceBEq, Nat.reduceBNe, Nat.reduceEqDiff, reduceIte, if_true, if_false, reduceCtorEq, Nat.reduceAdd, Nat.reduceMul, Nat.reduceLeDiff, Nat.reduceLT, Nat.reduceDiv, Nat.reduceSub, TS T, f0, f1, f6, f7, c1, c2, c3, c4, c5, c6, hnz, htd, htd2, hw1, hw2] <;> rfl)) rfl ?_
              refine Wo.val (by first | rfl | (simp only [wantedA, wantedP, evR, List.contains, List.elem, MS, Nat.reduceBEq, Nat.reduceBNe, Nat.reduceEqDiff, reduceIte, if_true, if_false, reduceCtorEq, Nat.reduceAdd, Nat.reduceMul, Nat.reduceLeDiff, Nat.reduceLT, Nat.reduceDiv, Nat.reduceSub, f0, f1, f6, f7, c1, c2, c3, c4, c5, c6, hnz, htd, htd2, hw1, hw2] <;> rfl)) (by simp only [MS, Nat.reduceBEq, Nat.reduceBNe, Nat.reduceEqDiff, reduceIte, if_true, if_false, reduceCtorEq, Nat.reduceAdd, Nat.reduceMul, Nat.reduceLeDiff, Nat.reduceLT, Nat.reduceDiv, Nat.reduceSub, binA, arithA, strA, isC, cval, cv, TS T, f0, f1, f6, f7, c1, c2, c3, c4, c5, c6, hnz, htd, htd2, hw1, hw2] <;> rfl) rfl ?_
              refine Wo.val (by first | rfl | (simp only [wantedA, wantedP, evR, List.contains, List.elem, MS, Nat.reduceBEq, Nat.reduceBNe, Nat.reduceEqDiff, reduceIte, if_true, if_false, reduceCtorEq, Nat.reduceAdd, Nat.reduceMul, Nat.reduceLeDiff, Nat.reduceLT, Nat.reduceDiv, Nat.reduceSub, f0, f1, f6, f7, c1, c2, c3, c4, c5, c6, hnz, htd, htd2, hw1, hw2] <;> rfl)) (by simp only [MS, Nat.reduceBEq, Nat.reduceBNe, Nat.reduceEqDiff, reduceIte, if_true, if_false, reduceCtorEq, Nat.reduceAdd, Nat.reduceMul, Nat.reduceLeDiff, Nat.reduceLT, Nat.reduceDiv, Nat.reduceSub, binA, arithA, strA, isC, cval, cv, TS T, f0, f1, f6, f7, c1, c2, c3, c4, c5, c6, hnz, htd, htd2, hw1, hw2] <;> rfl) rfl ?_
              refine Wo.val rfl (by first | rfl | (simp only [MS, Nat.reduceBEq, Nat.reduceBNe, Nat.reduceEqDiff, reduceIte, if_true, if_false, reduceCtorEq, Nat.reduceAdd, Nat.reduceMul, Nat.reduceLeDiff, Nat.reduceLT, Nat.reduceDiv, Nat.reduceSub, cval, cv, TS T, f0, f1, f6, f7, c1, c2, c3, c4, c5, c6, hnz, htd, htd2, hw1, hw2] <;> rfl)) rfl ?_
              refine Wo.nil ?_
              refine hn17 _ ?_
              repeat refine Wc.assoc ?_
              refine Wc.seq fun K20 hn20 hx20 => ?_
              refine Wc.cond rfl (fun c7 => ?_) (fun c7 => ?_)
              · try have d7 := of_decide_eq_true c7
                repeat refine Wc.assoc ?_
                refine Wc.seq fun K21 hn21 hx21 => ?_
                refine Wc.rg ?_
                refine Wo.val rfl rfl rfl ?_
                refine Wo.val rfl rfl rfl ?_
                refine Wo.nil ?_
                refine hn21 _ ?_
                exact Wc.ret (hx20 _ _ (by simp) ((hr0 _ _ [_, _] rfl ⟨_, _, rfl, Ext.refl h, .inl rfl⟩)))
              · try have d7 := of_decide_eq_false c7
                refine Wc.skip (hn20 _ ?_)
                repeat refine Wc.assoc ?_
                refine Wc.seq fun K22 hn22 hx22 => ?_
                obtain ⟨v, h', hcall, hx, hr⟩ := h33 ((an / x : Nat) : Int) (bn / x) h (by omega)
                refine Wc.drawn [.p 0 [40, 41, 42, 43, 44, 45] none, .p 1 [40, 41, 42, 43, 44, 45] none, .p 2 [42, 43, 44, 45] none, .p 3 [40, 41, 42, 43, 44, 45] none, .p 4 [40, 41, 42, 43, 44, 45] none, .p 5 [40, 41, 42, 45] none, .e 6 [46] none 63, .e 7 [4] none 127, .e 8 [5] none 255] (by kernel_rfl) ?_
                refine Wz.v rfl rfl rfl (by first | rfl | (simp only [MS, Nat.reduceBEq, Nat.reduceBNe, Nat.reduceEqDiff, reduceIte, if_true, if_false, reduceCtorEq, Nat.reduceAdd, Nat.reduceMul, Nat.reduceLeDiff, Nat.reduceLT, Nat.reduceDiv, Nat.reduceSub, evR, List.contains, List.elem, TS T, f0, f1, f6, f7, c1, c2, c3, c4, c5, c6, c7, hnz, htd, htd2, hw1, hw2] <;> rfl)) rfl ?_
                refine Wz.v rfl rfl rfl (by first | rfl | (simp only [MS, Nat.reduceBEq, Nat.reduceBNe, Nat.reduceEqDiff, reduceIte, if_true, if_false, reduceCtorEq, Nat.reduceAdd, Nat.reduceMul, Nat.reduceLeDiff, Nat.reduceLT, Nat.reduceDiv, Nat.reduceSub, evR, List.contains, List.elem, TS T, f0, f1, f6, f7, c1, c2, c3, c4, c5, c6, c7, hnz, htd, htd2, hw1, hw2] <;> rfl)) rfl ?_
                refine Wz.v rfl rfl rfl (by simp only [MS, Nat.reduceBEq, Nat.reduceBNe, Nat.reduceEqDiff, reduceIte, if_true, if_false, reduceCtorEq, Nat.reduceAdd, Nat.reduceMul, Nat.reduceLeDiff, Nat.reduceLT, Nat.reduceDiv, Nat.reduceSub, binA, arithA, strA, isC, cval, cv, evR, List.contains, List.elem, TS T, f0, f1, f6, f7, c1, c2, c3, c4, c5, c6, c7, hnz, htd, htd2, hw1, hw2] <;> rfl) rfl ?_
                refine Wz.v rfl rfl rfl (by first | rfl | (simp only [MS, Nat.reduceBEq, Nat.reduceBNe, Nat.reduceEqDiff, reduceIte, if_true, if_false, reduceCtorEq, Nat.reduceAdd, Nat.reduceMul, Nat.reduceLeDiff, Nat.reduceLT, Nat.reduceDiv, Nat.reduceSub, evR, List.contains, List.elem, TS T, f0, f1, f6, f7, c1, c2, c3, c4, c5, c6, c7, hnz, htd, htd2, hw1, hw2] <;> rfl)) rfl ?_
                refine Wz.v rfl rfl rfl (by first | rfl | (simp only [MS, Nat.reduceBEq, Nat.reduceBNe, Nat.reduceEqDiff, reduceIte, if_true, if_false, reduceCtorEq, Nat.reduceAdd, Nat.reduceMul, Nat.reduceLeDiff, Nat.reduceLT, Nat.reduceDiv, Nat.reduceSub, evR, List.contains, List.elem, TS T, f0, f1, f6, f7, c1, c2, c3, c4, c5, c6, c7, hnz, htd, htd2, hw1, hw2] <;> rfl)) rfl ?_
                refine Wz.v rfl rfl rfl (by simp only [MS, Nat.reduceBEq, Nat.reduceBNe, Nat.reduceEqDiff, reduceIte, if_true, if_false, reduceCtorEq, Nat.reduceAdd, Nat.reduceMul, Nat.reduceLeDiff, Nat.reduceLT, Nat.reduceDiv, Nat.reduceSub, binA, arithA, strA, isC, cval, cv, evR, List.contains, List.elem, TS T, f0, f1, f6, f7, c1, c2, c3, c4, c5, c6, c7, hnz, htd, htd2, hw1, hw2] <;> rfl) rfl ?_
                refine Wz.cl rfl rfl rfl rfl (by first | rfl | (simp only [MS, Nat.reduceBEq, Nat.reduceBNe, Nat.reduceEqDiff, reduceIte, if_true, if_false, reduceCtorEq, Nat.reduceAdd, Nat.reduceMul, Nat.reduceLeDiff, Nat.reduceLT, Nat.reduceDiv, Nat.reduceSub, cval, cv, evR, List.contains, List.elem, TS T, f0, f1, f6, f7, c1, c2, c3, c4, c5, c6, c7, hnz, htd, htd2, hw1, hw2] <;> rfl)) (by first | rfl | (simp only [MS, Nat.reduceBEq, Nat.reduceBNe, Nat.reduceEqDiff, reduceIte, if_true, if_false, reduceCtorEq, Nat.reduceAdd, Nat.reduceMul, Nat.reduceLeDiff, Nat.reduceLT, Nat.reduceDiv, Nat.reduceSub, cval, cv, evR, List.contains, List.elem, TS T, f0, f1, f6, f7, c1, c2, c3, c4, c5, c6, c7, hnz, htd, htd2, hw1, hw2] <;> rfl)) (fun _ => rfl) ?_
                refine ⟨_, h', hcall, (by repeat' first | exact ldsOk_nil | refine ldsOk_skip (by rfl) ?_ | refine ldsOk_cons (by simp only [MS, Nat.reduceBEq, Nat.reduceBNe, Nat.reduceEqDiff, reduceIte, if_true, if_false, reduceCtorEq, Nat.reduceAdd, Nat.reduceMul, Nat.reduceLeDiff, Nat.reduceLT, Nat.reduceDiv, Nat.reduceSub, evR, List.contains, List.elem, loadA, partV, TS T, f0, f1, f6, f7, c1, c2, c3, c4, c5, c6, c7, hnz, htd, htd2, hw1, hw2]) (by simp [vbeq, vbeqs, f0, f1, f6, f7, c1, c2, c3, c4, c5, c6, c7, hnz, htd, htd2, hw1, hw2]) ?_), (by repeat' first | exact alsOk_nil | refine alsOk_skip (by rfl) ?_ | refine alsOk_cons (by simp [Hp.get_push, TI.zero, V.cells, f0, f1, f6, f7, c1, c2, c3, c4, c5, c6, c7, hnz, htd, htd2, hw1, hw2]) (by simp [TI.zero, V.cells, vbeq, vbeqs]) ?_), ?_⟩
                refine Wz.e rfl rfl (by first | rfl | (simp only [MS, Nat.reduceBEq, Nat.reduceBNe, Nat.reduceEqDiff, reduceIte, if_true, if_false, reduceCtorEq, Nat.reduceAdd, Nat.reduceMul, Nat.reduceLeDiff, Nat.reduceLT, Nat.reduceDiv, Nat.reduceSub, cval, cv, evR, List.contains, List.elem, TS T, f0, f1, f6, f7, c1, c2, c3, c4, c5, c6, c7, hnz, htd, htd2, hw1, hw2] <;> rfl)) rfl (by repeat' first | exact ldsOk_nil | refine ldsOk_skip (by rfl) ?_ | refine ldsOk_cons (by simp only [MS, Nat.reduceBEq, Nat.reduceBNe, Nat.reduceEqDiff, reduceIte, if_true, if_false, reduceCtorEq, Nat.reduceAdd, Nat.reduceMul, Nat.reduceLeDiff, Nat.reduceLT, Nat.reduceDiv, Nat.reduceSub, evR, List.contains, List.elem, loadA, partV, TS T, f0, f1, f6, f7, c1, c2, c3, c4, c5, c6, c7, hnz, htd, htd2, hw1, hw2]) (by simp [vbeq, vbeqs, f0, f1, f6, f7, c1, c2, c3, c4, c5, c6, c7, hnz, htd, htd2, hw1, hw2]) ?_) (by repeat' first | exact alsOk_nil | refine alsOk_skip (by rfl) ?_ | refine alsOk_cons (by simp only [MS, Nat.reduceBEq, Nat.reduceBNe, Nat.reduceEqDiff, reduceIte, if_true, if_false, reduceCtorEq, Nat.reduceAdd, Nat.reduceMul, Nat.reduceLeDiff, Nat.reduceLT, Nat.reduceDiv, Nat.reduceSub, evR, List.contains, List.elem, loadA, partV, TS T, f0, f1, f6, f7, c1, c2, c3, c4, c5, c6, c7, hnz, htd, htd2, hw1, hw2]) (by simp [vbeq, vbeqs]) ?_) ?_
                refine Wz.e rfl rfl (by first | rfl | (simp only [MS, Nat.reduceBEq, Nat.reduceBNe, Nat.reduceEqDiff, reduceIte, if_true, if_false, reduceCtorEq, Nat.reduceAdd, Nat.reduceMul, Nat.reduceLeDiff, Nat.reduceLT, Nat.reduceDiv, Nat.reduceSub, cval, cv, evR, List.contains, List.elem, TS T, f0, f1, f6, f7, c1, c2, c3, c4, c5, c6, c7, hnz, htd, htd2, hw1, hw2] <;> rfl)) rfl (by repeat' first | exact ldsOk_nil | refine ldsOk_skip (by rfl) ?_ | refine ldsOk_cons (by simp only [MS, Nat.reduceBEq, Nat.reduceBNe, Nat.reduceEqDiff, reduceIte, if_true, if_false, reduceCtorEq, Nat.reduceAdd, Nat.reduceMul, Nat.reduceLeDiff, Nat.reduceLT, Nat.reduceDiv, Nat.reduceSub, evR, List.contains, List.elem, loadA, partV, TS T, f0, f1, f6, f7, c1, c2, c3, c4, c5, c6, c7, hnz, htd, htd2, hw1, hw2]) (by simp [vbeq, vbeqs, f0, f1, f6, f7, c1, c2, c3, c4, c5, c6, c7, hnz, htd, htd2, hw1, hw2]) ?_) (by repeat' first | exact alsOk_nil | refine alsOk_skip (by rfl) ?_ | refine alsOk_cons (by simp only [MS, Nat.reduceBEq, Nat.reduceBNe, Nat.reduceEqDiff, reduceIte, if_true, if_false, reduceCtorEq, Nat.reduceAdd, Nat.reduceMul, Nat.reduceLeDiff, Nat.reduceLT, Nat.reduceDiv, Nat.reduceSub, evR, List.contains, List.elem, loadA, partV, TS T, f0, f1, f6, f7, c1, c2, c3, c4, c5, c6, c7, hnz, htd, htd2, hw1, hw2]) (by simp [vbeq, vbeqs]) ?_) ?_
                refine Wz.nil ?_
                refine hn22 _ ?_
                exact Wc.ret ((hr0 _ _ [_, _] rfl ⟨_, _, rfl, hx, hr⟩))
end Go.Mx

/- The seat's layer: Fill and Unit. -/
namespace Go.Mx
open Go.Proofs
set_option maxRecDepth 100000
set_option maxHeartbeats 2000000

theorem S.f21_ok {tb fc} (T : S.Ty tb) {call call' : Caller} {lf : Nat} (hlf : 2000000000000 ≤ lf) (hc : ∀ args h, call' (.fn 21) args h = runF tb fc call lf Tryz.f21 args h)
    (h8 : ∀ {h : Hp} {v : V} {n : Nat}, IL tb 22 3 h v n → ∃ e : Int, call (.fn 8) [v] h = some (.ret (.i .i64 e), h) ∧ (e = 0 → 0 < n ∧ n ≤ 4000))
    (h35 : ∀ {h : Hp} {v : V} {n : Nat}, IL tb 22 3 h v n → 0 < n → n ≤ 4000 → ∃ (x : Int), call (.fn 35) [v] h = some (.ret (.i .i64 x), h))
    {h : Hp} {v : V} {n : Nat} (hL : IL tb 22 3 h v n) (e : Int) (he : IntKind.i64.wrap e = e) : ∃ (w : V) (x : Int) (h' : Hp), call' (.fn 21) [v, .i .i64 e] h = some (.ret (.tup [w, .i .i64 x]), h') ∧ Ext h h' ∧ IntRes h h' w := by
  suffices H : Wf tb fc call lf Tryz.f21 [v, .i .i64 e] h (fun w h' => ∃ (v : V) (x : Int), w = .tup [v, .i .i64 x] ∧ Ext h h' ∧ IntRes h h' v) by
    obtain ⟨w, h', h1, v, e, rfl, h2⟩ := H
    exact ⟨v, e, h', by rw [hc]; exact h1, h2⟩
  have hln := hL.len
  obtain ⟨e8, hcall, he8⟩ := h8 hL
  refine Wf.intro (sz := 51) rfl rfl fun K hn0 hr0 => ?_
  repeat refine Wc.assoc ?_
  refine Wc.seq fun K1 hn1 hx1 => ?_
  refine Wc.rg ?_
  refine Wo.val rfl rfl rfl ?_
  refine Wo.val rfl rfl rfl ?_
  refine Wo.nil ?_
  refine hn1 _ ?_
  repeat refine Wc.assoc ?_
  refine Wc.seq fun K2 hn2 hx2 => ?_
  refine Wc.rg ?_
  refine Wo.val rfl rfl rfl ?_
  refine Wo.cl rfl rfl rfl (by first | rfl | (simp only [MS, Nat.reduceBEq, Nat.reduceBNe, Nat.reduceEqDiff, reduceIte, if_true, if_false, reduceCtorEq, Nat.reduceAdd, Nat.reduceMul, Nat.reduceLeDiff, Nat.reduceLT, Nat.reduceDiv, Nat.reduceSub, cval, cv, TS T] <;> rfl)) (by first | rfl | (simp only [MS, Nat.reduceBEq, Nat.reduceBNe, Nat.reduceEqDiff, reduceIte, if_true, if_false, reduceCtorEq, Nat.reduceAdd, Nat.reduceMul, Nat.reduceLeDiff, Nat.reduceLT, Nat.reduceDiv, Nat.reduceSub, cval, cv, TS T] <;> rfl)) (fun _ => rfl) ?_
  refine ⟨_, h, hcall, ?_⟩
  refine Wo.val rfl rfl rfl ?_
  refine Wo.nil ?_
  refine hn2 _ ?_
  repeat refine Wc.assoc ?_
  refine Wc.seq fun K3 hn3 hx3 => ?_
  refine Wc.rg ?_
  refine Wo.val rfl rfl rfl ?_
  refine Wo.val rfl (by simp only [MS, Nat.reduceBEq, Nat.reduceBNe, Nat.reduceEqDiff, reduceIte, if_true, if_false, reduceCtorEq, Nat.reduceAdd, Nat.reduceMul, Nat.reduceLeDiff, Nat.reduceLT, Nat.reduceDiv, Nat.reduceSub, binA, arithA, strA, isC, cval, cv, TS T] <;> rfl) rfl ?_
  refine Wo.nil ?_
  refine hn3 _ ?_
  repeat refine Wc.assoc ?_
  refine Wc.seq fun K4 hn4 hx4 => ?_
  refine Wc.cond rfl (fun c2 => ?_) (fun c2 => ?_)
  · try have d2 := bne_iff_ne.1 c2
    repeat refine Wc.assoc ?_
    refine Wc.seq fun K5 hn5 hx5 => ?_
    refine Wc.rg ?_
    refine Wo.val rfl rfl rfl ?_
    refine Wo.val rfl rfl rfl ?_
    refine Wo.val rfl rfl rfl ?_
    refine Wo.nil ?_
    refine hn5 _ ?_
    exact Wc.ret (hx4 _ _ (by simp) ((hr0 _ _ [_, _] rfl ⟨_, _, rfl, Ext.refl h, .inl rfl⟩)))
  · try have d2 := bne_eq_false_iff_eq.1 c2
    refine Wc.skip (hn4 _ ?_)
    repeat refine Wc.assoc ?_
    refine Wc.seq fun K6 hn6 hx6 => ?_
    refine Wc.rg ?_
    refine Wo.val rfl rfl rfl ?_
    refine Wo.val rfl (by simp only [MS, Nat.reduceBEq, Nat.reduceBNe, Nat.reduceEqDiff, reduceIte, if_true, if_false, reduceCtorEq, Nat.reduceAdd, Nat.reduceMul, Nat.reduceLeDiff, Nat.reduceLT, Nat.reduceDiv, Nat.reduceSub, binA, arithA, strA, isC, cval, cv, TS T, c2] <;> rfl) rfl ?_
    refine Wo.val rfl rfl rfl ?_
    refine Wo.split (n := 17) rfl (fun c3 => ?_) (fun c3 => ?_)
    · try have d3 := of_decide_eq_true c3
      refine Wo.skip (by first | rfl | (simp only [wantedA, wantedP, evR, List.contains, List.elem, MS, Nat.reduceBEq, Nat.reduceBNe, Nat.reduceEqDiff, reduceIte, if_true, if_false, reduceCtorEq, Nat.reduceAdd, Nat.reduceMul, Nat.reduceLeDiff, Nat.reduceLT, Nat.reduceDiv, Nat.reduceSub, c2, c3] <;> rfl)) rfl ?_
      refine Wo.skip (by first | rfl | (simp only [wantedA, wantedP, evR, List.contains, List.elem, MS, Nat.reduceBEq, Nat.reduceBNe, Nat.reduceEqDiff, reduceIte, if_true, if_false, reduceCtorEq, Nat.reduceAdd, Nat.reduceMul, Nat.reduceLeDiff, Nat.reduceLT, Nat.reduceDiv, Nat.reduceSub, c2, c3] <;> rfl)) rfl ?_
      refine Wo.val rfl (by first | rfl | (simp only [MS, Nat.reduceBEq, Nat.reduceBNe, Nat.reduceEqDiff, reduceIte, if_true, if_false, reduceCtorEq, Nat.reduceAdd, Nat.reduceMul, Nat.reduceLeDiff, Nat.reduceLT, Nat.reduceDiv, Nat.reduceSub, cval, cv, TS T, c2, c3] <;> rfl)) rfl ?_
      refine Wo.nil ?_
      refine hn6 _ ?_
      repeat refine Wc.assoc ?_
      refine Wc.seq fun K7 hn7 hx7 => ?_
      refine Wc.cond (t := true) (by first | rfl | (simp only [evF, look, c2, c3]; rfl) | simp [evF, look, c2, c3]) (fun _ => ?_) (fun h => by cases h)
      repeat refine Wc.assoc ?_
      refine Wc.seq fun K8 hn8 hx8 => ?_
      refine Wc.rg ?_
      refine Wo.val rfl rfl rfl ?_
      refine Wo.val rfl rfl rfl ?_
      refine Wo.nil ?_
      refine hn8 _ ?_
      exact Wc.ret (hx7 _ _ (by simp) ((hr0 _ _ [_, _] rfl ⟨_, _, rfl, Ext.refl h, .inl rfl⟩)))
    · try have d3 := of_decide_eq_false c3
      refine Wo.val (by first | rfl | (simp only [wantedA, wantedP, evR, List.contains, List.elem, MS, Nat.reduceBEq, Nat.reduceBNe, Nat.reduceEqDiff, reduceIte, if_true, if_false, reduceCtorEq, Nat.reduceAdd, Nat.reduceMul, Nat.reduceLeDiff, Nat.reduceLT, Nat.reduceDiv, Nat.reduceSub, c2, c3] <;> rfl)) (by first | rfl | (simp only [MS, Nat.reduceBEq, Nat.reduceBNe, Nat.reduceEqDiff, reduceIte, if_true, if_false, reduceCtorEq, Nat.reduceAdd, Nat.reduceMul, Nat.reduceLeDiff, Nat.reduceLT, Nat.reduceDiv, Nat.reduceSub, TS T, c2, c3] <;> rfl)) rfl ?_
      refine Wo.val (by first | rfl | (simp only [wantedA, wantedP, evR, List.contains, List.elem, MS, Nat.reduceBEq, Nat.reduceBNe, Nat.reduceEqDiff, reduceIte, if_true, if_false, reduceCtorEq, Nat.reduceAdd, Nat.reduceMul, Nat.reduceLeDiff, Nat.reduceLT, Nat.reduceDiv, Nat.reduceSub, c2, c3] <;> rfl)) (by simp only [MS, Nat.reduceBEq, Nat.reduceBNe, Nat.reduceEqDiff, reduceIte, if_true, if_false, reduceCtorEq, Nat.reduceAdd, Nat.reduceMul, Nat.reduceLeDiff, Nat.reduceLT, Nat.reduceDiv, Nat.reduceSub, binA, arithA, strA, isC, cval, cv, TS T, c2, c3] <;> rfl) rfl ?_
      refine Wo.val rfl (by first | rfl | (simp only [MS, Nat.reduceBEq, Nat.reduceBNe, Nat.reduceEqDiff, reduceIte, if_true, if_false, reduceCtorEq, Nat.reduceAdd, Nat.reduceMul, Nat.reduceLeDiff, Nat.reduceLT, Nat.reduceDiv, Nat.reduceSub, cval, cv, TS T, c2, c3] <;> rfl)) rfl ?_
      refine Wo.nil ?_
      refine hn6 _ ?_
      repeat refine Wc.assoc ?_
      refine Wc.seq fun K9 hn9 hx9 => ?_
      refine Wc.cond rfl (fun c4 => ?_) (fun c4 => ?_)
      · try have d4 := of_decide_eq_true c4
        repeat refine Wc.assoc ?_
        refine Wc.seq fun K10 hn10 hx10 => ?_
        refine Wc.rg ?_
        refine Wo.val rfl rfl rfl ?_
        refine Wo.val rfl rfl rfl ?_
        refine Wo.nil ?_
        refine hn10 _ ?_
        exact Wc.ret (hx9 _ _ (by simp) ((hr0 _ _ [_, _] rfl ⟨_, _, rfl, Ext.refl h, .inl rfl⟩)))
      · try have d4 := of_decide_eq_false c4
        refine Wc.skip (hn9 _ ?_)
        repeat refine Wc.assoc ?_
        refine Wc.seq fun K11 hn11 hx11 => ?_
        obtain ⟨hn0', hn4⟩ := he8 (by assumption)
        obtain ⟨mx, hmx⟩ := h35 hL hn0' hn4
        refine Wc.rg ?_
        refine Wo.val rfl rfl rfl ?_
        refine Wo.cl rfl rfl rfl (by first | rfl | (simp only [MS, Nat.reduceBEq, Nat.reduceBNe, Nat.reduceEqDiff, reduceIte, if_true, if_false, reduceCtorEq, Nat.reduceAdd, Nat.reduceMul, Nat.reduceLeDiff, Nat.reduceLT, Nat.reduceDiv, Nat.reduceSub, cval, cv, TS T, c2, c3, c4] <;> rfl)) (by first | rfl | (simp only [MS, Nat.reduceBEq, Nat.reduceBNe, Nat.reduceEqDiff, reduceIte, if_true, if_false, reduceCtorEq, Nat.reduceAdd, Nat.reduceMul, Nat.reduceLeDiff, Nat.reduceLT, Nat.reduceDiv, Nat.reduceSub, cval, cv, TS T, c2, c3, c4] <;> rfl)) (fun _ => rfl) ?_
        refine ⟨_, h, hmx, ?_⟩
        refine Wo.val rfl (by simp only [MS, Nat.reduceBEq, Nat.reduceBNe, Nat.reduceEqDiff, reduceIte, if_true, if_false, reduceCtorEq, Nat.reduceAdd, Nat.reduceMul, Nat.reduceLeDiff, Nat.reduceLT, Nat.reduceDiv, Nat.reduceSub, binA, arithA, strA, isC, cval, cv, TS T, c2, c3, c4] <;> rfl) rfl ?_
        refine Wo.nil ?_
        refine hn11 _ ?_
        repeat refine Wc.assoc ?_
        refine Wc.seq fun K12 hn12 hx12 => ?_
        refine Wc.cond rfl (fun c6 => ?_) (fun c6 => ?_)
        · try have d6 := beq_iff_eq.1 c6
          repeat refine Wc.assoc ?_
          refine Wc.seq fun K13 hn13 hx13 => ?_
          refine Wc.rg ?_
          refine Wo.val rfl rfl rfl ?_
          refine Wo.val rfl rfl rfl ?_
          refine Wo.nil ?_
          refine hn13 _ ?_
          exact Wc.ret (hx12 _ _ (by simp) ((hr0 _ _ [_, _] rfl ⟨_, _, rfl, Ext.refl h, .inl rfl⟩)))
        · try have d6 := beq_eq_false_iff_ne.1 c6
          refine Wc.skip (hn12 _ ?_)
          repeat refine Wc.assoc ?_
          refine Wc.seq fun K14 hn14 hx14 => ?_
          refine Wc.rg ?_
          refine Wo.val rfl rfl rfl ?_
          refine Wo.nil ?_
          refine hn14 _ ?_
          repeat refine Wc.assoc ?_
          refine Wc.seq fun K15 hn15 hx15 => ?_
          refine Wc.rg ?_
          refine Wo.val rfl rfl rfl ?_
          refine Wo.nil ?_
          refine hn15 _ ?_
          repeat refine Wc.assoc ?_
          refine Wc.seq fun K16 hn16 hx16 => ?_
          refine Wc.block fun K17 hb17 hx17 => ?_
          refine Wc.loop (fun k0 s => ∃ (i : Nat) (y : Int) (hi : Hp) (u : V) (ns : List Int) (fr : List (Nat × V)), s = ⟨fr, [], hi⟩ ∧ (ns.length + k0 = 4001) ∧ (ns.length ≤ 4000) ∧ (i < n) ∧ (IntKind.i64.wrap y = y) ∧ (Ext h hi) ∧ (SlAt 3 hi u (ns.map (V.i .i64))) ∧ (∀ b, blkOf u = some b → h.n ≤ b) ∧ (∀ m ∈ ns, IntKind.i64.wrap m = m) ∧ look fr 0 = some (v) ∧ look fr 1 = some (.i .i64 y) ∧ look fr 7 = some (u) ∧ look fr 8 = some (.i .i64 (i : Nat))) (4001) (by omega) ⟨0, e, h, .nils, [], _, rfl, rfl, by simp, hn0', he, Ext.refl h, .inl ⟨rfl, rfl⟩, fun b hb => by simp [blkOf] at hb, fun m hm => by simp at hm, rfl, rfl, rfl, rfl⟩ ?_
          rintro k0 _ ⟨i, y, hi, u, ns, fr, rfl, hik, hle, hj, hyw, hx, hsl, hbl, hnw, f0, f1, f7, f8⟩ KL0 hnL0 hxL0
          repeat refine Wc.assoc ?_
          refine Wc.seq fun K18 hn18 hx18 => ?_
          refine Wc.rg ?_
          refine Wo.val rfl (by first | rfl | (simp only [MS, Nat.reduceBEq, Nat.reduceBNe, Nat.reduceEqDiff, reduceIte, if_true, if_false, reduceCtorEq, Nat.reduceAdd, Nat.reduceMul, Nat.reduceLeDiff, Nat.reduceLT, Nat.reduceDiv, Nat.reduceSub, TS T, f0, f1, f7, f8, c2, c3, c4, c6] <;> rfl)) rfl ?_
          refine Wo.val rfl (by simp only [MS, Nat.reduceBEq, Nat.reduceBNe, Nat.reduceEqDiff, reduceIte, if_true, if_false, reduceCtorEq, Nat.reduceAdd, Nat.reduceMul, Nat.reduceLeDiff, Nat.reduceLT, Nat.reduceDiv, Nat.reduceSub, binA, arithA, strA, isC, cval, cv, TS T, f0, f1, f7, f8, c2, c3, c4, c6] <;> rfl) rfl ?_
          refine Wo.nil ?_
          refine hn18 _ ?_
          repeat refine Wc.assoc ?_
          refine Wc.seq fun K19 hn19 hx19 => ?_
          refine Wc.cond rfl (fun c7 => ?_) (fun c7 => ?_)
          · try have d7 := of_decide_eq_true c7
            refine Wc.skip (hn19 _ ?_)
            repeat refine Wc.assoc ?_
            refine Wc.seq fun K20 hn20 hx20 => ?_
            refine Wc.block fun K21 hb21 hx21 => ?_
            repeat refine Wc.assoc ?_
            refine Wc.seq fun K22 hn22 hx22 => ?_
            have hlu : bltA tb .len #[22] [u] = some (.i .i64 (ns.length : Nat)) := by simpa using (hsl.ix T.n).1
            refine Wc.rg ?_
            refine Wo.val rfl (by first | rfl | (simp only [MS, Nat.reduceBEq, Nat.reduceBNe, Nat.reduceEqDiff, reduceIte, if_true, if_false, reduceCtorEq, Nat.reduceAdd, Nat.reduceMul, Nat.reduceLeDiff, Nat.reduceLT, Nat.reduceDiv, Nat.reduceSub, TS T, f0, f1, f7, f8, c2, c3, c4, c6, c7, hlu] <;> rfl)) rfl ?_
            refine Wo.val rfl (by simp only [MS, Nat.reduceBEq, Nat.reduceBNe, Nat.reduceEqDiff, reduceIte, if_true, if_false, reduceCtorEq, Nat.reduceAdd, Nat.reduceMul, Nat.reduceLeDiff, Nat.reduceLT, Nat.reduceDiv, Nat.reduceSub, cval, cv, TS T, f0, f1, f7, f8, c2, c3, c4, c6, c7, hlu] <;> rfl) rfl ?_
            refine Wo.val rfl (by simp only [MS, Nat.reduceBEq, Nat.reduceBNe, Nat.reduceEqDiff, reduceIte, if_true, if_false, reduceCtorEq, Nat.reduceAdd, Nat.reduceMul, Nat.reduceLeDiff, Nat.reduceLT, Nat.reduceDiv, Nat.reduceSub, binA, arithA, strA, isC, cval, cv, TS T, f0, f1, f7, f8, c2, c3, c4, c6, c7, hlu] <;> rfl) rfl ?_
            refine Wo.nil ?_
            refine hn22 _ ?_
            repeat refine Wc.assoc ?_
            refine Wc.seq fun K23 hn23 hx23 => ?_
            refine Wc.cond rfl (fun c9 => ?_) (fun c9 => ?_)
            · try have d9 := beq_iff_eq.1 c9
              repeat refine Wc.assoc ?_
              refine Wc.seq fun K24 hn24 hx24 => ?_
              refine Wc.rg ?_
              refine Wo.val rfl rfl rfl ?_
              refine Wo.val rfl rfl rfl ?_
              refine Wo.nil ?_
              refine hn24 _ ?_
              exact Wc.ret (hx23 _ _ (by simp) (hx21 _ _ (by simp) (hx20 _ _ (by simp) (hxL0 _ _ (by simp) (hx17 _ _ (by simp) (hx16 _ _ (by simp) ((hr0 _ _ [_, _] rfl ⟨_, _, rfl, hx, .inl rfl⟩))))))))
            · try have d9 := beq_eq_false_iff_ne.1 c9
              refine Wc.skip (hn23 _ ?_)
              repeat refine Wc.assoc ?_
              refine Wc.seq fun K25 hn25 hx25 => ?_
              obtain ⟨bb, oo, z, hia, hld, hzw⟩ := hL.at_ hi hx i hj
              obtain ⟨val, hval⟩ : ∃ val : Int, bltA tb .min #[3, 3] [.i .i64 z, .i .i64 y] = some (.i .i64 val) ∧ IntKind.i64.wrap val = val := ⟨_, rfl, by dsimp only; split <;> assumption⟩
              obtain ⟨hval, hvw⟩ := hval
              refine Wc.rg ?_
              refine Wo.val rfl (by first | rfl | (simp only [MS, Nat.reduceBEq, Nat.reduceBNe, Nat.reduceEqDiff, reduceIte, if_true, if_false, reduceCtorEq, Nat.reduceAdd, Nat.reduceMul, Nat.reduceLeDiff, Nat.reduceLT, Nat.reduceDiv, Nat.reduceSub, TS T, f0, f1, f7, f8, c2, c3, c4, c6, c7, c9, hia, hld, hval] <;> rfl)) rfl ?_
              refine Wo.val rfl (by first | rfl | (simp only [MS, Nat.reduceBEq, Nat.reduceBNe, Nat.reduceEqDiff, reduceIte, if_true, if_false, reduceCtorEq, Nat.reduceAdd, Nat.reduceMul, Nat.reduceLeDiff, Nat.reduceLT, Nat.reduceDiv, Nat.reduceSub, TS T, f0, f1, f7, f8, c2, c3, c4, c6, c7, c9, hia, hld, hval] <;> rfl)) rfl ?_
              refine Wo.val rfl (by simp only [MS, Nat.reduceBEq, Nat.reduceBNe, Nat.reduceEqDiff, reduceIte, if_true, if_false, reduceCtorEq, Nat.reduceAdd, Nat.reduceMul, Nat.reduceLeDiff, Nat.reduceLT, Nat.reduceDiv, Nat.reduceSub, cval, cv, TS T, f0, f1, f7, f8, c2, c3, c4, c6, c7, c9, hia, hld, hval] <;> rfl) rfl ?_
              refine Wo.val rfl (by simp only [MS, Nat.reduceBEq, Nat.reduceBNe, Nat.reduceEqDiff, reduceIte, if_true, if_false, reduceCtorEq, Nat.reduceAdd, Nat.reduceMul, Nat.reduceLeDiff, Nat.reduceLT, Nat.reduceDiv, Nat.reduceSub, partV, TS T, f0, f1, f7, f8, c2, c3, c4, c6, c7, c9, hia, hld, hval] <;> rfl) rfl ?_
              refine Wo.val rfl (by first | rfl | (simp only [MS, Nat.reduceBEq, Nat.reduceBNe, Nat.reduceEqDiff, reduceIte, if_true, if_false, reduceCtorEq, Nat.reduceAdd, Nat.reduceMul, Nat.reduceLeDiff, Nat.reduceLT, Nat.reduceDiv, Nat.reduceSub, TS T, f0, f1, f7, f8, c2, c3, c4, c6, c7, c9, hia, hld, hval] <;> rfl)) rfl ?_
              refine Wo.val rfl (by simp only [MS, Nat.reduceBEq, Nat.reduceBNe, Nat.reduceEqDiff, reduceIte, if_true, if_false, reduceCtorEq, Nat.reduceAdd, Nat.reduceMul, Nat.reduceLeDiff, Nat.reduceLT, Nat.reduceDiv, Nat.reduceSub, cval, cv, TS T, f0, f1, f7, f8, c2, c3, c4, c6, c7, c9, hia, hld, hval] <;> rfl) rfl ?_
              refine Wo.val rfl rfl rfl ?_
              refine Wo.nil ?_
              refine hn25 _ ?_
              repeat refine Wc.assoc ?_
              refine Wc.seq fun K26 hn26 hx26 => ?_
              have hbs := fun hh => buildSlice_one T.n hh (v := .i .i64 val) rfl
              obtain ⟨nu, h2, ha, hs2, hn2, hp2, ho2⟩ := SlAt.app (h := hi.push (.blk 6 [.i .i64 val] true)) T.n (x := .i .i64 val) (xb := hi.n) (xt := 6) (xw := true) (hsl.same (by simp) fun b hb => Hp.get_push_ne _ _ (by have := hsl.lt hb; omega)) (by simp) rfl (by simp; omega)
              have hvq := hsl.vbeq
              have hxn := hx.n
              simp only [Hp.n_push] at hn2
              have hx2 : Ext h h2 := ⟨by omega, fun b hb => by rw [ho2 b (by simp; omega) (fun e => by have := hbl b e; omega), Hp.get_push_ne _ _ (by omega)]; exact hx.old b hb⟩
              refine Wc.rg ?_
              refine Wo.val rfl (by first | rfl | (simp only [MS, Nat.reduceBEq, Nat.reduceBNe, Nat.reduceEqDiff, reduceIte, if_true, if_false, reduceCtorEq, Nat.reduceAdd, Nat.reduceMul, Nat.reduceLeDiff, Nat.reduceLT, Nat.reduceDiv, Nat.reduceSub, TS T, f0, f1, f7, f8, c2, c3, c4, c6, c7, c9, hbs, ha, hvq] <;> rfl)) rfl ?_
              refine Wo.val rfl rfl rfl ?_
              refine Wo.val rfl (by simp only [MS, Nat.reduceBEq, Nat.reduceBNe, Nat.reduceEqDiff, reduceIte, if_true, if_false, reduceCtorEq, Nat.reduceAdd, Nat.reduceMul, Nat.reduceLeDiff, Nat.reduceLT, Nat.reduceDiv, Nat.reduceSub, partsA, cval, cv, TS T, f0, f1, f7, f8, c2, c3, c4, c6, c7, c9, hbs, ha, hvq] <;> rfl) rfl ?_
              refine Wo.val rfl (by simp only [MS, Nat.reduceBEq, Nat.reduceBNe, Nat.reduceEqDiff, reduceIte, if_true, if_false, reduceCtorEq, Nat.reduceAdd, Nat.reduceMul, Nat.reduceLeDiff, Nat.reduceLT, Nat.reduceDiv, Nat.reduceSub, cval, cv, TS T, f0, f1, f7, f8, c2, c3, c4, c6, c7, c9, hbs, ha, hvq] <;> rfl) rfl ?_
              refine Wo.val rfl rfl rfl ?_
              refine Wo.nil ?_
              refine hn26 _ ?_
              refine Wc.rg ?_
              refine Wo.val rfl (by first | rfl | (simp only [MS, Nat.reduceBEq, Nat.reduceBNe, Nat.reduceEqDiff, reduceIte, if_true, if_false, reduceCtorEq, Nat.reduceAdd, Nat.reduceMul, Nat.reduceLeDiff, Nat.reduceLT, Nat.reduceDiv, Nat.reduceSub, TS T, f0, f1, f7, f8, c2, c3, c4, c6, c7, c9] <;> rfl)) rfl ?_
              refine Wo.val rfl rfl rfl ?_
              refine Wo.val rfl (by simp only [MS, Nat.reduceBEq, Nat.reduceBNe, Nat.reduceEqDiff, reduceIte, if_true, if_false, reduceCtorEq, Nat.reduceAdd, Nat.reduceMul, Nat.reduceLeDiff, Nat.reduceLT, Nat.reduceDiv, Nat.reduceSub, binA, arithA, strA, isC, cval, cv, TS T, f0, f1, f7, f8, c2, c3, c4, c6, c7, c9] <;> rfl) rfl ?_
              refine Wo.val rfl rfl rfl ?_
              refine Wo.nil ?_
              refine hx21 _ _ (by simp) (hn20 _ ?_)
              have hw := w64 (n := i) (by omega)
              have htm := tmod_nat (i + 1) n
              have hnz : ¬ ((n : Int) = 0) := by omega
              refine Wc.rg ?_
              refine Wo.val rfl (by first | rfl | (simp only [MS, Nat.reduceBEq, Nat.reduceBNe, Nat.reduceEqDiff, reduceIte, if_true, if_false, reduceCtorEq, Nat.reduceAdd, Nat.reduceMul, Nat.reduceLeDiff, Nat.reduceLT, Nat.reduceDiv, Nat.reduceSub, TS T, f0, f1, f7, f8, c2, c3, c4, c6, c7, c9, hw, htm, hnz, hln] <;> rfl)) rfl ?_
              refine Wo.val rfl (by simp only [MS, Nat.reduceBEq, Nat.reduceBNe, Nat.reduceEqDiff, reduceIte, if_true, if_false, reduceCtorEq, Nat.reduceAdd, Nat.reduceMul, Nat.reduceLeDiff, Nat.reduceLT, Nat.reduceDiv, Nat.reduceSub, binA, arithA, strA, isC, cval, cv, TS T, f0, f1, f7, f8, c2, c3, c4, c6, c7, c9, hw, htm, hnz, hln] <;> rfl) rfl ?_
              refine Wo.val rfl (by first | rfl | (simp only [MS, Nat.reduceBEq, Nat.reduceBNe, Nat.reduceEqDiff, reduceIte, if_true, if_false, reduceCtorEq, Nat.reduceAdd, Nat.reduceMul, Nat.reduceLeDiff, Nat.reduceLT, Nat.reduceDiv, Nat.reduceSub, TS T, f0, f1, f7, f8, c2, c3, c4, c6, c7, c9, hw, htm, hnz, hln] <;> rfl)) rfl ?_
              refine Wo.val rfl (by simp only [MS, Nat.reduceBEq, Nat.reduceBNe, Nat.reduceEqDiff, reduceIte, if_true, if_false, reduceCtorEq, Nat.reduceAdd, Nat.reduceMul, Nat.reduceLeDiff, Nat.reduceLT, Nat.reduceDiv, Nat.reduceSub, cval, cv, TS T, f0, f1, f7, f8, c2, c3, c4, c6, c7, c9, hw, htm, hnz, hln] <;> rfl) rfl ?_
              refine Wo.val rfl (by simp only [MS, Nat.reduceBEq, Nat.reduceBNe, Nat.reduceEqDiff, reduceIte, if_true, if_false, reduceCtorEq, Nat.reduceAdd, Nat.reduceMul, Nat.reduceLeDiff, Nat.reduceLT, Nat.reduceDiv, Nat.reduceSub, binA, arithA, strA, isC, cval, cv, TS T, f0, f1, f7, f8, c2, c3, c4, c6, c7, c9, hw, htm, hnz, hln] <;> rfl) rfl ?_
              refine Wo.val rfl rfl rfl ?_
              refine Wo.nil ?_
              exact hnL0 _ (k0 - 1) (by omega) ⟨(i + 1) % n, _, h2, nu, ns ++ [val], _, rfl, by simp; omega, by simp; omega, Nat.mod_lt _ hn0', wrap_wrap _ _, hx2, by simpa using hs2, fun b hb => by have := hp2 b hb; simp at this; omega, snoc_all hnw hvw, (by simp [look, f0]), rfl, rfl, rfl⟩
          · try have d7 := of_decide_eq_false c7
            refine Wc.exit (hx19 _ _ (by simp) (hxL0 _ _ (by simp) (hb17 _ (hn16 _ ?_))))
            repeat refine Wc.assoc ?_
            refine Wc.seq fun K27 hn27 hx27 => ?_
            obtain ⟨tt, htt⟩ := hsl.eqNil T.n
            refine Wc.rg ?_
            refine Wo.val rfl (by first | rfl | (simp only [MS, Nat.reduceBEq, Nat.reduceBNe, Nat.reduceEqDiff, reduceIte, if_true, if_false, reduceCtorEq, Nat.reduceAdd, Nat.reduceMul, Nat.reduceLeDiff, Nat.reduceLT, Nat.reduceDiv, Nat.reduceSub, TS T, f0, f1, f7, f8, c2, c3, c4, c6, c7, htt] <;> rfl)) rfl ?_
            refine Wo.val rfl (by simp only [MS, Nat.reduceBEq, Nat.reduceBNe, Nat.reduceEqDiff, reduceIte, if_true, if_false, reduceCtorEq, Nat.reduceAdd, Nat.reduceMul, Nat.reduceLeDiff, Nat.reduceLT, Nat.reduceDiv, Nat.reduceSub, arithA, strA, isC, cval, cv, TS T, f0, f1, f7, f8, c2, c3, c4, c6, c7, htt] <;> rfl) rfl ?_
            refine Wo.nil ?_
            refine hn27 _ ?_
            repeat refine Wc.assoc ?_
            refine Wc.seq fun K28 hn28 hx28 => ?_
            refine Wc.cond rfl (fun c14 => ?_) (fun c14 => ?_)
            · try have d14 := beq_iff_eq.1 c14
              have hbs := buildSlice_one T.n hi (v := .i .i64 0) rfl
              refine Wc.rg ?_
              refine Wo.val rfl (by simp only [MS, Nat.reduceBEq, Nat.reduceBNe, Nat.reduceEqDiff, reduceIte, if_true, if_false, reduceCtorEq, Nat.reduceAdd, Nat.reduceMul, Nat.reduceLeDiff, Nat.reduceLT, Nat.reduceDiv, Nat.reduceSub, partsA, cval, cv, TS T, f0, f1, f7, f8, c2, c3, c4, c6, c7, c14, hbs] <;> rfl) rfl ?_
              refine Wo.val rfl rfl rfl ?_
              refine Wo.nil ?_
              refine hn28 _ ?_
              repeat refine Wc.assoc ?_
              refine Wc.seq fun K29 hn29 hx29 => ?_
              refine Wc.rg ?_
              refine Wo.val rfl rfl rfl ?_
              refine Wo.val rfl rfl rfl ?_
              refine Wo.val rfl rfl rfl ?_
              refine Wo.nil ?_
              refine hn29 _ ?_
              have hxn := hx.n
              exact Wc.ret ((hr0 _ _ [_, _] rfl ⟨_, _, rfl, by first | exact hx | exact hx.trans (Ext.push _ _), by first | exact hsl.res hbl (by omega) hnw | exact IntRes.one hxn (by simp) (Hp.get_push_self _ _) rfl⟩))
            · try have d14 := beq_eq_false_iff_ne.1 c14
              refine Wc.skip (hn28 _ ?_)
              repeat refine Wc.assoc ?_
              refine Wc.seq fun K30 hn30 hx30 => ?_
              refine Wc.rg ?_
              refine Wo.val rfl (by first | rfl | (simp only [MS, Nat.reduceBEq, Nat.reduceBNe, Nat.reduceEqDiff, reduceIte, if_true, if_false, reduceCtorEq, Nat.reduceAdd, Nat.reduceMul, Nat.reduceLeDiff, Nat.reduceLT, Nat.reduceDiv, Nat.reduceSub, TS T, f0, f1, f7, f8, c2, c3, c4, c6, c7, c14] <;> rfl)) rfl ?_
              refine Wo.val rfl rfl rfl ?_
              refine Wo.val rfl rfl rfl ?_
              refine Wo.nil ?_
              refine hn30 _ ?_
              have hxn := hx.n
              exact Wc.ret ((hr0 _ _ [_, _] rfl ⟨_, _, rfl, by first | exact hx | exact hx.trans (Ext.push _ _), by first | exact hsl.res hbl (by omega) hnw | exact IntRes.one hxn (by simp) (Hp.get_push_self _ _) rfl⟩))

theorem S.f24_ok {tb fc} (T : S.Ty tb) {call call' : Caller} {lf : Nat} (hlf : 2000000000000 ≤ lf) (hc : ∀ args h, call' (.fn 24) args h = runF tb fc call lf Tryz.f24 args h)
    (h8 : ∀ {h : Hp} {v : V} {n : Nat}, IL tb 22 3 h v n → ∃ e : Int, call (.fn 8) [v] h = some (.ret (.i .i64 e), h) ∧ (e = 0 → 0 < n ∧ n ≤ 4000))
    (h36 : ∀ {h : Hp} {u v : V} {m n : Nat}, IL tb 22 3 h u m → IL tb 22 3 h v n → m ≤ 4000 → ∃ t : Bool, call (.fn 36) [u, v] h = some (.ret (.b t), h) ∧ (m = 0 → n = 0 → t = true))
    (h37 : ∀ {G : Nat → Option BT} {r : Nat} {h : Hp} {v : V} {n : Nat}, TOk G h → LfOk G r true (.sl [.int .i64]) v → bltA tb .len #[22] [v] = some (.i .i64 n) → n ≤ 4000 → ∃ w h', call (.fn 37) [v] h = some (.ret w, h') ∧ Ext h h' ∧ IntRes h h' w)
    {G : Nat → Option BT} {r : Nat} {h : Hp} {v : V} (hT : TOk G h) (hv : LfOk G r true (.sl [.int .i64]) v) : ∃ (w : V) (x : Int) (h' : Hp), call' (.fn 24) [v] h = some (.ret (.tup [w, .i .i64 x]), h') ∧ Ext h h' ∧ IntRes h h' w := by
  suffices H : Wf tb fc call lf Tryz.f24 [v] h (fun w h' => ∃ (v : V) (x : Int), w = .tup [v, .i .i64 x] ∧ Ext h h' ∧ IntRes h h' v) by
    obtain ⟨w, h', h1, v, e, rfl, h2⟩ := H
    exact ⟨v, e, h', by rw [hc]; exact h1, h2⟩
  obtain ⟨n, hL⟩ := IL.of (S.nt T) hT hv
  have hln := hL.len
  obtain ⟨e8, hcall, he8⟩ := h8 hL
  refine Wf.intro (sz := 34) rfl rfl fun K hn0 hr0 => ?_
  repeat refine Wc.assoc ?_
  refine Wc.seq fun K1 hn1 hx1 => ?_
  refine Wc.rg ?_
  refine Wo.val rfl rfl rfl ?_
  refine Wo.val rfl rfl rfl ?_
  refine Wo.nil ?_
  refine hn1 _ ?_
  repeat refine Wc.assoc ?_
  refine Wc.seq fun K2 hn2 hx2 => ?_
  refine Wc.rg ?_
  refine Wo.val rfl rfl rfl ?_
  refine Wo.cl rfl rfl rfl (by first | rfl | (simp only [MS, Nat.reduceBEq, Nat.reduceBNe, Nat.reduceEqDiff, reduceIte, if_true, if_false, reduceCtorEq, Nat.reduceAdd, Nat.reduceMul, Nat.reduceLeDiff, Nat.reduceLT, Nat.reduceDiv, Nat.reduceSub, cval, cv, TS T] <;> rfl)) (by first | rfl | (simp only [MS, Nat.reduceBEq, Nat.reduceBNe, Nat.reduceEqDiff, reduceIte, if_true, if_false, reduceCtorEq, Nat.reduceAdd, Nat.reduceMul, Nat.reduceLeDiff, Nat.reduceLT, Nat.reduceDiv, Nat.reduceSub, cval, cv, TS T] <;> rfl)) (fun _ => rfl) ?_
  refine ⟨_, h, hcall, ?_⟩
  refine Wo.val rfl rfl rfl ?_
  refine Wo.nil ?_
  refine hn2 _ ?_
  repeat refine Wc.assoc ?_
  refine Wc.seq fun K3 hn3 hx3 => ?_
  refine Wc.rg ?_
  refine Wo.val rfl rfl rfl ?_
  refine Wo.val rfl (by simp only [MS, Nat.reduceBEq, Nat.reduceBNe, Nat.reduceEqDiff, reduceIte, if_true, if_false, reduceCtorEq, Nat.reduceAdd, Nat.reduceMul, Nat.reduceLeDiff, Nat.reduceLT, Nat.reduceDiv, Nat.reduceSub, binA, arithA, strA, isC, cval, cv, TS T] <;> rfl) rfl ?_
  refine Wo.nil ?_
  refine hn3 _ ?_
  repeat refine Wc.assoc ?_
  refine Wc.seq fun K4 hn4 hx4 => ?_
  refine Wc.cond rfl (fun c2 => ?_) (fun c2 => ?_)
  · try have d2 := bne_iff_ne.1 c2
    repeat refine Wc.assoc ?_
    refine Wc.seq fun K5 hn5 hx5 => ?_
    refine Wc.rg ?_
    refine Wo.val rfl rfl rfl ?_
    refine Wo.val rfl rfl rfl ?_
    refine Wo.val rfl rfl rfl ?_
    refine Wo.nil ?_
    refine hn5 _ ?_
    exact Wc.ret (hx4 _ _ (by simp) ((hr0 _ _ [_, _] rfl ⟨_, _, rfl, Ext.refl h, .inl rfl⟩)))
  · try have d2 := bne_eq_false_iff_eq.1 c2
    refine Wc.skip (hn4 _ ?_)
    repeat refine Wc.assoc ?_
    refine Wc.seq fun K6 hn6 hx6 => ?_
    obtain ⟨hn0', hn4⟩ := he8 (by assumption)
    refine Wc.rg ?_
    refine Wo.val rfl rfl rfl ?_
    refine Wo.nil ?_
    refine hn6 _ ?_
    refine Wc.block fun K7 hb7 hx7 => ?_
    refine Wc.loop (fun k0 s => ∃ (j : Nat) (fr : List (Nat × V)), s = ⟨fr, [], h⟩ ∧ (j + k0 = n + 1) ∧ (1 ≤ j) ∧ (j ≤ n) ∧ look fr 0 = some (v) ∧ look fr 5 = some (.i .i64 (j : Nat))) (n) (by omega) ⟨1, _, rfl, by omega, by omega, by omega, rfl, rfl⟩ ?_
    rintro k0 _ ⟨j, fr, rfl, hik, hj1, hjn, f0, f5⟩ KL0 hnL0 hxL0
    repeat refine Wc.assoc ?_
    refine Wc.seq fun K8 hn8 hx8 => ?_
    refine Wc.block fun K9 hb9 hx9 => ?_
    repeat refine Wc.assoc ?_
    refine Wc.seq fun K10 hn10 hx10 => ?_
    obtain ⟨v1, hs1, hv1, hL1⟩ := IL.cut (S.nt T) (S.rt T) hT hv hln (lo := some (j : Int)) (hi := none) (a := j) (c := n) (.inr rfl) (.inl ⟨rfl, rfl⟩) (by omega) (by omega)
    obtain ⟨v2, hs2, hv2, hL2⟩ := IL.cut (S.nt T) (S.rt T) hT hv hln (lo := none) (hi := some ((n - j : Nat) : Int)) (a := 0) (c := n - j) (.inl ⟨rfl, rfl⟩) (.inr rfl) (by omega) (by omega)
    have hwj : IntKind.i64.wrap ((n : Int) - (j : Int)) = ((n - j : Nat) : Int) := by rw [wrap_i64] <;> omega
    have htm := tmod_nat n j
    have hnz : ¬ ((j : Int) = 0) := by omega
    obtain ⟨t, heq, ht⟩ := h36 hL1 hL2 (by omega)
    refine Wc.drawn [.p 0 [13, 14, 15, 16, 17, 18, 19, 20, 21, 22, 23, 24, 25, 26, 27, 29] none, .p 1 [14, 15, 16, 17, 18, 19, 20, 21, 22, 23, 24, 25, 26, 27, 29] none, .p 2 [13, 14, 15, 16, 17, 18, 19, 20, 21, 22, 23, 24, 25, 26, 27, 29] none, .p 3 [16, 17, 18, 19, 20, 21, 22, 23, 24, 25, 26, 27, 29] none, .p 4 [17, 18, 19, 20, 21, 22, 23, 24, 25, 26, 27, 29] none, .p 5 [18, 19, 20, 21, 22, 23, 24, 25, 26, 27, 29] none, .p 6 [19, 20, 21, 22, 23, 24, 25, 26, 27, 29] (some (18, true)), .p 7 [19, 20, 21, 22, 23, 24, 25, 26, 27, 29] (some (18, true)), .p 8 [21, 22, 23, 24, 25, 26, 27, 29] (some (18, true)), .p 9 [19, 20, 21, 22, 23, 24, 25, 26, 27, 29] (some (18, true)), .p 10 [19, 20, 21, 22, 23, 24, 25, 26, 27, 29] (some (18, true)), .p 11 [19, 20, 21, 22, 24, 25, 26, 27, 29] (some (18, true)), .p 12 [19, 20, 21, 22, 23, 24, 25, 26, 27, 29] (some (18, true)), .p 13 [19, 20, 21, 22, 26, 27, 29] (some (18, true)), .p 14 [19, 20, 21, 27, 29] (some (18, true)), .e 15 [28, 29] (some (18, true)) 32767, .p 16 [29] none] (by kernel_rfl) ?_
    refine Wz.v rfl rfl rfl (by first | rfl | (simp only [MS, Nat.reduceBEq, Nat.reduceBNe, Nat.reduceEqDiff, reduceIte, if_true, if_false, reduceCtorEq, Nat.reduceAdd, Nat.reduceMul, Nat.reduceLeDiff, Nat.reduceLT, Nat.reduceDiv, Nat.reduceSub, evR, List.contains, List.elem, TS T, f0, f5, c2, hln, hs1, hs2, hwj, htm, hnz] <;> rfl)) rfl ?_
    refine Wz.v rfl rfl rfl (by simp only [MS, Nat.reduceBEq, Nat.reduceBNe, Nat.reduceEqDiff, reduceIte, if_true, if_false, reduceCtorEq, Nat.reduceAdd, Nat.reduceMul, Nat.reduceLeDiff, Nat.reduceLT, Nat.reduceDiv, Nat.reduceSub, cval, cv, evR, List.contains, List.elem, TS T, f0, f5, c2, hln, hs1, hs2, hwj, htm, hnz] <;> rfl) rfl ?_
    refine Wz.v rfl rfl rfl (by first | rfl | (simp only [MS, Nat.reduceBEq, Nat.reduceBNe, Nat.reduceEqDiff, reduceIte, if_true, if_false, reduceCtorEq, Nat.reduceAdd, Nat.reduceMul, Nat.reduceLeDiff, Nat.reduceLT, Nat.reduceDiv, Nat.reduceSub, evR, List.contains, List.elem, TS T, f0, f5, c2, hln, hs1, hs2, hwj, htm, hnz] <;> rfl)) rfl ?_
    refine Wz.v rfl rfl rfl (by simp only [MS, Nat.reduceBEq, Nat.reduceBNe, Nat.reduceEqDiff, reduceIte, if_true, if_false, reduceCtorEq, Nat.reduceAdd, Nat.reduceMul, Nat.reduceLeDiff, Nat.reduceLT, Nat.reduceDiv, Nat.reduceSub, binA, arithA, strA, isC, cval, cv, evR, List.contains, List.elem, TS T, f0, f5, c2, hln, hs1, hs2, hwj, htm, hnz] <;> rfl) rfl ?_
    refine Wz.v rfl rfl rfl (by simp only [MS, Nat.reduceBEq, Nat.reduceBNe, Nat.reduceEqDiff, reduceIte, if_true, if_false, reduceCtorEq, Nat.reduceAdd, Nat.reduceMul, Nat.reduceLeDiff, Nat.reduceLT, Nat.reduceDiv, Nat.reduceSub, binA, arithA, strA, isC, cval, cv, evR, List.contains, List.elem, TS T, f0, f5, c2, hln, hs1, hs2, hwj, htm, hnz] <;> rfl) rfl ?_
    refine Wz.v rfl rfl rfl rfl rfl ?_
    refine Wz.split (n := 18) rfl (fun c4 => ?_) (fun c4 => ?_)
    · try have d4 := beq_iff_eq.1 c4
      refine Wz.v rfl (by first | rfl | (simp only [wantedA, wantedP, evR, List.contains, List.elem, MS, Nat.reduceBEq, Nat.reduceBNe, Nat.reduceEqDiff, reduceIte, if_true, if_false, reduceCtorEq, Nat.reduceAdd, Nat.reduceMul, Nat.reduceLeDiff, Nat.reduceLT, Nat.reduceDiv, Nat.reduceSub, f0, f5, c2, c4, hln, hs1, hs2, hwj, htm, hnz] <;> rfl)) rfl (by first | rfl | (simp only [MS, Nat.reduceBEq, Nat.reduceBNe, Nat.reduceEqDiff, reduceIte, if_true, if_false, reduceCtorEq, Nat.reduceAdd, Nat.reduceMul, Nat.reduceLeDiff, Nat.reduceLT, Nat.reduceDiv, Nat.reduceSub, evR, List.contains, List.elem, TS T, f0, f5, c2, c4, hln, hs1, hs2, hwj, htm, hnz] <;> rfl)) rfl ?_
      refine Wz.v rfl (by first | rfl | (simp only [wantedA, wantedP, evR, List.contains, List.elem, MS, Nat.reduceBEq, Nat.reduceBNe, Nat.reduceEqDiff, reduceIte, if_true, if_false, reduceCtorEq, Nat.reduceAdd, Nat.reduceMul, Nat.reduceLeDiff, Nat.reduceLT, Nat.reduceDiv, Nat.reduceSub, f0, f5, c2, c4, hln, hs1, hs2, hwj, htm, hnz] <;> rfl)) rfl (by first | rfl | (simp only [MS, Nat.reduceBEq, Nat.reduceBNe, Nat.reduceEqDiff, reduceIte, if_true, if_false, reduceCtorEq, Nat.reduceAdd, Nat.reduceMul, Nat.reduceLeDiff, Nat.reduceLT, Nat.reduceDiv, Nat.reduceSub, evR, List.contains, List.elem, TS T, f0, f5, c2, c4, hln, hs1, hs2, hwj, htm, hnz] <;> rfl)) rfl ?_
      refine Wz.ld rfl (by first | rfl | (simp only [wantedA, wantedP, evR, List.contains, List.elem, MS, Nat.reduceBEq, Nat.reduceBNe, Nat.reduceEqDiff, reduceIte, if_true, if_false, reduceCtorEq, Nat.reduceAdd, Nat.reduceMul, Nat.reduceLeDiff, Nat.reduceLT, Nat.reduceDiv, Nat.reduceSub, f0, f5, c2, c4, hln, hs1, hs2, hwj, htm, hnz] <;> rfl)) rfl (by simp only [MS, Nat.reduceBEq, Nat.reduceBNe, Nat.reduceEqDiff, reduceIte, if_true, if_false, reduceCtorEq, Nat.reduceAdd, Nat.reduceMul, Nat.reduceLeDiff, Nat.reduceLT, Nat.reduceDiv, Nat.reduceSub, bnd, bnds, ra_slice, evR, List.contains, List.elem, TS T, f0, f5, c2, c4, hln, hs1, hs2, hwj, htm, hnz] <;> rfl) rfl ?_
      refine Wz.v rfl (by first | rfl | (simp only [wantedA, wantedP, evR, List.contains, List.elem, MS, Nat.reduceBEq, Nat.reduceBNe, Nat.reduceEqDiff, reduceIte, if_true, if_false, reduceCtorEq, Nat.reduceAdd, Nat.reduceMul, Nat.reduceLeDiff, Nat.reduceLT, Nat.reduceDiv, Nat.reduceSub, f0, f5, c2, c4, hln, hs1, hs2, hwj, htm, hnz] <;> rfl)) rfl (by first | rfl | (simp only [MS, Nat.reduceBEq, Nat.reduceBNe, Nat.reduceEqDiff, reduceIte, if_true, if_false, reduceCtorEq, Nat.reduceAdd, Nat.reduceMul, Nat.reduceLeDiff, Nat.reduceLT, Nat.reduceDiv, Nat.reduceSub, evR, List.contains, List.elem, TS T, f0, f5, c2, c4, hln, hs1, hs2, hwj, htm, hnz] <;> rfl)) rfl ?_
      refine Wz.v rfl (by first | rfl | (simp only [wantedA, wantedP, evR, List.contains, List.elem, MS, Nat.reduceBEq, Nat.reduceBNe, Nat.reduceEqDiff, reduceIte, if_true, if_false, reduceCtorEq, Nat.reduceAdd, Nat.reduceMul, Nat.reduceLeDiff, Nat.reduceLT, Nat.reduceDiv, Nat.reduceSub, f0, f5, c2, c4, hln, hs1, hs2, hwj, htm, hnz] <;> rfl)) rfl (by first | rfl | (simp only [MS, Nat.reduceBEq, Nat.reduceBNe, Nat.reduceEqDiff, reduceIte, if_true, if_false, reduceCtorEq, Nat.reduceAdd, Nat.reduceMul, Nat.reduceLeDiff, Nat.reduceLT, Nat.reduceDiv, Nat.reduceSub, evR, List.contains, List.elem, TS T, f0, f5, c2, c4, hln, hs1, hs2, hwj, htm, hnz] <;> rfl)) rfl ?_
      refine Wz.v rfl (by first | rfl | (simp only [wantedA, wantedP, evR, List.contains, List.elem, MS, Nat.reduceBEq, Nat.reduceBNe, Nat.reduceEqDiff, reduceIte, if_true, if_false, reduceCtorEq, Nat.reduceAdd, Nat.reduceMul, Nat.reduceLeDiff, Nat.reduceLT, Nat.reduceDiv, Nat.reduceSub, f0, f5, c2, c4, hln, hs1, hs2, hwj, htm, hnz] <;> rfl)) rfl (by simp only [MS, Nat.reduceBEq, Nat.reduceBNe, Nat.reduceEqDiff, reduceIte, if_true, if_false, reduceCtorEq, Nat.reduceAdd, Nat.reduceMul, Nat.reduceLeDiff, Nat.reduceLT, Nat.reduceDiv, Nat.reduceSub, cval, cv, evR, List.contains, List.elem, TS T, f0, f5, c2, c4, hln, hs1, hs2, hwj, htm, hnz] <;> rfl) rfl ?_
      refine Wz.v rfl (by first | rfl | (simp only [wantedA, wantedP, evR, List.contains, List.elem, MS, Nat.reduceBEq, Nat.reduceBNe, Nat.reduceEqDiff, reduceIte, if_true, if_false, reduceCtorEq, Nat.reduceAdd, Nat.reduceMul, Nat.reduceLeDiff, Nat.reduceLT, Nat.reduceDiv, Nat.reduceSub, f0, f5, c2, c4, hln, hs1, hs2, hwj, htm, hnz] <;> rfl)) rfl (by first | rfl | (simp only [MS, Nat.reduceBEq, Nat.reduceBNe, Nat.reduceEqDiff, reduceIte, if_true, if_false, reduceCtorEq, Nat.reduceAdd, Nat.reduceMul, Nat.reduceLeDiff, Nat.reduceLT, Nat.reduceDiv, Nat.reduceSub, evR, List.contains, List.elem, TS T, f0, f5, c2, c4, hln, hs1, hs2, hwj, htm, hnz] <;> rfl)) rfl ?_
      refine Wz.v rfl (by first | rfl | (simp only [wantedA, wantedP, evR, List.contains, List.elem, MS, Nat.reduceBEq, Nat.reduceBNe, Nat.reduceEqDiff, reduceIte, if_true, if_false, reduceCtorEq, Nat.reduceAdd, Nat.reduceMul, Nat.reduceLeDiff, Nat.reduceLT, Nat.reduceDiv, Nat.reduceSub, f0, f5, c2, c4, hln, hs1, hs2, hwj, htm, hnz] <;> rfl)) rfl (by simp only [MS, Nat.reduceBEq, Nat.reduceBNe, Nat.reduceEqDiff, reduceIte, if_true, if_false, reduceCtorEq, Nat.reduceAdd, Nat.reduceMul, Nat.reduceLeDiff, Nat.reduceLT, Nat.reduceDiv, Nat.reduceSub, binA, arithA, strA, isC, cval, cv, evR, List.contains, List.elem, TS T, f0, f5, c2, c4, hln, hs1, hs2, hwj, htm, hnz] <;> rfl) rfl ?_
      refine Wz.ld rfl (by first | rfl | (simp only [wantedA, wantedP, evR, List.contains, List.elem, MS, Nat.reduceBEq, Nat.reduceBNe, Nat.reduceEqDiff, reduceIte, if_true, if_false, reduceCtorEq, Nat.reduceAdd, Nat.reduceMul, Nat.reduceLeDiff, Nat.reduceLT, Nat.reduceDiv, Nat.reduceSub, f0, f5, c2, c4, hln, hs1, hs2, hwj, htm, hnz] <;> rfl)) rfl (by simp only [MS, Nat.reduceBEq, Nat.reduceBNe, Nat.reduceEqDiff, reduceIte, if_true, if_false, reduceCtorEq, Nat.reduceAdd, Nat.reduceMul, Nat.reduceLeDiff, Nat.reduceLT, Nat.reduceDiv, Nat.reduceSub, bnd, bnds, ra_slice, evR, List.contains, List.elem, TS T, f0, f5, c2, c4, hln, hs1, hs2, hwj, htm, hnz] <;> rfl) rfl ?_
      refine Wz.cl rfl (by first | rfl | (simp only [wantedA, wantedP, evR, List.contains, List.elem, MS, Nat.reduceBEq, Nat.reduceBNe, Nat.reduceEqDiff, reduceIte, if_true, if_false, reduceCtorEq, Nat.reduceAdd, Nat.reduceMul, Nat.reduceLeDiff, Nat.reduceLT, Nat.reduceDiv, Nat.reduceSub, f0, f5, c2, c4, hln, hs1, hs2, hwj, htm, hnz] <;> rfl)) rfl rfl (by first | rfl | (simp only [MS, Nat.reduceBEq, Nat.reduceBNe, Nat.reduceEqDiff, reduceIte, if_true, if_false, reduceCtorEq, Nat.reduceAdd, Nat.reduceMul, Nat.reduceLeDiff, Nat.reduceLT, Nat.reduceDiv, Nat.reduceSub, cval, cv, evR, List.contains, List.elem, TS T, f0, f5, c2, c4, hln, hs1, hs2, hwj, htm, hnz] <;> rfl)) (by first | rfl | (simp only [MS, Nat.reduceBEq, Nat.reduceBNe, Nat.reduceEqDiff, reduceIte, if_true, if_false, reduceCtorEq, Nat.reduceAdd, Nat.reduceMul, Nat.reduceLeDiff, Nat.reduceLT, Nat.reduceDiv, Nat.reduceSub, cval, cv, evR, List.contains, List.elem, TS T, f0, f5, c2, c4, hln, hs1, hs2, hwj, htm, hnz] <;> rfl)) (fun _ => rfl) ?_
      refine ⟨_, h, heq, (by repeat' first | exact ldsOk_nil | refine ldsOk_skip (by rfl) ?_ | refine ldsOk_cons (by simp only [MS, Nat.reduceBEq, Nat.reduceBNe, Nat.reduceEqDiff, reduceIte, if_true, if_false, reduceCtorEq, Nat.reduceAdd, Nat.reduceMul, Nat.reduceLeDiff, Nat.reduceLT, Nat.reduceDiv, Nat.reduceSub, evR, List.contains, List.elem, loadA, partV, TS T, f0, f5, c2, c4, hln, hs1, hs2, hwj, htm, hnz]) (by simp [vbeq, vbeqs, f0, f5, c2, c4, hln, hs1, hs2, hwj, htm, hnz]) ?_), (by repeat' first | exact alsOk_nil | refine alsOk_skip (by rfl) ?_ | refine alsOk_cons (by simp [Hp.get_push, TI.zero, V.cells, f0, f5, c2, c4, hln, hs1, hs2, hwj, htm, hnz]) (by simp [TI.zero, V.cells, vbeq, vbeqs]) ?_), ?_⟩
      refine Wz.v rfl rfl rfl (by first | rfl | (simp only [MS, Nat.reduceBEq, Nat.reduceBNe, Nat.reduceEqDiff, reduceIte, if_true, if_false, reduceCtorEq, Nat.reduceAdd, Nat.reduceMul, Nat.reduceLeDiff, Nat.reduceLT, Nat.reduceDiv, Nat.reduceSub, cval, cv, evR, List.contains, List.elem, TS T, f0, f5, c2, c4, hln, hs1, hs2, hwj, htm, hnz] <;> rfl)) rfl ?_
      refine Wz.nil ?_
      refine hn10 _ ?_
      refine Wc.cond rfl (fun c6 => ?_) (fun c6 => ?_)
      · skip
        repeat refine Wc.assoc ?_
        refine Wc.seq fun K11 hn11 hx11 => ?_
        obtain ⟨v3, hs3, hv3, hL3⟩ := IL.cut (S.nt T) (S.rt T) hT hv hln (lo := none) (hi := some (j : Int)) (a := 0) (c := j) (.inl ⟨rfl, rfl⟩) (.inr rfl) (by omega) (by omega)
        obtain ⟨w, h', hcl, hx, hr⟩ := h37 hT hv3 hL3.len (by omega)
        refine Wc.rg ?_
        refine Wo.val rfl (by first | rfl | (simp only [MS, Nat.reduceBEq, Nat.reduceBNe, Nat.reduceEqDiff, reduceIte, if_true, if_false, reduceCtorEq, Nat.reduceAdd, Nat.reduceMul, Nat.reduceLeDiff, Nat.reduceLT, Nat.reduceDiv, Nat.reduceSub, TS T, f0, f5, c2, c4, c6, hs3] <;> rfl)) rfl ?_
        refine Wo.val rfl (by first | rfl | (simp only [MS, Nat.reduceBEq, Nat.reduceBNe, Nat.reduceEqDiff, reduceIte, if_true, if_false, reduceCtorEq, Nat.reduceAdd, Nat.reduceMul, Nat.reduceLeDiff, Nat.reduceLT, Nat.reduceDiv, Nat.reduceSub, TS T, f0, f5, c2, c4, c6, hs3] <;> rfl)) rfl ?_
        refine Wo.val rfl (by simp only [MS, Nat.reduceBEq, Nat.reduceBNe, Nat.reduceEqDiff, reduceIte, if_true, if_false, reduceCtorEq, Nat.reduceAdd, Nat.reduceMul, Nat.reduceLeDiff, Nat.reduceLT, Nat.reduceDiv, Nat.reduceSub, bnd, bnds, TS T, f0, f5, c2, c4, c6, hs3] <;> rfl) rfl ?_
        refine Wo.cl rfl rfl rfl (by first | rfl | (simp only [MS, Nat.reduceBEq, Nat.reduceBNe, Nat.reduceEqDiff, reduceIte, if_true, if_false, reduceCtorEq, Nat.reduceAdd, Nat.reduceMul, Nat.reduceLeDiff, Nat.reduceLT, Nat.reduceDiv, Nat.reduceSub, cval, cv, TS T, f0, f5, c2, c4, c6, hs3] <;> rfl)) (by first | rfl | (simp only [MS, Nat.reduceBEq, Nat.reduceBNe, Nat.reduceEqDiff, reduceIte, if_true, if_false, reduceCtorEq, Nat.reduceAdd, Nat.reduceMul, Nat.reduceLeDiff, Nat.reduceLT, Nat.reduceDiv, Nat.reduceSub, cval, cv, TS T, f0, f5, c2, c4, c6, hs3] <;> rfl)) (fun _ => rfl) ?_
        refine ⟨_, h', hcl, ?_⟩
        refine Wo.val rfl rfl rfl ?_
        refine Wo.val rfl rfl rfl ?_
        refine Wo.nil ?_
        refine hn11 _ ?_
        exact Wc.ret (hx9 _ _ (by simp) (hx8 _ _ (by simp) (hxL0 _ _ (by simp) (hx7 _ _ (by simp) ((hr0 _ _ [_, _] rfl ⟨_, _, rfl, hx, hr⟩))))))
      · skip
        refine Wc.skip (hx9 _ _ (by simp) (hn8 _ ?_))
        have hjne : j ≠ n := by
          rintro rfl
          first | (have := ht (by omega) (by omega); simp_all; done) | (simp [Nat.mod_self] at *; done)
        have hw := w64 (n := j) (by omega)
        refine Wc.rg ?_
        refine Wo.val rfl (by first | rfl | (simp only [MS, Nat.reduceBEq, Nat.reduceBNe, Nat.reduceEqDiff, reduceIte, if_true, if_false, reduceCtorEq, Nat.reduceAdd, Nat.reduceMul, Nat.reduceLeDiff, Nat.reduceLT, Nat.reduceDiv, Nat.reduceSub, TS T, f0, f5, c2, c4, c6, hw] <;> rfl)) rfl ?_
        refine Wo.val rfl (by simp only [MS, Nat.reduceBEq, Nat.reduceBNe, Nat.reduceEqDiff, reduceIte, if_true, if_false, reduceCtorEq, Nat.reduceAdd, Nat.reduceMul, Nat.reduceLeDiff, Nat.reduceLT, Nat.reduceDiv, Nat.reduceSub, binA, arithA, strA, isC, cval, cv, TS T, f0, f5, c2, c4, c6, hw] <;> rfl) rfl ?_
        refine Wo.val rfl rfl rfl ?_
        refine Wo.nil ?_
        exact hnL0 _ (k0 - 1) (by omega) ⟨j + 1, _, rfl, by omega, by omega, by omega, (by simp [look, f0]), rfl⟩
    · try have d4 := beq_eq_false_iff_ne.1 c4
      refine Wz.skipP rfl (by first | rfl | (simp only [wantedA, wantedP, evR, List.contains, List.elem, MS, Nat.reduceBEq, Nat.reduceBNe, Nat.reduceEqDiff, reduceIte, if_true, if_false, reduceCtorEq, Nat.reduceAdd, Nat.reduceMul, Nat.reduceLeDiff, Nat.reduceLT, Nat.reduceDiv, Nat.reduceSub, f0, f5, c2, c4, hln, hs1, hs2, hwj, htm, hnz] <;> rfl)) rfl ?_
      refine Wz.skipP rfl (by first | rfl | (simp only [wantedA, wantedP, evR, List.contains, List.elem, MS, Nat.reduceBEq, Nat.reduceBNe, Nat.reduceEqDiff, reduceIte, if_true, if_false, reduceCtorEq, Nat.reduceAdd, Nat.reduceMul, Nat.reduceLeDiff, Nat.reduceLT, Nat.reduceDiv, Nat.reduceSub, f0, f5, c2, c4, hln, hs1, hs2, hwj, htm, hnz] <;> rfl)) rfl ?_
      refine Wz.skipP rfl (by first | rfl | (simp only [wantedA, wantedP, evR, List.contains, List.elem, MS, Nat.reduceBEq, Nat.reduceBNe, Nat.reduceEqDiff, reduceIte, if_true, if_false, reduceCtorEq, Nat.reduceAdd, Nat.reduceMul, Nat.reduceLeDiff, Nat.reduceLT, Nat.reduceDiv, Nat.reduceSub, f0, f5, c2, c4, hln, hs1, hs2, hwj, htm, hnz] <;> rfl)) rfl ?_
      refine Wz.skipP rfl (by first | rfl | (simp only [wantedA, wantedP, evR, List.contains, List.elem, MS, Nat.reduceBEq, Nat.reduceBNe, Nat.reduceEqDiff, reduceIte, if_true, if_false, reduceCtorEq, Nat.reduceAdd, Nat.reduceMul, Nat.reduceLeDiff, Nat.reduceLT, Nat.reduceDiv, Nat.reduceSub, f0, f5, c2, c4, hln, hs1, hs2, hwj, htm, hnz] <;> rfl)) rfl ?_
      refine Wz.skipP rfl (by first | rfl | (simp only [wantedA, wantedP, evR, List.contains, List.elem, MS, Nat.reduceBEq, Nat.reduceBNe, Nat.reduceEqDiff, reduceIte, if_true, if_false, reduceCtorEq, Nat.reduceAdd, Nat.reduceMul, Nat.reduceLeDiff, Nat.reduceLT, Nat.reduceDiv, Nat.reduceSub, f0, f5, c2, c4, hln, hs1, hs2, hwj, htm, hnz] <;> rfl)) rfl ?_
      refine Wz.skipP rfl (by first | rfl | (simp only [wantedA, wantedP, evR, List.contains, List.elem, MS, Nat.reduceBEq, Nat.reduceBNe, Nat.reduceEqDiff, reduceIte, if_true, if_false, reduceCtorEq, Nat.reduceAdd, Nat.reduceMul, Nat.reduceLeDiff, Nat.reduceLT, Nat.reduceDiv, Nat.reduceSub, f0, f5, c2, c4, hln, hs1, hs2, hwj, htm, hnz] <;> rfl)) rfl ?_
      refine Wz.skipP rfl (by first | rfl | (simp only [wantedA, wantedP, evR, List.contains, List.elem, MS, Nat.reduceBEq, Nat.reduceBNe, Nat.reduceEqDiff, reduceIte, if_true, if_false, reduceCtorEq, Nat.reduceAdd, Nat.reduceMul, Nat.reduceLeDiff, Nat.reduceLT, Nat.reduceDiv, Nat.reduceSub, f0, f5, c2, c4, hln, hs1, hs2, hwj, htm, hnz] <;> rfl)) rfl ?_
      refine Wz.skipP rfl (by first | rfl | (simp only [wantedA, wantedP, evR, List.contains, List.elem, MS, Nat.reduceBEq, Nat.reduceBNe, Nat.reduceEqDiff, reduceIte, if_true, if_false, reduceCtorEq, Nat.reduceAdd, Nat.reduceMul, Nat.reduceLeDiff, Nat.reduceLT, Nat.reduceDiv, Nat.reduceSub, f0, f5, c2, c4, hln, hs1, hs2, hwj, htm, hnz] <;> rfl)) rfl ?_
      refine Wz.skipP rfl (by first | rfl | (simp only [wantedA, wantedP, evR, List.contains, List.elem, MS, Nat.reduceBEq, Nat.reduceBNe, Nat.reduceEqDiff, reduceIte, if_true, if_false, reduceCtorEq, Nat.reduceAdd, Nat.reduceMul, Nat.reduceLeDiff, Nat.reduceLT, Nat.reduceDiv, Nat.reduceSub, f0, f5, c2, c4, hln, hs1, hs2, hwj, htm, hnz] <;> rfl)) rfl ?_
      refine Wz.skipE rfl (by first | rfl | (simp only [wantedA, wantedP, evR, List.contains, List.elem, MS, Nat.reduceBEq, Nat.reduceBNe, Nat.reduceEqDiff, reduceIte, if_true, if_false, reduceCtorEq, Nat.reduceAdd, Nat.reduceMul, Nat.reduceLeDiff, Nat.reduceLT, Nat.reduceDiv, Nat.reduceSub, f0, f5, c2, c4, hln, hs1, hs2, hwj, htm, hnz] <;> rfl)) rfl ?_
      refine Wz.v rfl rfl rfl (by first | rfl | (simp only [MS, Nat.reduceBEq, Nat.reduceBNe, Nat.reduceEqDiff, reduceIte, if_true, if_false, reduceCtorEq, Nat.reduceAdd, Nat.reduceMul, Nat.reduceLeDiff, Nat.reduceLT, Nat.reduceDiv, Nat.reduceSub, cval, cv, evR, List.contains, List.elem, TS T, f0, f5, c2, c4, hln, hs1, hs2, hwj, htm, hnz] <;> rfl)) rfl ?_
      refine Wz.nil ?_
      refine hn10 _ ?_
      refine Wc.cond (t := false) (by first | rfl | (simp only [evF, look, f0, f5, c2, c4]; rfl) | simp [evF, look, f0, f5, c2, c4]) (fun h => by cases h) fun _ => ?_
      refine Wc.skip (hx9 _ _ (by simp) (hn8 _ ?_))
      have hjne : j ≠ n := by
        rintro rfl
        first | (have := ht (by omega) (by omega); simp_all; done) | (simp [Nat.mod_self] at *; done)
      have hw := w64 (n := j) (by omega)
      refine Wc.rg ?_
      refine Wo.val rfl (by first | rfl | (simp only [MS, Nat.reduceBEq, Nat.reduceBNe, Nat.reduceEqDiff, reduceIte, if_true, if_false, reduceCtorEq, Nat.reduceAdd, Nat.reduceMul, Nat.reduceLeDiff, Nat.reduceLT, Nat.reduceDiv, Nat.reduceSub, TS T, f0, f5, c2, c4, hw] <;> rfl)) rfl ?_
      refine Wo.val rfl (by simp only [MS, Nat.reduceBEq, Nat.reduceBNe, Nat.reduceEqDiff, reduceIte, if_true, if_false, reduceCtorEq, Nat.reduceAdd, Nat.reduceMul, Nat.reduceLeDiff, Nat.reduceLT, Nat.reduceDiv, Nat.reduceSub, binA, arithA, strA, isC, cval, cv, TS T, f0, f5, c2, c4, hw] <;> rfl) rfl ?_
      refine Wo.val rfl rfl rfl ?_
      refine Wo.nil ?_
      exact hnL0 _ (k0 - 1) (by omega) ⟨j + 1, _, rfl, by omega, by omega, by omega, (by simp [look, f0]), rfl⟩
end Go.Mx

/- The seat's calls: each answers with closures that see results of their own. -/
namespace Go.Mx
open Go.Proofs
set_option maxRecDepth 100000
set_option maxHeartbeats 2000000

def S.Tab (g : Nat) (ls : List Lf) : Prop := (g = 11 ∨ g = 19 ∨ g = 22 ∨ g = 25) ∧ ls = [.sl [.int .i64]]
def S.ls : List Lf := [.sl [.int .i64], .int .i64, .int .i64, .int .i64, .int .i64, .int .i64, .int .i64, .sl [.int .i64]]

theorem S.f7_ok {tb fc} (T : S.Ty tb) {call call' : Caller} {lf : Nat} (hc : ∀ args h, call' (.fn 7) args h = runF tb fc call lf Tryz.f7 args h)
    (hsub : ∀ {h : Hp} {v : V} {n : Nat}, IL tb 22 3 h v n → ∃ e : Int, call (.fn 8) [v] h = some (.ret (.i .i64 e), h)) : CallsOk S.Tab call' 7 S.ls := by
  refine CallsOk.of hc ?_
  intro G r h yb rho hT hy yty yc yrw hylt hyg hyl hyok
  simp only [S.ls, List.length_cons, List.length_nil] at hyl
  obtain ⟨x0, x1, x2, x3, x4, x5, x6, x7, rfl⟩ : ∃ x0 x1 x2 x3 x4 x5 x6 x7, yc = [x0, x1, x2, x3, x4, x5, x6, x7] := by
    match yc, hyl with
    | [x0, x1, x2, x3, x4, x5, x6, x7], _ => exact ⟨_, _, _, _, _, _, _, _, rfl⟩
  have hx0 := hyok 0 _ _ rfl rfl
  have ho0 := hx0.one
  have hq0 := hx0.vbeq
  obtain ⟨nn, hL⟩ := IL.of (S.nt T) hT hx0
  obtain ⟨e, hcall⟩ := hsub hL
  refine Wf.intro (sz := 8) rfl rfl fun K hn0 hr0 => ?_
  repeat refine Wc.assoc ?_
  refine Wc.seq fun K1 hn1 hx1 => ?_
  refine Wc.rg ?_
  refine Wo.val rfl rfl rfl ?_
  refine Wo.nil ?_
  refine hn1 _ ?_
  repeat refine Wc.assoc ?_
  refine Wc.seq fun K2 hn2 hx2 => ?_
  refine Wc.rg ?_
  refine Wo.val rfl rfl rfl ?_
  refine Wo.val rfl (by first | rfl | (simp only [MS, Nat.reduceBEq, Nat.reduceBNe, Nat.reduceEqDiff, reduceIte, if_true, if_false, reduceCtorEq, Nat.reduceAdd, Nat.reduceMul, Nat.reduceLeDiff, Nat.reduceLT, Nat.reduceDiv, Nat.reduceSub, okCheck, TS T, hyg] <;> rfl)) rfl ?_
  refine Wo.val rfl (by simp only [MS, Nat.reduceBEq, Nat.reduceBNe, Nat.reduceEqDiff, reduceIte, if_true, if_false, reduceCtorEq, Nat.reduceAdd, Nat.reduceMul, Nat.reduceLeDiff, Nat.reduceLT, Nat.reduceDiv, Nat.reduceSub, TS T, hyg] <;> rfl) rfl ?_
  refine Wo.val rfl (by simp only [MS, Nat.reduceBEq, Nat.reduceBNe, Nat.reduceEqDiff, reduceIte, if_true, if_false, reduceCtorEq, Nat.reduceAdd, Nat.reduceMul, Nat.reduceLeDiff, Nat.reduceLT, Nat.reduceDiv, Nat.reduceSub, loadA, partV, TS T, hyg] <;> rfl) rfl ?_
  refine Wo.cl rfl rfl rfl (by first | rfl | (simp only [MS, Nat.reduceBEq, Nat.reduceBNe, Nat.reduceEqDiff, reduceIte, if_true, if_false, reduceCtorEq, Nat.reduceAdd, Nat.reduceMul, Nat.reduceLeDiff, Nat.reduceLT, Nat.reduceDiv, Nat.reduceSub, cval, cv, TS T, hyg] <;> rfl)) (by first | rfl | (simp only [MS, Nat.reduceBEq, Nat.reduceBNe, Nat.reduceEqDiff, reduceIte, if_true, if_false, reduceCtorEq, Nat.reduceAdd, Nat.reduceMul, Nat.reduceLeDiff, Nat.reduceLT, Nat.reduceDiv, Nat.reduceSub, cval, cv, TS T, hyg] <;> rfl)) (fun _ => rfl) ?_
  refine ⟨_, h, hcall, ?_⟩
  refine Wo.nil ?_
  refine hn2 _ ?_
  repeat refine Wc.assoc ?_
  refine Wc.seq fun K3 hn3 hx3 => ?_
  refine Wc.rg ?_
  refine Wo.val rfl rfl rfl ?_
  refine Wo.nil ?_
  refine hn3 _ ?_
  exact Wc.ret ((hr0 _ _ [_] rfl (CallEnd.nil hT (Ext.refl h))))

theorem S.f9_ok {tb fc} (T : S.Ty tb) {call call' : Caller} {lf : Nat} (hc : ∀ args h, call' (.fn 9) args h = runF tb fc call lf Tryz.f9 args h)
    (hsub : ∀ (a b : Int) (h : Hp), ∃ (v : V) (e : Int) (h' : Hp), call (.fn 10) [.i .i64 a, .i .i64 b] h = some (.ret (.tup [v, .i .i64 e]), h') ∧ Ext h h' ∧ IntRes h h' v) : CallsOk S.Tab call' 9 S.ls := by
  refine CallsOk.of hc ?_
  intro G r h yb rho hT hy yty yc yrw hylt hyg hyl hyok
  simp only [S.ls, List.length_cons, List.length_nil] at hyl
  obtain ⟨x0, x1, x2, x3, x4, x5, x6, x7, rfl⟩ : ∃ x0 x1 x2 x3 x4 x5 x6 x7, yc = [x0, x1, x2, x3, x4, x5, x6, x7] := by
    match yc, hyl with
    | [x0, x1, x2, x3, x4, x5, x6, x7], _ => exact ⟨_, _, _, _, _, _, _, _, rfl⟩
  obtain ⟨n1, rfl, w1⟩ := hyok 1 _ _ rfl rfl
  obtain ⟨n2, rfl, w2⟩ := hyok 2 _ _ rfl rfl
  obtain ⟨v, e, h2, hcall, x2, hres⟩ := hsub n1 n2 (h.push (.blk 44 [.nils] true))
  obtain ⟨hvc, hvo, hres⟩ := hres.res
  have hn2 := x2.n
  have hbs : ∀ (hh : Hp) (f : V), f.cells = [f] → f.one = true → buildSliceA tb hh 29 1 [(0, f)] = some (.sl hh.n 0 1 (some 1) 1, hh.push (.blk 76 [f] true)) := by
    intro hh f hf ho
    simp [buildSliceA, T.t29, T.t38, fillA, rep, TI.zero, hf, ho, setAll, cl_nilf]
  simp only [Hp.n_push] at hn2
  have gbox : h2.get h.n = some (.blk 44 [.nils] true) := by rw [x2.old _ (by simp)]; simp [Hp.get_push]
  have hyn : yb ≠ h.n := by omega
  have hbs' := fun hh => hbs hh (.f (.func 11) [] [.p h.n 0]) rfl rfl
  have hge : (h2.set h.n (.blk 44 [v] true)).n = h2.n := rfl
  refine Wf.intro (sz := 19) rfl rfl fun K hn0 hr0 => ?_
  repeat refine Wc.assoc ?_
  refine Wc.seq fun K1 hn1 hx1 => ?_
  refine Wc.rg ?_
  refine Wo.val rfl rfl rfl ?_
  refine Wo.nil ?_
  refine hn1 _ ?_
  repeat refine Wc.assoc ?_
  refine Wc.seq fun K2 hn2 hx2 => ?_
  refine Wc.drawn [.p 0 [6, 7, 8, 9, 10, 11, 12, 13, 5, 15, 16, 3] none, .p 1 [7, 8, 9, 10, 11, 12, 13, 5, 15, 16, 3] none, .p 2 [8, 9, 10, 11, 12, 13, 5, 15, 16, 3] none, .p 3 [9, 10, 11, 12, 13, 5, 15, 16, 3] none, .p 4 [6, 7, 8, 9, 10, 11, 12, 13, 5, 15, 16, 3] none, .p 5 [6, 7, 8, 9, 11, 12, 13, 5, 15, 16, 3] none, .p 6 [6, 7, 8, 9, 12, 13, 5, 15, 16, 3] none, .p 7 [6, 7, 8, 9, 13, 5, 15, 16, 3] none, .p 12 [6, 7, 8, 9, 10, 11, 12, 13, 14, 5, 15, 16, 3] none, .e 8 [14, 5, 15, 16, 3] none 255, .p 9 [5, 15, 16, 3] none, .p 10 [15, 16, 3] none, .p 11 [15, 16, 3] none, .e 13 [16] none 6143, .e 14 [4] none 16383] (by kernel_rfl) ?_
  refine Wz.v rfl rfl rfl rfl rfl ?_
  refine Wz.v rfl rfl rfl (by first | rfl | (simp only [MS, Nat.reduceBEq, Nat.reduceBNe, Nat.reduceEqDiff, reduceIte, if_true, if_false, reduceCtorEq, Nat.reduceAdd, Nat.reduceMul, Nat.reduceLeDiff, Nat.reduceLT, Nat.reduceDiv, Nat.reduceSub, okCheck, evR, List.contains, List.elem, TS T, hyg, hyn, gbox, hvc, hvo, and_self, true_and] <;> rfl)) rfl ?_
  refine Wz.v rfl rfl rfl (by simp only [MS, Nat.reduceBEq, Nat.reduceBNe, Nat.reduceEqDiff, reduceIte, if_true, if_false, reduceCtorEq, Nat.reduceAdd, Nat.reduceMul, Nat.reduceLeDiff, Nat.reduceLT, Nat.reduceDiv, Nat.reduceSub, evR, List.contains, List.elem, TS T, hyg, hyn, gbox, hvc, hvo, and_self, true_and] <;> rfl) rfl ?_
  refine Wz.ld rfl rfl rfl (by simp only [MS, Nat.reduceBEq, Nat.reduceBNe, Nat.reduceEqDiff, reduceIte, if_true, if_false, reduceCtorEq, Nat.reduceAdd, Nat.reduceMul, Nat.reduceLeDiff, Nat.reduceLT, Nat.reduceDiv, Nat.reduceSub, loadA, partV, evR, List.contains, List.elem, TS T, hyg, hyn, gbox, hvc, hvo, and_self, true_and] <;> rfl) rfl ?_
  refine Wz.v rfl rfl rfl rfl rfl ?_
  refine Wz.v rfl rfl rfl (by first | rfl | (simp only [MS, Nat.reduceBEq, Nat.reduceBNe, Nat.reduceEqDiff, reduceIte, if_true, if_false, reduceCtorEq, Nat.reduceAdd, Nat.reduceMul, Nat.reduceLeDiff, Nat.reduceLT, Nat.reduceDiv, Nat.reduceSub, okCheck, evR, List.contains, List.elem, TS T, hyg, hyn, gbox, hvc, hvo, and_self, true_and] <;> rfl)) rfl ?_
  refine Wz.v rfl rfl rfl (by simp only [MS, Nat.reduceBEq, Nat.reduceBNe, Nat.reduceEqDiff, reduceIte, if_true, if_false, reduceCtorEq, Nat.reduceAdd, Nat.reduceMul, Nat.reduceLeDiff, Nat.reduceLT, Nat.reduceDiv, Nat.reduceSub, evR, List.contains, List.elem, TS T, hyg, hyn, gbox, hvc, hvo, and_self, true_and] <;> rfl) rfl ?_
  refine Wz.ld rfl rfl rfl (by simp only [MS, Nat.reduceBEq, Nat.reduceBNe, Nat.reduceEqDiff, reduceIte, if_true, if_false, reduceCtorEq, Nat.reduceAdd, Nat.reduceMul, Nat.reduceLeDiff, Nat.reduceLT, Nat.reduceDiv, Nat.reduceSub, loadA, partV, evR, List.contains, List.elem, TS T, hyg, hyn, gbox, hvc, hvo, and_self, true_and] <;> rfl) rfl ?_
  refine Wz.al rfl rfl rfl T.t22 rfl (by repeat' first | exact ldsOk_nil | refine ldsOk_skip (by rfl) ?_ | refine ldsOk_cons (by simp only [MS, Nat.reduceBEq, Nat.reduceBNe, Nat.reduceEqDiff, reduceIte, if_true, if_false, reduceCtorEq, Nat.reduceAdd, Nat.reduceMul, Nat.reduceLeDiff, Nat.reduceLT, Nat.reduceDiv, Nat.reduceSub, evR, List.contains, List.elem, loadA, partV, TS T, hyg, hyn, gbox, hvc, hvo, and_self, true_and]) (by simp [vbeq, vbeqs, hyg, hyn, gbox, hvc, hvo, and_self, true_and]) ?_) ?_
  refine Wz.cl rfl rfl rfl rfl (by first | rfl | (simp only [MS, Nat.reduceBEq, Nat.reduceBNe, Nat.reduceEqDiff, reduceIte, if_true, if_false, reduceCtorEq, Nat.reduceAdd, Nat.reduceMul, Nat.reduceLeDiff, Nat.reduceLT, Nat.reduceDiv, Nat.reduceSub, cval, cv, evR, List.contains, List.elem, TS T, hyg, hyn, gbox, hvc, hvo, and_self, true_and] <;> rfl)) (by first | rfl | (simp only [MS, Nat.reduceBEq, Nat.reduceBNe, Nat.reduceEqDiff, reduceIte, if_true, if_false, reduceCtorEq, Nat.reduceAdd, Nat.reduceMul, Nat.reduceLeDiff, Nat.reduceLT, Nat.reduceDiv, Nat.reduceSub, cval, cv, evR, List.contains, List.elem, TS T, hyg, hyn, gbox, hvc, hvo, and_self, true_and] <;> rfl)) (fun _ => rfl) ?_
  refine ⟨_, h2, hcall, (by repeat' first | exact ldsOk_nil | refine ldsOk_skip (by rfl) ?_ | refine ldsOk_cons (by simp only [MS, Nat.reduceBEq, Nat.reduceBNe, Nat.reduceEqDiff, reduceIte, if_true, if_false, reduceCtorEq, Nat.reduceAdd, Nat.reduceMul, Nat.reduceLeDiff, Nat.reduceLT, Nat.reduceDiv, Nat.reduceSub, evR, List.contains, List.elem, loadA, partV, TS T, hyg, hyn, gbox, hvc, hvo, and_self, true_and]) (by simp [vbeq, vbeqs, hyg, hyn, gbox, hvc, hvo, and_self, true_and]) ?_), (by repeat' first | exact alsOk_nil | refine alsOk_skip (by rfl) ?_ | refine alsOk_cons (by simp [Hp.get_push, TI.zero, V.cells, hyg, hyn, gbox, hvc, hvo, and_self, true_and]) (by simp [TI.zero, V.cells, vbeq, vbeqs]) ?_), ?_⟩
  refine Wz.v rfl rfl rfl rfl rfl ?_
  refine Wz.v rfl rfl rfl (by first | rfl | (simp only [MS, Nat.reduceBEq, Nat.reduceBNe, Nat.reduceEqDiff, reduceIte, if_true, if_false, reduceCtorEq, Nat.reduceAdd, Nat.reduceMul, Nat.reduceLeDiff, Nat.reduceLT, Nat.reduceDiv, Nat.reduceSub, evR, List.contains, List.elem, TS T, hyg, hyn, gbox, hvc, hvo, and_self, true_and] <;> rfl)) rfl ?_
  refine Wz.v rfl rfl rfl (by first | rfl | (simp only [MS, Nat.reduceBEq, Nat.reduceBNe, Nat.reduceEqDiff, reduceIte, if_true, if_false, reduceCtorEq, Nat.reduceAdd, Nat.reduceMul, Nat.reduceLeDiff, Nat.reduceLT, Nat.reduceDiv, Nat.reduceSub, evR, List.contains, List.elem, TS T, hyg, hyn, gbox, hvc, hvo, and_self, true_and] <;> rfl)) rfl ?_
  refine Wz.e rfl rfl (by simp only [MS, Nat.reduceBEq, Nat.reduceBNe, Nat.reduceEqDiff, reduceIte, if_true, if_false, reduceCtorEq, Nat.reduceAdd, Nat.reduceMul, Nat.reduceLeDiff, Nat.reduceLT, Nat.reduceDiv, Nat.reduceSub, storeA, setAll, TI.zero, cval, cv, evR, List.contains, List.elem, TS T, hyg, hyn, gbox, hvc, hvo, and_self, true_and] <;> rfl) rfl (by repeat' first | exact ldsOk_nil | refine ldsOk_skip (by rfl) ?_ | refine ldsOk_cons (by simp only [MS, Nat.reduceBEq, Nat.reduceBNe, Nat.reduceEqDiff, reduceIte, if_true, if_false, reduceCtorEq, Nat.reduceAdd, Nat.reduceMul, Nat.reduceLeDiff, Nat.reduceLT, Nat.reduceDiv, Nat.reduceSub, evR, List.contains, List.elem, loadA, partV, TS T, hyg, hyn, gbox, hvc, hvo, and_self, true_and]) (by simp [vbeq, vbeqs, hyg, hyn, gbox, hvc, hvo, and_self, true_and]) ?_) (by repeat' first | exact alsOk_nil | refine alsOk_skip (by rfl) ?_ | refine alsOk_cons (by simp only [MS, Nat.reduceBEq, Nat.reduceBNe, Nat.reduceEqDiff, reduceIte, if_true, if_false, reduceCtorEq, Nat.reduceAdd, Nat.reduceMul, Nat.reduceLeDiff, Nat.reduceLT, Nat.reduceDiv, Nat.reduceSub, evR, List.contains, List.elem, loadA, partV, TS T, hyg, hyn, gbox, hvc, hvo, and_self, true_and]) (by simp [vbeq, vbeqs]) ?_) ?_
  refine Wz.e rfl rfl (by first | rfl | (simp only [MS, Nat.reduceBEq, Nat.reduceBNe, Nat.reduceEqDiff, reduceIte, if_true, if_false, reduceCtorEq, Nat.reduceAdd, Nat.reduceMul, Nat.reduceLeDiff, Nat.reduceLT, Nat.reduceDiv, Nat.reduceSub, cval, cv, evR, List.contains, List.elem, TS T, hyg, hyn, gbox, hvc, hvo, and_self, true_and] <;> rfl)) rfl (by repeat' first | exact ldsOk_nil | refine ldsOk_skip (by rfl) ?_ | refine ldsOk_cons (by simp only [MS, Nat.reduceBEq, Nat.reduceBNe, Nat.reduceEqDiff, reduceIte, if_true, if_false, reduceCtorEq, Nat.reduceAdd, Nat.reduceMul, Nat.reduceLeDiff, Nat.reduceLT, Nat.reduceDiv, Nat.reduceSub, evR, List.contains, List.elem, loadA, partV, TS T, hyg, hyn, gbox, hvc, hvo, and_self, true_and]) (by simp [vbeq, vbeqs, hyg, hyn, gbox, hvc, hvo, and_self, true_and]) ?_) (by repeat' first | exact alsOk_nil | refine alsOk_skip (by rfl) ?_ | refine alsOk_cons (by simp only [MS, Nat.reduceBEq, Nat.reduceBNe, Nat.reduceEqDiff, reduceIte, if_true, if_false, reduceCtorEq, Nat.reduceAdd, Nat.reduceMul, Nat.reduceLeDiff, Nat.reduceLT, Nat.reduceDiv, Nat.reduceSub, evR, List.contains, List.elem, loadA, partV, TS T, hyg, hyn, gbox, hvc, hvo, and_self, true_and]) (by simp [vbeq, vbeqs]) ?_) ?_
  refine Wz.nil ?_
  refine hn2 _ ?_
  repeat refine Wc.assoc ?_
  refine Wc.seq fun K3 hn3 hx3 => ?_
  refine Wc.rg ?_
  refine Wo.val rfl (by first | rfl | (simp only [MS, Nat.reduceBEq, Nat.reduceBNe, Nat.reduceEqDiff, reduceIte, if_true, if_false, reduceCtorEq, Nat.reduceAdd, Nat.reduceMul, Nat.reduceLeDiff, Nat.reduceLT, Nat.reduceDiv, Nat.reduceSub, TS T, hbs', hge] <;> rfl)) rfl ?_
  refine Wo.val rfl (by simp only [MS, Nat.reduceBEq, Nat.reduceBNe, Nat.reduceEqDiff, reduceIte, if_true, if_false, reduceCtorEq, Nat.reduceAdd, Nat.reduceMul, Nat.reduceLeDiff, Nat.reduceLT, Nat.reduceDiv, Nat.reduceSub, partsA, cval, cv, TS T, hbs', hge] <;> rfl) rfl ?_
  refine Wo.val rfl rfl rfl ?_
  refine Wo.nil ?_
  refine hn3 _ ?_
  exact Wc.ret ((hr0 _ _ [_] rfl (CallEnd.drawn hT ⟨by simp, rfl⟩ (by decide) x2 hres)))

theorem S.f13_ok {tb fc} (T : S.Ty tb) {call call' : Caller} {lf : Nat} (hc : ∀ args h, call' (.fn 13) args h = runF tb fc call lf Tryz.f13 args h)
    (hsub : ∀ {h : Hp} {v : V} {n : Nat}, IL tb 22 3 h v n → ∀ e : Int, ∃ (i x : Int), call (.fn 14) [v, .i .i64 e] h = some (.ret (.tup [.i .i64 i, .i .i64 x]), h)) : CallsOk S.Tab call' 13 S.ls := by
  refine CallsOk.of hc ?_
  intro G r h yb rho hT hy yty yc yrw hylt hyg hyl hyok
  simp only [S.ls, List.length_cons, List.length_nil] at hyl
  obtain ⟨x0, x1, x2, x3, x4, x5, x6, x7, rfl⟩ : ∃ x0 x1 x2 x3 x4 x5 x6 x7, yc = [x0, x1, x2, x3, x4, x5, x6, x7] := by
    match yc, hyl with
    | [x0, x1, x2, x3, x4, x5, x6, x7], _ => exact ⟨_, _, _, _, _, _, _, _, rfl⟩
  have hx0 := hyok 0 _ _ rfl rfl
  have ho0 := hx0.one
  have hq0 := hx0.vbeq
  obtain ⟨n3, rfl, w3⟩ := hyok 3 _ _ rfl rfl
  obtain ⟨nn, hL⟩ := IL.of (S.nt T) hT hx0
  obtain ⟨i, e, hcall⟩ := hsub hL n3
  refine Wf.intro (sz := 12) rfl rfl fun K hn0 hr0 => ?_
  repeat refine Wc.assoc ?_
  refine Wc.seq fun K1 hn1 hx1 => ?_
  refine Wc.rg ?_
  refine Wo.val rfl rfl rfl ?_
  refine Wo.nil ?_
  refine hn1 _ ?_
  repeat refine Wc.assoc ?_
  refine Wc.seq fun K2 hn2 hx2 => ?_
  refine Wc.drawn [.p 0 [3, 4, 5, 6, 7, 8, 9, 10] none, .p 1 [4, 5, 6, 7, 8, 9, 10] none, .p 2 [5, 6, 7, 8, 9, 10] none, .p 3 [6, 7, 8, 9, 10] none, .p 4 [3, 4, 5, 6, 7, 8, 9, 10] none, .p 5 [3, 4, 5, 6, 8, 9, 10] none, .p 6 [3, 4, 5, 6, 9, 10] none, .p 7 [3, 4, 5, 6, 10] none, .e 8 [11] none 255] (by kernel_rfl) ?_
  refine Wz.v rfl rfl rfl rfl rfl ?_
  refine Wz.v rfl rfl rfl (by first | rfl | (simp only [MS, Nat.reduceBEq, Nat.reduceBNe, Nat.reduceEqDiff, reduceIte, if_true, if_false, reduceCtorEq, Nat.reduceAdd, Nat.reduceMul, Nat.reduceLeDiff, Nat.reduceLT, Nat.reduceDiv, Nat.reduceSub, okCheck, evR, List.contains, List.elem, TS T, hyg] <;> rfl)) rfl ?_
  refine Wz.v rfl rfl rfl (by simp only [MS, Nat.reduceBEq, Nat.reduceBNe, Nat.reduceEqDiff, reduceIte, if_true, if_false, reduceCtorEq, Nat.reduceAdd, Nat.reduceMul, Nat.reduceLeDiff, Nat.reduceLT, Nat.reduceDiv, Nat.reduceSub, evR, List.contains, List.elem, TS T, hyg] <;> rfl) rfl ?_
  refine Wz.ld rfl rfl rfl (by simp only [MS, Nat.reduceBEq, Nat.reduceBNe, Nat.reduceEqDiff, reduceIte, if_true, if_false, reduceCtorEq, Nat.reduceAdd, Nat.reduceMul, Nat.reduceLeDiff, Nat.reduceLT, Nat.reduceDiv, Nat.reduceSub, loadA, partV, evR, List.contains, List.elem, TS T, hyg] <;> rfl) rfl ?_
  refine Wz.v rfl rfl rfl rfl rfl ?_
  refine Wz.v rfl rfl rfl (by first | rfl | (simp only [MS, Nat.reduceBEq, Nat.reduceBNe, Nat.reduceEqDiff, reduceIte, if_true, if_false, reduceCtorEq, Nat.reduceAdd, Nat.reduceMul, Nat.reduceLeDiff, Nat.reduceLT, Nat.reduceDiv, Nat.reduceSub, okCheck, evR, List.contains, List.elem, TS T, hyg] <;> rfl)) rfl ?_
  refine Wz.v rfl rfl rfl (by simp only [MS, Nat.reduceBEq, Nat.reduceBNe, Nat.reduceEqDiff, reduceIte, if_true, if_false, reduceCtorEq, Nat.reduceAdd, Nat.reduceMul, Nat.reduceLeDiff, Nat.reduceLT, Nat.reduceDiv, Nat.reduceSub, evR, List.contains, List.elem, TS T, hyg] <;> rfl) rfl ?_
  refine Wz.ld rfl rfl rfl (by simp only [MS, Nat.reduceBEq, Nat.reduceBNe, Nat.reduceEqDiff, reduceIte, if_true, if_false, reduceCtorEq, Nat.reduceAdd, Nat.reduceMul, Nat.reduceLeDiff, Nat.reduceLT, Nat.reduceDiv, Nat.reduceSub, loadA, partV, evR, List.contains, List.elem, TS T, hyg] <;> rfl) rfl ?_
  refine Wz.cl rfl rfl rfl rfl (by first | rfl | (simp only [MS, Nat.reduceBEq, Nat.reduceBNe, Nat.reduceEqDiff, reduceIte, if_true, if_false, reduceCtorEq, Nat.reduceAdd, Nat.reduceMul, Nat.reduceLeDiff, Nat.reduceLT, Nat.reduceDiv, Nat.reduceSub, cval, cv, evR, List.contains, List.elem, TS T, hyg] <;> rfl)) (by first | rfl | (simp only [MS, Nat.reduceBEq, Nat.reduceBNe, Nat.reduceEqDiff, reduceIte, if_true, if_false, reduceCtorEq, Nat.reduceAdd, Nat.reduceMul, Nat.reduceLeDiff, Nat.reduceLT, Nat.reduceDiv, Nat.reduceSub, cval, cv, evR, List.contains, List.elem, TS T, hyg] <;> rfl)) (fun _ => rfl) ?_
  refine ⟨_, h, hcall, (by repeat' first | exact ldsOk_nil | refine ldsOk_skip (by rfl) ?_ | refine ldsOk_cons (by simp only [MS, Nat.reduceBEq, Nat.reduceBNe, Nat.reduceEqDiff, reduceIte, if_true, if_false, reduceCtorEq, Nat.reduceAdd, Nat.reduceMul, Nat.reduceLeDiff, Nat.reduceLT, Nat.reduceDiv, Nat.reduceSub, evR, List.contains, List.elem, loadA, partV, TS T, hyg]) (by simp [vbeq, vbeqs, hyg]) ?_), (by repeat' first | exact alsOk_nil | refine alsOk_skip (by rfl) ?_ | refine alsOk_cons (by simp [Hp.get_push, TI.zero, V.cells, hyg]) (by simp [TI.zero, V.cells, vbeq, vbeqs]) ?_), ?_⟩
  refine Wz.nil ?_
  refine hn2 _ ?_
  repeat refine Wc.assoc ?_
  refine Wc.seq fun K3 hn3 hx3 => ?_
  refine Wc.rg ?_
  refine Wo.val rfl rfl rfl ?_
  refine Wo.nil ?_
  refine hn3 _ ?_
  exact Wc.ret ((hr0 _ _ [_] rfl (CallEnd.nil hT (Ext.refl h))))

theorem S.f15_ok {tb fc} (T : S.Ty tb) {call call' : Caller} {lf : Nat} (hc : ∀ args h, call' (.fn 15) args h = runF tb fc call lf Tryz.f15 args h)
    (hsub : ∀ {G : Nat → Option BT} {r : Nat} {h : Hp} {v : V}, TOk G h → LfOk G r true (.sl [.int .i64]) v → ∀ k : Int, ∃ (w : V), call (.fn 16) [v, .i .i64 k] h = some (.ret w, h)) : CallsOk S.Tab call' 15 S.ls := by
  refine CallsOk.of hc ?_
  intro G r h yb rho hT hy yty yc yrw hylt hyg hyl hyok
  simp only [S.ls, List.length_cons, List.length_nil] at hyl
  obtain ⟨x0, x1, x2, x3, x4, x5, x6, x7, rfl⟩ : ∃ x0 x1 x2 x3 x4 x5 x6 x7, yc = [x0, x1, x2, x3, x4, x5, x6, x7] := by
    match yc, hyl with
    | [x0, x1, x2, x3, x4, x5, x6, x7], _ => exact ⟨_, _, _, _, _, _, _, _, rfl⟩
  have hx0 := hyok 0 _ _ rfl rfl
  have ho0 := hx0.one
  have hq0 := hx0.vbeq
  obtain ⟨n4, rfl, w4⟩ := hyok 4 _ _ rfl rfl
  obtain ⟨w, hcall⟩ := hsub hT hx0 n4
  refine Wf.intro (sz := 12) rfl rfl fun K hn0 hr0 => ?_
  repeat refine Wc.assoc ?_
  refine Wc.seq fun K1 hn1 hx1 => ?_
  refine Wc.rg ?_
  refine Wo.val rfl rfl rfl ?_
  refine Wo.nil ?_
  refine hn1 _ ?_
  repeat refine Wc.assoc ?_
  refine Wc.seq fun K2 hn2 hx2 => ?_
  refine Wc.drawn [.p 0 [3, 4, 5, 6, 7, 8, 9, 10] none, .p 1 [4, 5, 6, 7, 8, 9, 10] none, .p 2 [5, 6, 7, 8, 9, 10] none, .p 3 [6, 7, 8, 9, 10] none, .p 4 [3, 4, 5, 6, 7, 8, 9, 10] none, .p 5 [3, 4, 5, 6, 8, 9, 10] none, .p 6 [3, 4, 5, 6, 9, 10] none, .p 7 [3, 4, 5, 6, 10] none, .e 8 [11] none 255] (by kernel_rfl) ?_
  refine Wz.v rfl rfl rfl rfl rfl ?_
  refine Wz.v rfl rfl rfl (by first | rfl | (simp only [MS, Nat.reduceBEq, Nat.reduceBNe, Nat.reduceEqDiff, reduceIte, if_true, if_false, reduceCtorEq, Nat.reduceAdd, Nat.reduceMul, Nat.reduceLeDiff, Nat.reduceLT, Nat.reduceDiv, Nat.reduceSub, okCheck, evR, List.contains, List.elem, TS T, hyg] <;> rfl)) rfl ?_
  refine Wz.v rfl rfl rfl (by simp only [MS, Nat.reduceBEq, Nat.reduceBNe, Nat.reduceEqDiff, reduceIte, if_true, if_false, reduceCtorEq, Nat.reduceAdd, Nat.reduceMul, Nat.reduceLeDiff, Nat.reduceLT, Nat.reduceDiv, Nat.reduceSub, evR, List.contains, List.elem, TS T, hyg] <;> rfl) rfl ?_
  refine Wz.ld rfl rfl rfl (by simp only [MS, Nat.reduceBEq, Nat.reduceBNe, Nat.reduceEqDiff, reduceIte, if_true, if_false, reduceCtorEq, Nat.reduceAdd, Nat.reduceMul, Nat.reduceLeDiff, Nat.reduceLT, Nat.reduceDiv, Nat.reduceSub, loadA, partV, evR, List.contains, List.elem, TS T, hyg] <;> rfl) rfl ?_
  refine Wz.v rfl rfl rfl rfl rfl ?_
  refine Wz.v rfl rfl rfl (by first | rfl | (simp only [MS, Nat.reduceBEq, Nat.reduceBNe, Nat.reduceEqDiff, reduceIte, if_true, if_false, reduceCtorEq, Nat.reduceAdd, Nat.reduceMul, Nat.reduceLeDiff, Nat.reduceLT, Nat.reduceDiv, Nat.reduceSub, okCheck, evR, List.contains, List.elem, TS T, hyg] <;> rfl)) rfl ?_
  refine Wz.v rfl rfl rfl (by simp only [MS, Nat.reduceBEq, Nat.reduceBNe, Nat.reduceEqDiff, reduceIte, if_true, if_false, reduceCtorEq, Nat.reduceAdd, Nat.reduceMul, Nat.reduceLeDiff, Nat.reduceLT, Nat.reduceDiv, Nat.reduceSub, evR, List.contains, List.elem, TS T, hyg] <;> rfl) rfl ?_
  refine Wz.ld rfl rfl rfl (by simp only [MS, Nat.reduceBEq, Nat.reduceBNe, Nat.reduceEqDiff, reduceIte, if_true, if_false, reduceCtorEq, Nat.reduceAdd, Nat.reduceMul, Nat.reduceLeDiff, Nat.reduceLT, Nat.reduceDiv, Nat.reduceSub, loadA, partV, evR, List.contains, List.elem, TS T, hyg] <;> rfl) rfl ?_
  refine Wz.cl rfl rfl rfl rfl (by first | rfl | (simp only [MS, Nat.reduceBEq, Nat.reduceBNe, Nat.reduceEqDiff, reduceIte, if_true, if_false, reduceCtorEq, Nat.reduceAdd, Nat.reduceMul, Nat.reduceLeDiff, Nat.reduceLT, Nat.reduceDiv, Nat.reduceSub, cval, cv, evR, List.contains, List.elem, TS T, hyg] <;> rfl)) (by first | rfl | (simp only [MS, Nat.reduceBEq, Nat.reduceBNe, Nat.reduceEqDiff, reduceIte, if_true, if_false, reduceCtorEq, Nat.reduceAdd, Nat.reduceMul, Nat.reduceLeDiff, Nat.reduceLT, Nat.reduceDiv, Nat.reduceSub, cval, cv, evR, List.contains, List.elem, TS T, hyg] <;> rfl)) (fun _ => rfl) ?_
  refine ⟨_, h, hcall, (by repeat' first | exact ldsOk_nil | refine ldsOk_skip (by rfl) ?_ | refine ldsOk_cons (by simp only [MS, Nat.reduceBEq, Nat.reduceBNe, Nat.reduceEqDiff, reduceIte, if_true, if_false, reduceCtorEq, Nat.reduceAdd, Nat.reduceMul, Nat.reduceLeDiff, Nat.reduceLT, Nat.reduceDiv, Nat.reduceSub, evR, List.contains, List.elem, loadA, partV, TS T, hyg]) (by simp [vbeq, vbeqs, hyg]) ?_), (by repeat' first | exact alsOk_nil | refine alsOk_skip (by rfl) ?_ | refine alsOk_cons (by simp [Hp.get_push, TI.zero, V.cells, hyg]) (by simp [TI.zero, V.cells, vbeq, vbeqs]) ?_), ?_⟩
  refine Wz.nil ?_
  refine hn2 _ ?_
  repeat refine Wc.assoc ?_
  refine Wc.seq fun K3 hn3 hx3 => ?_
  refine Wc.rg ?_
  refine Wo.val rfl rfl rfl ?_
  refine Wo.nil ?_
  refine hn3 _ ?_
  exact Wc.ret ((hr0 _ _ [_] rfl (CallEnd.nil hT (Ext.refl h))))

theorem S.f17_ok {tb fc} (T : S.Ty tb) {call call' : Caller} {lf : Nat} (hc : ∀ args h, call' (.fn 17) args h = runF tb fc call lf Tryz.f17 args h)
    (hsub : ∀ (a b : Int) (h : Hp), ∃ (v : V) (e : Int) (h' : Hp), call (.fn 18) [.i .i64 a, .i .i64 b] h = some (.ret (.tup [v, .i .i64 e]), h') ∧ Ext h h' ∧ IntRes h h' v) : CallsOk S.Tab call' 17 S.ls := by
  refine CallsOk.of hc ?_
  intro G r h yb rho hT hy yty yc yrw hylt hyg hyl hyok
  simp only [S.ls, List.length_cons, List.length_nil] at hyl
  obtain ⟨x0, x1, x2, x3, x4, x5, x6, x7, rfl⟩ : ∃ x0 x1 x2 x3 x4 x5 x6 x7, yc = [x0, x1, x2, x3, x4, x5, x6, x7] := by
    match yc, hyl with
    | [x0, x1, x2, x3, x4, x5, x6, x7], _ => exact ⟨_, _, _, _, _, _, _, _, rfl⟩
  obtain ⟨n5, rfl, w5⟩ := hyok 5 _ _ rfl rfl
  obtain ⟨n6, rfl, w6⟩ := hyok 6 _ _ rfl rfl
  obtain ⟨v, e, h2, hcall, x2, hres⟩ := hsub n5 n6 (h.push (.blk 44 [.nils] true))
  obtain ⟨hvc, hvo, hres⟩ := hres.res
  have hn2 := x2.n
  have hbs : ∀ (hh : Hp) (f : V), f.cells = [f] → f.one = true → buildSliceA tb hh 29 1 [(0, f)] = some (.sl hh.n 0 1 (some 1) 1, hh.push (.blk 76 [f] true)) := by
    intro hh f hf ho
    simp [buildSliceA, T.t29, T.t38, fillA, rep, TI.zero, hf, ho, setAll, cl_nilf]
  simp only [Hp.n_push] at hn2
  have gbox : h2.get h.n = some (.blk 44 [.nils] true) := by rw [x2.old _ (by simp)]; simp [Hp.get_push]
  have hyn : yb ≠ h.n := by omega
  have hbs' := fun hh => hbs hh (.f (.func 19) [] [.p h.n 0]) rfl rfl
  have hge : (h2.set h.n (.blk 44 [v] true)).n = h2.n := rfl
  refine Wf.intro (sz := 19) rfl rfl fun K hn0 hr0 => ?_
  repeat refine Wc.assoc ?_
  refine Wc.seq fun K1 hn1 hx1 => ?_
  refine Wc.rg ?_
  refine Wo.val rfl rfl rfl ?_
  refine Wo.nil ?_
  refine hn1 _ ?_
  repeat refine Wc.assoc ?_
  refine Wc.seq fun K2 hn2 hx2 => ?_
  refine Wc.drawn [.p 0 [6, 7, 8, 9, 10, 11, 12, 13, 5, 15, 16, 3] none, .p 1 [7, 8, 9, 10, 11, 12, 13, 5, 15, 16, 3] none, .p 2 [8, 9, 10, 11, 12, 13, 5, 15, 16, 3] none, .p 3 [9, 10, 11, 12, 13, 5, 15, 16, 3] none, .p 4 [6, 7, 8, 9, 10, 11, 12, 13, 5, 15, 16, 3] none, .p 5 [6, 7, 8, 9, 11, 12, 13, 5, 15, 16, 3] none, .p 6 [6, 7, 8, 9, 12, 13, 5, 15, 16, 3] none, .p 7 [6, 7, 8, 9, 13, 5, 15, 16, 3] none, .p 12 [6, 7, 8, 9, 10, 11, 12, 13, 14, 5, 15, 16, 3] none, .e 8 [14, 5, 15, 16, 3] none 255, .p 9 [5, 15, 16, 3] none, .p 10 [15, 16, 3] none, .p 11 [15, 16, 3] none, .e 13 [16] none 6143, .e 14 [4] none 16383] (by kernel_rfl) ?_
  refine Wz.v rfl rfl rfl rfl rfl ?_
  refine Wz.v rfl rfl rfl (by first | rfl | (simp only [MS, Nat.reduceBEq, Nat.reduceBNe, Nat.reduceEqDiff, reduceIte, if_true, if_false, reduceCtorEq, Nat.reduceAdd, Nat.reduceMul, Nat.reduceLeDiff, Nat.reduceLT, Nat.reduceDiv, Nat.reduceSub, okCheck, evR, List.contains, List.elem, TS T, hyg, hyn, gbox, hvc, hvo, and_self, true_and] <;> rfl)) rfl ?_
  refine Wz.v rfl rfl rfl (by simp only [MS, Nat.reduceBEq, Nat.reduceBNe, Nat.reduceEqDiff, reduceIte, if_true, if_false, reduceCtorEq, Nat.reduceAdd, Nat.reduceMul, Nat.reduceLeDiff, Nat.reduceLT, Nat.reduceDiv, Nat.reduceSub, evR, List.contains, List.elem, TS T, hyg, hyn, gbox, hvc, hvo, and_self, true_and] <;> rfl) rfl ?_
  refine Wz.ld rfl rfl rfl (by simp only [MS, Nat.reduceBEq, Nat.reduceBNe, Nat.reduceEqDiff, reduceIte, if_true, if_false, reduceCtorEq, Nat.reduceAdd, Nat.reduceMul, Nat.reduceLeDiff, Nat.reduceLT, Nat.reduceDiv, Nat.reduceSub, loadA, partV, evR, List.contains, List.elem, TS T, hyg, hyn, gbox, hvc, hvo, and_self, true_and] <;> rfl) rfl ?_
  refine Wz.v rfl rfl rfl rfl rfl ?_
  refine Wz.v rfl rfl rfl (by first | rfl | (simp only [MS, Nat.reduceBEq, Nat.reduceBNe, Nat.reduceEqDiff, reduceIte, if_true, if_false, reduceCtorEq, Nat.reduceAdd, Nat.reduceMul, Nat.reduceLeDiff, Nat.reduceLT, Nat.reduceDiv, Nat.reduceSub, okCheck, evR, List.contains, List.elem, TS T, hyg, hyn, gbox, hvc, hvo, and_self, true_and] <;> rfl)) rfl ?_
  refine Wz.v rfl rfl rfl (by simp only [MS, Nat.reduceBEq, Nat.reduceBNe, Nat.reduceEqDiff, reduceIte, if_true, if_false, reduceCtorEq, Nat.reduceAdd, Nat.reduceMul, Nat.reduceLeDiff, Nat.reduceLT, Nat.reduceDiv, Nat.reduceSub, evR, List.contains, List.elem, TS T, hyg, hyn, gbox, hvc, hvo, and_self, true_and] <;> rfl) rfl ?_
  refine Wz.ld rfl rfl rfl (by simp only [MS, Nat.reduceBEq, Nat.reduceBNe, Nat.reduceEqDiff, reduceIte, if_true, if_false, reduceCtorEq, Nat.reduceAdd, Nat.reduceMul, Nat.reduceLeDiff, Nat.reduceLT, Nat.reduceDiv, Nat.reduceSub, loadA, partV, evR, List.contains, List.elem, TS T, hyg, hyn, gbox, hvc, hvo, and_self, true_and] <;> rfl) rfl ?_
  refine Wz.al rfl rfl rfl T.t22 rfl (by repeat' first | exact ldsOk_nil | refine ldsOk_skip (by rfl) ?_ | refine ldsOk_cons (by simp only [MS, Nat.reduceBEq, Nat.reduceBNe, Nat.reduceEqDiff, reduceIte, if_true, if_false, reduceCtorEq, Nat.reduceAdd, Nat.reduceMul, Nat.reduceLeDiff, Nat.reduceLT, Nat.reduceDiv, Nat.reduceSub, evR, List.contains, List.elem, loadA, partV, TS T, hyg, hyn, gbox, hvc, hvo, and_self, true_and]) (by simp [vbeq, vbeqs, hyg, hyn, gbox, hvc, hvo, and_self, true_and]) ?_) ?_
  refine Wz.cl rfl rfl rfl rfl (by first | rfl | (simp only [MS, Nat.reduceBEq, Nat.reduceBNe, Nat.reduceEqDiff, reduceIte, if_true, if_false, reduceCtorEq, Nat.reduceAdd, Nat.reduceMul, Nat.reduceLeDiff, Nat.reduceLT, Nat.reduceDiv, Nat.reduceSub, cval, cv, evR, List.contains, List.elem, TS T, hyg, hyn, gbox, hvc, hvo, and_self, true_and] <;> rfl)) (by first | rfl | (simp only [MS, Nat.reduceBEq, Nat.reduceBNe, Nat.reduceEqDiff, reduceIte, if_true, if_false, reduceCtorEq, Nat.reduceAdd, Nat.reduceMul, Nat.reduceLeDiff, Nat.reduceLT, Nat.reduceDiv, Nat.reduceSub, cval, cv, evR, List.contains, List.elem, TS T, hyg, hyn, gbox, hvc, hvo, and_self, true_and] <;> rfl)) (fun _ => rfl) ?_
  refine ⟨_, h2, hcall, (by repeat' first | exact ldsOk_nil | refine ldsOk_skip (by rfl) ?_ | refine ldsOk_cons (by simp only [MS, Nat.reduceBEq, Nat.reduceBNe, Nat.reduceEqDiff, reduceIte, if_true, if_false, reduceCtorEq, Nat.reduceAdd, Nat.reduceMul, Nat.reduceLeDiff, Nat.reduceLT, Nat.reduceDiv, Nat.reduceSub, evR, List.contains, List.elem, loadA, partV, TS T, hyg, hyn, gbox, hvc, hvo, and_self, true_and]) (by simp [vbeq, vbeqs, hyg, hyn, gbox, hvc, hvo, and_self, true_and]) ?_), (by repeat' first | exact alsOk_nil | refine alsOk_skip (by rfl) ?_ | refine alsOk_cons (by simp [Hp.get_push, TI.zero, V.cells, hyg, hyn, gbox, hvc, hvo, and_self, true_and]) (by simp [TI.zero, V.cells, vbeq, vbeqs]) ?_), ?_⟩
  refine Wz.v rfl rfl rfl rfl rfl ?_
  refine Wz.v rfl rfl rfl (by first | rfl | (simp only [MS, Nat.reduceBEq, Nat.reduceBNe, Nat.reduceEqDiff, reduceIte, if_true, if_false, reduceCtorEq, Nat.reduceAdd, Nat.reduceMul, Nat.reduceLeDiff, Nat.reduceLT, Nat.reduceDiv, Nat.reduceSub, evR, List.contains, List.elem, TS T, hyg, hyn, gbox, hvc, hvo, and_self, true_and] <;> rfl)) rfl ?_
  refine Wz.v rfl rfl rfl (by first | rfl | (simp only [MS, Nat.reduceBEq, Nat.reduceBNe, Nat.reduceEqDiff, reduceIte, if_true, if_false, reduceCtorEq, Nat.reduceAdd, Nat.reduceMul, Nat.reduceLeDiff, Nat.reduceLT, Nat.reduceDiv, Nat.reduceSub, evR, List.contains, List.elem, TS T, hyg, hyn, gbox, hvc, hvo, and_self, true_and] <;> rfl)) rfl ?_
  refine Wz.e rfl rfl (by simp only [MS, Nat.reduceBEq, Nat.reduceBNe, Nat.reduceEqDiff, reduceIte, if_true, if_false, reduceCtorEq, Nat.reduceAdd, Nat.reduceMul, Nat.reduceLeDiff, Nat.reduceLT, Nat.reduceDiv, Nat.reduceSub, storeA, setAll, TI.zero, cval, cv, evR, List.contains, List.elem, TS T, hyg, hyn, gbox, hvc, hvo, and_self, true_and] <;> rfl) rfl (by repeat' first | exact ldsOk_nil | refine ldsOk_skip (by rfl) ?_ | refine ldsOk_cons (by simp only [MS, Nat.reduceBEq, Nat.reduceBNe, Nat.reduceEqDiff, reduceIte, if_true, if_false, reduceCtorEq, Nat.reduceAdd, Nat.reduceMul, Nat.reduceLeDiff, Nat.reduceLT, Nat.reduceDiv, Nat.reduceSub, evR, List.contains, List.elem, loadA, partV, TS T, hyg, hyn, gbox, hvc, hvo, and_self, true_and]) (by simp [vbeq, vbeqs, hyg, hyn, gbox, hvc, hvo, and_self, true_and]) ?_) (by repeat' first | exact alsOk_nil | refine alsOk_skip (by rfl) ?_ | refine alsOk_cons (by simp only [MS, Nat.reduceBEq, Nat.reduceBNe, Nat.reduceEqDiff, reduceIte, if_true, if_false, reduceCtorEq, Nat.reduceAdd, Nat.reduceMul, Nat.reduceLeDiff, Nat.reduceLT, Nat.reduceDiv, Nat.reduceSub, evR, List.contains, List.elem, loadA, partV, TS T, hyg, hyn, gbox, hvc, hvo, and_self, true_and]) (by simp [vbeq, vbeqs]) ?_) ?_
  refine Wz.e rfl rfl (by first | rfl | (simp only [MS, Nat.reduceBEq, Nat.reduceBNe, Nat.reduceEqDiff, reduceIte, if_true, if_false, reduceCtorEq, Nat.reduceAdd, Nat.reduceMul, Nat.reduceLeDiff, Nat.reduceLT, Nat.reduceDiv, Nat.reduceSub, cval, cv, evR, List.contains, List.elem, TS T, hyg, hyn, gbox, hvc, hvo, and_self, true_and] <;> rfl)) rfl (by repeat' first | exact ldsOk_nil | refine ldsOk_skip (by rfl) ?_ | refine ldsOk_cons (by simp only [MS, Nat.reduceBEq, Nat.reduceBNe, Nat.reduceEqDiff, reduceIte, if_true, if_false, reduceCtorEq, Nat.reduceAdd, Nat.reduceMul, Nat.reduceLeDiff, Nat.reduceLT, Nat.reduceDiv, Nat.reduceSub, evR, List.contains, List.elem, loadA, partV, TS T, hyg, hyn, gbox, hvc, hvo, and_self, true_and]) (by simp [vbeq, vbeqs, hyg, hyn, gbox, hvc, hvo, and_self, true_and]) ?_) (by repeat' first | exact alsOk_nil | refine alsOk_skip (by rfl) ?_ | refine alsOk_cons (by simp only [MS, Nat.reduceBEq, Nat.reduceBNe, Nat.reduceEqDiff, reduceIte, if_true, if_false, reduceCtorEq, Nat.reduceAdd, Nat.reduceMul, Nat.reduceLeDiff, Nat.reduceLT, Nat.reduceDiv, Nat.reduceSub, evR, List.contains, List.elem, loadA, partV, TS T, hyg, hyn, gbox, hvc, hvo, and_self, true_and]) (by simp [vbeq, vbeqs]) ?_) ?_
  refine Wz.nil ?_
  refine hn2 _ ?_
  repeat refine Wc.assoc ?_
  refine Wc.seq fun K3 hn3 hx3 => ?_
  refine Wc.rg ?_
  refine Wo.val rfl (by first | rfl | (simp only [MS, Nat.reduceBEq, Nat.reduceBNe, Nat.reduceEqDiff, reduceIte, if_true, if_false, reduceCtorEq, Nat.reduceAdd, Nat.reduceMul, Nat.reduceLeDiff, Nat.reduceLT, Nat.reduceDiv, Nat.reduceSub, TS T, hbs', hge] <;> rfl)) rfl ?_
  refine Wo.val rfl (by simp only [MS, Nat.reduceBEq, Nat.reduceBNe, Nat.reduceEqDiff, reduceIte, if_true, if_false, reduceCtorEq, Nat.reduceAdd, Nat.reduceMul, Nat.reduceLeDiff, Nat.reduceLT, Nat.reduceDiv, Nat.reduceSub, partsA, cval, cv, TS T, hbs', hge] <;> rfl) rfl ?_
  refine Wo.val rfl rfl rfl ?_
  refine Wo.nil ?_
  refine hn3 _ ?_
  exact Wc.ret ((hr0 _ _ [_] rfl (CallEnd.drawn hT ⟨by simp, rfl⟩ (by decide) x2 hres)))

theorem S.f20_ok {tb fc} (T : S.Ty tb) {call call' : Caller} {lf : Nat} (hc : ∀ args h, call' (.fn 20) args h = runF tb fc call lf Tryz.f20 args h)
    (hsub : ∀ {h : Hp} {v : V} {n : Nat}, IL tb 22 3 h v n → ∀ e : Int, IntKind.i64.wrap e = e → ∃ (w : V) (x : Int) (h' : Hp), call (.fn 21) [v, .i .i64 e] h = some (.ret (.tup [w, .i .i64 x]), h') ∧ Ext h h' ∧ IntRes h h' w) : CallsOk S.Tab call' 20 S.ls := by
  refine CallsOk.of hc ?_
  intro G r h yb rho hT hy yty yc yrw hylt hyg hyl hyok
  simp only [S.ls, List.length_cons, List.length_nil] at hyl
  obtain ⟨x0, x1, x2, x3, x4, x5, x6, x7, rfl⟩ : ∃ x0 x1 x2 x3 x4 x5 x6 x7, yc = [x0, x1, x2, x3, x4, x5, x6, x7] := by
    match yc, hyl with
    | [x0, x1, x2, x3, x4, x5, x6, x7], _ => exact ⟨_, _, _, _, _, _, _, _, rfl⟩
  obtain ⟨n1, rfl, w1⟩ := hyok 1 _ _ rfl rfl
  have hx7 := hyok 7 _ _ rfl rfl
  have ho7 := hx7.one
  have hq7 := hx7.vbeq
  obtain ⟨nn, hL⟩ := IL.of (S.nt T) (hT.ext (Ext.push h (.blk 44 [.nils] true))) hx7
  obtain ⟨v, e, h2, hcall, x2, hres⟩ := hsub hL n1 w1
  obtain ⟨hvc, hvo, hres⟩ := hres.res
  have hn2 := x2.n
  have hbs : ∀ (hh : Hp) (f : V), f.cells = [f] → f.one = true → buildSliceA tb hh 29 1 [(0, f)] = some (.sl hh.n 0 1 (some 1) 1, hh.push (.blk 76 [f] true)) := by
    intro hh f hf ho
    simp [buildSliceA, T.t29, T.t38, fillA, rep, TI.zero, hf, ho, setAll, cl_nilf]
  simp only [Hp.n_push] at hn2
  have gbox : h2.get h.n = some (.blk 44 [.nils] true) := by rw [x2.old _ (by simp)]; simp [Hp.get_push]
  have hyn : yb ≠ h.n := by omega
  have hbs' := fun hh => hbs hh (.f (.func 22) [] [.p h.n 0]) rfl rfl
  have hge : (h2.set h.n (.blk 44 [v] true)).n = h2.n := rfl
  refine Wf.intro (sz := 19) rfl rfl fun K hn0 hr0 => ?_
  repeat refine Wc.assoc ?_
  refine Wc.seq fun K1 hn1 hx1 => ?_
  refine Wc.rg ?_
  refine Wo.val rfl rfl rfl ?_
  refine Wo.nil ?_
  refine hn1 _ ?_
  repeat refine Wc.assoc ?_
  refine Wc.seq fun K2 hn2 hx2 => ?_
  refine Wc.drawn [.p 0 [6, 7, 8, 9, 10, 11, 12, 13, 5, 15, 16, 3] none, .p 1 [7, 8, 9, 10, 11, 12, 13, 5, 15, 16, 3] none, .p 2 [8, 9, 10, 11, 12, 13, 5, 15, 16, 3] none, .p 3 [9, 10, 11, 12, 13, 5, 15, 16, 3] none, .p 4 [6, 7, 8, 9, 10, 11, 12, 13, 5, 15, 16, 3] none, .p 5 [6, 7, 8, 9, 11, 12, 13, 5, 15, 16, 3] none, .p 6 [6, 7, 8, 9, 12, 13, 5, 15, 16, 3] none, .p 7 [6, 7, 8, 9, 13, 5, 15, 16, 3] none, .p 12 [6, 7, 8, 9, 10, 11, 12, 13, 14, 5, 15, 16, 3] none, .e 8 [14, 5, 15, 16, 3] none 255, .p 9 [5, 15, 16, 3] none, .p 10 [15, 16, 3] none, .p 11 [15, 16, 3] none, .e 13 [16] none 6143, .e 14 [4] none 16383] (by kernel_rfl) ?_
  refine Wz.v rfl rfl rfl rfl rfl ?_
  refine Wz.v rfl rfl rfl (by first | rfl | (simp only [MS, Nat.reduceBEq, Nat.reduceBNe, Nat.reduceEqDiff, reduceIte, if_true, if_false, reduceCtorEq, Nat.reduceAdd, Nat.reduceMul, Nat.reduceLeDiff, Nat.reduceLT, Nat.reduceDiv, Nat.reduceSub, okCheck, evR, List.contains, List.elem, TS T, hyg, hyn, gbox, hvc, hvo, and_self, true_and, hq7] <;> rfl)) rfl ?_
  refine Wz.v rfl rfl rfl (by simp only [MS, Nat.reduceBEq, Nat.reduceBNe, Nat.reduceEqDiff, reduceIte, if_true, if_false, reduceCtorEq, Nat.reduceAdd, Nat.reduceMul, Nat.reduceLeDiff, Nat.reduceLT, Nat.reduceDiv, Nat.reduceSub, evR, List.contains, List.elem, TS T, hyg, hyn, gbox, hvc, hvo, and_self, true_and, hq7] <;> rfl) rfl ?_
  refine Wz.ld rfl rfl rfl (by simp only [MS, Nat.reduceBEq, Nat.reduceBNe, Nat.reduceEqDiff, reduceIte, if_true, if_false, reduceCtorEq, Nat.reduceAdd, Nat.reduceMul, Nat.reduceLeDiff, Nat.reduceLT, Nat.reduceDiv, Nat.reduceSub, loadA, partV, evR, List.contains, List.elem, TS T, hyg, hyn, gbox, hvc, hvo, and_self, true_and, hq7] <;> rfl) rfl ?_
  refine Wz.v rfl rfl rfl rfl rfl ?_
  refine Wz.v rfl rfl rfl (by first | rfl | (simp only [MS, Nat.reduceBEq, Nat.reduceBNe, Nat.reduceEqDiff, reduceIte, if_true, if_false, reduceCtorEq, Nat.reduceAdd, Nat.reduceMul, Nat.reduceLeDiff, Nat.reduceLT, Nat.reduceDiv, Nat.reduceSub, okCheck, evR, List.contains, List.elem, TS T, hyg, hyn, gbox, hvc, hvo, and_self, true_and, hq7] <;> rfl)) rfl ?_
  refine Wz.v rfl rfl rfl (by simp only [MS, Nat.reduceBEq, Nat.reduceBNe, Nat.reduceEqDiff, reduceIte, if_true, if_false, reduceCtorEq, Nat.reduceAdd, Nat.reduceMul, Nat.reduceLeDiff, Nat.reduceLT, Nat.reduceDiv, Nat.reduceSub, evR, List.contains, List.elem, TS T, hyg, hyn, gbox, hvc, hvo, and_self, true_and, hq7] <;> rfl) rfl ?_
  refine Wz.ld rfl rfl rfl (by simp only [MS, Nat.reduceBEq, Nat.reduceBNe, Nat.reduceEqDiff, reduceIte, if_true, if_false, reduceCtorEq, Nat.reduceAdd, Nat.reduceMul, Nat.reduceLeDiff, Nat.reduceLT, Nat.reduceDiv, Nat.reduceSub, loadA, partV, evR, List.contains, List.elem, TS T, hyg, hyn, gbox, hvc, hvo, and_self, true_and, hq7] <;> rfl) rfl ?_
  refine Wz.al rfl rfl rfl T.t22 rfl (by repeat' first | exact ldsOk_nil | refine ldsOk_skip (by rfl) ?_ | refine ldsOk_cons (by simp only [MS, Nat.reduceBEq, Nat.reduceBNe, Nat.reduceEqDiff, reduceIte, if_true, if_false, reduceCtorEq, Nat.reduceAdd, Nat.reduceMul, Nat.reduceLeDiff, Nat.reduceLT, Nat.reduceDiv, Nat.reduceSub, evR, List.contains, List.elem, loadA, partV, TS T, hyg, hyn, gbox, hvc, hvo, and_self, true_and, hq7]) (by simp [vbeq, vbeqs, hyg, hyn, gbox, hvc, hvo, and_self, true_and, hq7]) ?_) ?_
  refine Wz.cl rfl rfl rfl rfl (by first | rfl | (simp only [MS, Nat.reduceBEq, Nat.reduceBNe, Nat.reduceEqDiff, reduceIte, if_true, if_false, reduceCtorEq, Nat.reduceAdd, Nat.reduceMul, Nat.reduceLeDiff, Nat.reduceLT, Nat.reduceDiv, Nat.reduceSub, cval, cv, evR, List.contains, List.elem, TS T, hyg, hyn, gbox, hvc, hvo, and_self, true_and, hq7] <;> rfl)) (by first | rfl | (simp only [MS, Nat.reduceBEq, Nat.reduceBNe, Nat.reduceEqDiff, reduceIte, if_true, if_false, reduceCtorEq, Nat.reduceAdd, Nat.reduceMul, Nat.reduceLeDiff, Nat.reduceLT, Nat.reduceDiv, Nat.reduceSub, cval, cv, evR, List.contains, List.elem, TS T, hyg, hyn, gbox, hvc, hvo, and_self, true_and, hq7] <;> rfl)) (fun _ => rfl) ?_
  refine ⟨_, h2, hcall, (by repeat' first | exact ldsOk_nil | refine ldsOk_skip (by rfl) ?_ | refine ldsOk_cons (by simp only [MS, Nat.reduceBEq, Nat.reduceBNe, Nat.reduceEqDiff, reduceIte, if_true, if_false, reduceCtorEq, Nat.reduceAdd, Nat.reduceMul, Nat.reduceLeDiff, Nat.reduceLT, Nat.reduceDiv, Nat.reduceSub, evR, List.contains, List.elem, loadA, partV, TS T, hyg, hyn, gbox, hvc, hvo, and_self, true_and, hq7]) (by simp [vbeq, vbeqs, hyg, hyn, gbox, hvc, hvo, and_self, true_and, hq7]) ?_), (by repeat' first | exact alsOk_nil | refine alsOk_skip (by rfl) ?_ | refine alsOk_cons (by simp [Hp.get_push, TI.zero, V.cells, hyg, hyn, gbox, hvc, hvo, and_self, true_and, hq7]) (by simp [TI.zero, V.cells, vbeq, vbeqs]) ?_), ?_⟩
  refine Wz.v rfl rfl rfl rfl rfl ?_
  refine Wz.v rfl rfl rfl (by first | rfl | (simp only [MS, Nat.reduceBEq, Nat.reduceBNe, Nat.reduceEqDiff, reduceIte, if_true, if_false, reduceCtorEq, Nat.reduceAdd, Nat.reduceMul, Nat.reduceLeDiff, Nat.reduceLT, Nat.reduceDiv, Nat.reduceSub, evR, List.contains, List.elem, TS T, hyg, hyn, gbox, hvc, hvo, and_self, true_and, hq7] <;> rfl)) rfl ?_
  refine Wz.v rfl rfl rfl (by first | rfl | (simp only [MS, Nat.reduceBEq, Nat.reduceBNe, Nat.reduceEqDiff, reduceIte, if_true, if_false, reduceCtorEq, Nat.reduceAdd, Nat.reduceMul, Nat.reduceLeDiff, Nat.reduceLT, Nat.reduceDiv, Nat.reduceSub, evR, List.contains, List.elem, TS T, hyg, hyn, gbox, hvc, hvo, and_self, true_and, hq7] <;> rfl)) rfl ?_
  refine Wz.e rfl rfl (by simp only [MS, Nat.reduceBEq, Nat.reduceBNe, Nat.reduceEqDiff, reduceIte, if_true, if_false, reduceCtorEq, Nat.reduceAdd, Nat.reduceMul, Nat.reduceLeDiff, Nat.reduceLT, Nat.reduceDiv, Nat.reduceSub, storeA, setAll, TI.zero, cval, cv, evR, List.contains, List.elem, TS T, hyg, hyn, gbox, hvc, hvo, and_self, true_and, hq7] <;> rfl) rfl (by repeat' first | exact ldsOk_nil | refine ldsOk_skip (by rfl) ?_ | refine ldsOk_cons (by simp only [MS, Nat.reduceBEq, Nat.reduceBNe, Nat.reduceEqDiff, reduceIte, if_true, if_false, reduceCtorEq, Nat.reduceAdd, Nat.reduceMul, Nat.reduceLeDiff, Nat.reduceLT, Nat.reduceDiv, Nat.reduceSub, evR, List.contains, List.elem, loadA, partV, TS T, hyg, hyn, gbox, hvc, hvo, and_self, true_and, hq7]) (by simp [vbeq, vbeqs, hyg, hyn, gbox, hvc, hvo, and_self, true_and, hq7]) ?_) (by repeat' first | exact alsOk_nil | refine alsOk_skip (by rfl) ?_ | refine alsOk_cons (by simp only [MS, Nat.reduceBEq, Nat.reduceBNe, Nat.reduceEqDiff, reduceIte, if_true, if_false, reduceCtorEq, Nat.reduceAdd, Nat.reduceMul, Nat.reduceLeDiff, Nat.reduceLT, Nat.reduceDiv, Nat.reduceSub, evR, List.contains, List.elem, loadA, partV, TS T, hyg, hyn, gbox, hvc, hvo, and_self, true_and, hq7]) (by simp [vbeq, vbeqs]) ?_) ?_
  refine Wz.e rfl rfl (by first | rfl | (simp only [MS, Nat.reduceBEq, Nat.reduceBNe, Nat.reduceEqDiff, reduceIte, if_true, if_false, reduceCtorEq, Nat.reduceAdd, Nat.reduceMul, Nat.reduceLeDiff, Nat.reduceLT, Nat.reduceDiv, Nat.reduceSub, cval, cv, evR, List.contains, List.elem, TS T, hyg, hyn, gbox, hvc, hvo, and_self, true_and, hq7] <;> rfl)) rfl (by repeat' first | exact ldsOk_nil | refine ldsOk_skip (by rfl) ?_ | refine ldsOk_cons (by simp only [MS, Nat.reduceBEq, Nat.reduceBNe, Nat.reduceEqDiff, reduceIte, if_true, if_false, reduceCtorEq, Nat.reduceAdd, Nat.reduceMul, Nat.reduceLeDiff, Nat.reduceLT, Nat.reduceDiv, Nat.reduceSub, evR, List.contains, List.elem, loadA, partV, TS T, hyg, hyn, gbox, hvc, hvo, and_self, true_and, hq7]) (by simp [vbeq, vbeqs, hyg, hyn, gbox, hvc, hvo, and_self, true_and, hq7]) ?_) (by repeat' first | exact alsOk_nil | refine alsOk_skip (by rfl) ?_ | refine alsOk_cons (by simp only [MS, Nat.reduceBEq, Nat.reduceBNe, Nat.reduceEqDiff, reduceIte, if_true, if_false, reduceCtorEq, Nat.reduceAdd, Nat.reduceMul, Nat.reduceLeDiff, Nat.reduceLT, Nat.reduceDiv, Nat.reduceSub, evR, List.contains, List.elem, loadA, partV, TS T, hyg, hyn, gbox, hvc, hvo, and_self, true_and, hq7]) (by simp [vbeq, vbeqs]) ?_) ?_
  refine Wz.nil ?_
  refine hn2 _ ?_
  repeat refine Wc.assoc ?_
  refine Wc.seq fun K3 hn3 hx3 => ?_
  refine Wc.rg ?_
  refine Wo.val rfl (by first | rfl | (simp only [MS, Nat.reduceBEq, Nat.reduceBNe, Nat.reduceEqDiff, reduceIte, if_true, if_false, reduceCtorEq, Nat.reduceAdd, Nat.reduceMul, Nat.reduceLeDiff, Nat.reduceLT, Nat.reduceDiv, Nat.reduceSub, TS T, hbs', hge] <;> rfl)) rfl ?_
  refine Wo.val rfl (by simp only [MS, Nat.reduceBEq, Nat.reduceBNe, Nat.reduceEqDiff, reduceIte, if_true, if_false, reduceCtorEq, Nat.reduceAdd, Nat.reduceMul, Nat.reduceLeDiff, Nat.reduceLT, Nat.reduceDiv, Nat.reduceSub, partsA, cval, cv, TS T, hbs', hge] <;> rfl) rfl ?_
  refine Wo.val rfl rfl rfl ?_
  refine Wo.nil ?_
  refine hn3 _ ?_
  exact Wc.ret ((hr0 _ _ [_] rfl (CallEnd.drawn hT ⟨by simp, rfl⟩ (by decide) x2 hres)))

theorem S.f23_ok {tb fc} (T : S.Ty tb) {call call' : Caller} {lf : Nat} (hc : ∀ args h, call' (.fn 23) args h = runF tb fc call lf Tryz.f23 args h)
    (hsub : ∀ {G : Nat → Option BT} {r : Nat} {h : Hp} {v : V}, TOk G h → LfOk G r true (.sl [.int .i64]) v → ∃ (w : V) (x : Int) (h' : Hp), call (.fn 24) [v] h = some (.ret (.tup [w, .i .i64 x]), h') ∧ Ext h h' ∧ IntRes h h' w) : CallsOk S.Tab call' 23 S.ls := by
  refine CallsOk.of hc ?_
  intro G r h yb rho hT hy yty yc yrw hylt hyg hyl hyok
  simp only [S.ls, List.length_cons, List.length_nil] at hyl
  obtain ⟨x0, x1, x2, x3, x4, x5, x6, x7, rfl⟩ : ∃ x0 x1 x2 x3 x4 x5 x6 x7, yc = [x0, x1, x2, x3, x4, x5, x6, x7] := by
    match yc, hyl with
    | [x0, x1, x2, x3, x4, x5, x6, x7], _ => exact ⟨_, _, _, _, _, _, _, _, rfl⟩
  have hx0 := hyok 0 _ _ rfl rfl
  have ho0 := hx0.one
  have hq0 := hx0.vbeq
  obtain ⟨v, e, h2, hcall, x2, hres⟩ := hsub hT hx0
  obtain ⟨hvc, hvo, hres⟩ := hres.res
  have hn2 := x2.n
  have hbs : ∀ (hh : Hp) (f : V), f.cells = [f] → f.one = true → buildSliceA tb hh 29 1 [(0, f)] = some (.sl hh.n 0 1 (some 1) 1, hh.push (.blk 76 [f] true)) := by
    intro hh f hf ho
    simp [buildSliceA, T.t29, T.t38, fillA, rep, TI.zero, hf, ho, setAll, cl_nilf]
  have hbs' := fun hh => hbs hh (.f (.func 25) [] [.p h2.n 0]) rfl rfl
  refine Wf.intro (sz := 15) rfl rfl fun K hn0 hr0 => ?_
  repeat refine Wc.assoc ?_
  refine Wc.seq fun K1 hn1 hx1 => ?_
  refine Wc.rg ?_
  refine Wo.val rfl rfl rfl ?_
  refine Wo.nil ?_
  refine hn1 _ ?_
  repeat refine Wc.assoc ?_
  refine Wc.seq fun K2 hn2 hx2 => ?_
  refine Wc.rg ?_
  refine Wo.val rfl rfl rfl ?_
  refine Wo.val rfl (by first | rfl | (simp only [MS, Nat.reduceBEq, Nat.reduceBNe, Nat.reduceEqDiff, reduceIte, if_true, if_false, reduceCtorEq, Nat.reduceAdd, Nat.reduceMul, Nat.reduceLeDiff, Nat.reduceLT, Nat.reduceDiv, Nat.reduceSub, okCheck, TS T, hyg, hvc, hvo, and_self, true_and] <;> rfl)) rfl ?_
  refine Wo.val rfl (by simp only [MS, Nat.reduceBEq, Nat.reduceBNe, Nat.reduceEqDiff, reduceIte, if_true, if_false, reduceCtorEq, Nat.reduceAdd, Nat.reduceMul, Nat.reduceLeDiff, Nat.reduceLT, Nat.reduceDiv, Nat.reduceSub, TS T, hyg, hvc, hvo, and_self, true_and] <;> rfl) rfl ?_
  refine Wo.val rfl (by simp only [MS, Nat.reduceBEq, Nat.reduceBNe, Nat.reduceEqDiff, reduceIte, if_true, if_false, reduceCtorEq, Nat.reduceAdd, Nat.reduceMul, Nat.reduceLeDiff, Nat.reduceLT, Nat.reduceDiv, Nat.reduceSub, loadA, partV, TS T, hyg, hvc, hvo, and_self, true_and] <;> rfl) rfl ?_
  refine Wo.cl rfl rfl rfl (by first | rfl | (simp only [MS, Nat.reduceBEq, Nat.reduceBNe, Nat.reduceEqDiff, reduceIte, if_true, if_false, reduceCtorEq, Nat.reduceAdd, Nat.reduceMul, Nat.reduceLeDiff, Nat.reduceLT, Nat.reduceDiv, Nat.reduceSub, cval, cv, TS T, hyg, hvc, hvo, and_self, true_and] <;> rfl)) (by first | rfl | (simp only [MS, Nat.reduceBEq, Nat.reduceBNe, Nat.reduceEqDiff, reduceIte, if_true, if_false, reduceCtorEq, Nat.reduceAdd, Nat.reduceMul, Nat.reduceLeDiff, Nat.reduceLT, Nat.reduceDiv, Nat.reduceSub, cval, cv, TS T, hyg, hvc, hvo, and_self, true_and] <;> rfl)) (fun _ => rfl) ?_
  refine ⟨_, h2, hcall, ?_⟩
  refine Wo.val rfl rfl rfl ?_
  refine Wo.val rfl (by first | rfl | (simp only [MS, Nat.reduceBEq, Nat.reduceBNe, Nat.reduceEqDiff, reduceIte, if_true, if_false, reduceCtorEq, Nat.reduceAdd, Nat.reduceMul, Nat.reduceLeDiff, Nat.reduceLT, Nat.reduceDiv, Nat.reduceSub, TS T, hyg, hvc, hvo, and_self, true_and] <;> rfl)) rfl ?_
  refine Wo.val rfl (by first | rfl | (simp only [MS, Nat.reduceBEq, Nat.reduceBNe, Nat.reduceEqDiff, reduceIte, if_true, if_false, reduceCtorEq, Nat.reduceAdd, Nat.reduceMul, Nat.reduceLeDiff, Nat.reduceLT, Nat.reduceDiv, Nat.reduceSub, TS T, hyg, hvc, hvo, and_self, true_and] <;> rfl)) rfl ?_
  refine Wo.val rfl (by simp only [MS, Nat.reduceBEq, Nat.reduceBNe, Nat.reduceEqDiff, reduceIte, if_true, if_false, reduceCtorEq, Nat.reduceAdd, Nat.reduceMul, Nat.reduceLeDiff, Nat.reduceLT, Nat.reduceDiv, Nat.reduceSub, TI.zero, TS T, hyg, hvc, hvo, and_self, true_and] <;> rfl) rfl ?_
  refine Wo.val rfl (by simp only [MS, Nat.reduceBEq, Nat.reduceBNe, Nat.reduceEqDiff, reduceIte, if_true, if_false, reduceCtorEq, Nat.reduceAdd, Nat.reduceMul, Nat.reduceLeDiff, Nat.reduceLT, Nat.reduceDiv, Nat.reduceSub, storeA, setAll, TI.zero, cval, cv, TS T, hyg, hvc, hvo, and_self, true_and] <;> rfl) rfl ?_
  refine Wo.val rfl rfl rfl ?_
  refine Wo.nil ?_
  refine hn2 _ ?_
  repeat refine Wc.assoc ?_
  refine Wc.seq fun K3 hn3 hx3 => ?_
  refine Wc.rg ?_
  refine Wo.val rfl (by first | rfl | (simp only [MS, Nat.reduceBEq, Nat.reduceBNe, Nat.reduceEqDiff, reduceIte, if_true, if_false, reduceCtorEq, Nat.reduceAdd, Nat.reduceMul, Nat.reduceLeDiff, Nat.reduceLT, Nat.reduceDiv, Nat.reduceSub, TS T, hbs'] <;> rfl)) rfl ?_
  refine Wo.val rfl (by simp only [MS, Nat.reduceBEq, Nat.reduceBNe, Nat.reduceEqDiff, reduceIte, if_true, if_false, reduceCtorEq, Nat.reduceAdd, Nat.reduceMul, Nat.reduceLeDiff, Nat.reduceLT, Nat.reduceDiv, Nat.reduceSub, partsA, cval, cv, TS T, hbs'] <;> rfl) rfl ?_
  refine Wo.val rfl rfl rfl ?_
  refine Wo.nil ?_
  refine hn3 _ ?_
  exact Wc.ret ((hr0 _ _ [_] rfl (CallEnd.plain hT ⟨by simp, rfl⟩ (by decide) x2 hres)))
end Go.Mx
