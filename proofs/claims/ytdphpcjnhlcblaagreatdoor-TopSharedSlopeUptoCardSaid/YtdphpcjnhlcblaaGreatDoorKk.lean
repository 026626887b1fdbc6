/- The layer and the calls. -/
import Derived.Test.YtdphpcjnhlcblaaGreatDoorKj
set_option linter.all false
/- The seat's layer: numbers alone. -/
namespace Go.Mx
open Go.Proofs
set_option maxRecDepth 100000
set_option maxHeartbeats 2000000

theorem S.f36_ok {tb fc} (T : S.Ty tb) {call call' : Caller} {lf : Nat} (hc : ∀ args h, call' (.fn 36) args h = runF tb fc call lf Tryz.f36 args h) (n a b : Int) (h : Hp) :
    call' (.fn 36) [.i .i64 n, .i .i64 a, .i .i64 b] h = some (.ret (.b (decide (a ≤ n ∧ n ≤ b))), h) := by
  suffices H : Wf tb fc call lf Tryz.f36 [.i .i64 n, .i .i64 a, .i .i64 b] h (fun w h' => w = .b (decide (a ≤ n ∧ n ≤ b)) ∧ h' = h) by
    obtain ⟨w, h', h1, rfl, rfl⟩ := H
    rw [hc]; exact h1
  refine Wf.intro (sz := 15) rfl rfl fun K hn0 hr0 => ?_
  repeat refine Wc.assoc ?_
  refine Wc.seq fun K1 hn1 hx1 => ?_
  refine Wc.rg ?_
  refine Wo.val rfl (by first | rfl | (simp only [MS, Nat.reduceBEq, Nat.reduceBNe, Nat.reduceEqDiff, reduceIte, if_true, if_false, reduceCtorEq, Nat.reduceAdd, Nat.reduceMul, Nat.reduceLeDiff, Nat.reduceLT, Nat.reduceDiv, Nat.reduceSub, cval, cv, TS T] <;> rfl)) rfl ?_
  refine Wo.nil ?_
  refine hn1 _ ?_
  refine Wc.seq fun K2 hn2 hx2 => ?_
  by_cases h1 : a ≤ n
  · refine Wc.rg ?_
    refine Wo.val rfl (by first | rfl | (simp only [MS, Nat.reduceBEq, Nat.reduceBNe, Nat.reduceEqDiff, reduceIte, if_true, if_false, reduceCtorEq, Nat.reduceAdd, Nat.reduceMul, Nat.reduceLeDiff, Nat.reduceLT, Nat.reduceDiv, Nat.reduceSub, TS T, h1] <;> rfl)) rfl ?_
    refine Wo.val rfl (by first | rfl | (simp only [MS, Nat.reduceBEq, Nat.reduceBNe, Nat.reduceEqDiff, reduceIte, if_true, if_false, reduceCtorEq, Nat.reduceAdd, Nat.reduceMul, Nat.reduceLeDiff, Nat.reduceLT, Nat.reduceDiv, Nat.reduceSub, TS T, h1] <;> rfl)) rfl ?_
    refine Wo.val rfl (by simp only [MS, Nat.reduceBEq, Nat.reduceBNe, Nat.reduceEqDiff, reduceIte, if_true, if_false, reduceCtorEq, Nat.reduceAdd, Nat.reduceMul, Nat.reduceLeDiff, Nat.reduceLT, Nat.reduceDiv, Nat.reduceSub, binA, arithA, strA, isC, cval, cv, TS T, h1] <;> rfl) rfl ?_
    refine Wo.val rfl (by first | rfl | (simp only [MS, Nat.reduceBEq, Nat.reduceBNe, Nat.reduceEqDiff, reduceIte, if_true, if_false, reduceCtorEq, Nat.reduceAdd, Nat.reduceMul, Nat.reduceLeDiff, Nat.reduceLT, Nat.reduceDiv, Nat.reduceSub, TS T, h1] <;> rfl)) rfl ?_
    refine Wo.val (by first | rfl | (simp only [wantedA, wantedP, evR, List.contains, List.elem, MS, Nat.reduceBEq, Nat.reduceBNe, Nat.reduceEqDiff, reduceIte, if_true, if_false, reduceCtorEq, Nat.reduceAdd, Nat.reduceMul, Nat.reduceLeDiff, Nat.reduceLT, Nat.reduceDiv, Nat.reduceSub, h1]; rfl)) (by first | rfl | (simp only [MS, Nat.reduceBEq, Nat.reduceBNe, Nat.reduceEqDiff, reduceIte, if_true, if_false, reduceCtorEq, Nat.reduceAdd, Nat.reduceMul, Nat.reduceLeDiff, Nat.reduceLT, Nat.reduceDiv, Nat.reduceSub, TS T, h1] <;> rfl)) rfl ?_
    refine Wo.val (by first | rfl | (simp only [wantedA, wantedP, evR, List.contains, List.elem, MS, Nat.reduceBEq, Nat.reduceBNe, Nat.reduceEqDiff, reduceIte, if_true, if_false, reduceCtorEq, Nat.reduceAdd, Nat.reduceMul, Nat.reduceLeDiff, Nat.reduceLT, Nat.reduceDiv, Nat.reduceSub, h1]; rfl)) (by first | rfl | (simp only [MS, Nat.reduceBEq, Nat.reduceBNe, Nat.reduceEqDiff, reduceIte, if_true, if_false, reduceCtorEq, Nat.reduceAdd, Nat.reduceMul, Nat.reduceLeDiff, Nat.reduceLT, Nat.reduceDiv, Nat.reduceSub, TS T, h1] <;> rfl)) rfl ?_
    refine Wo.val (by first | rfl | (simp only [wantedA, wantedP, evR, List.contains, List.elem, MS, Nat.reduceBEq, Nat.reduceBNe, Nat.reduceEqDiff, reduceIte, if_true, if_false, reduceCtorEq, Nat.reduceAdd, Nat.reduceMul, Nat.reduceLeDiff, Nat.reduceLT, Nat.reduceDiv, Nat.reduceSub, h1]; rfl)) (by simp only [MS, Nat.reduceBEq, Nat.reduceBNe, Nat.reduceEqDiff, reduceIte, if_true, if_false, reduceCtorEq, Nat.reduceAdd, Nat.reduceMul, Nat.reduceLeDiff, Nat.reduceLT, Nat.reduceDiv, Nat.reduceSub, binA, arithA, strA, isC, cval, cv, TS T, h1] <;> rfl) rfl ?_
    refine Wo.val rfl (by first | rfl | (simp only [MS, Nat.reduceBEq, Nat.reduceBNe, Nat.reduceEqDiff, reduceIte, if_true, if_false, reduceCtorEq, Nat.reduceAdd, Nat.reduceMul, Nat.reduceLeDiff, Nat.reduceLT, Nat.reduceDiv, Nat.reduceSub, cval, cv, TS T, h1] <;> rfl)) rfl ?_
    refine Wo.val rfl (by first | rfl | (simp only [MS, Nat.reduceBEq, Nat.reduceBNe, Nat.reduceEqDiff, reduceIte, if_true, if_false, reduceCtorEq, Nat.reduceAdd, Nat.reduceMul, Nat.reduceLeDiff, Nat.reduceLT, Nat.reduceDiv, Nat.reduceSub, cval, cv, TS T, h1] <;> rfl)) rfl ?_
    refine Wo.nil ?_
    exact hn2 _ (Wc.ret (hr0 _ _ [_] rfl ⟨by simp [h1, oneOrTup], rfl⟩))
  · refine Wc.rg ?_
    refine Wo.val rfl (by first | rfl | (simp only [MS, Nat.reduceBEq, Nat.reduceBNe, Nat.reduceEqDiff, reduceIte, if_true, if_false, reduceCtorEq, Nat.reduceAdd, Nat.reduceMul, Nat.reduceLeDiff, Nat.reduceLT, Nat.reduceDiv, Nat.reduceSub, TS T, h1] <;> rfl)) rfl ?_
    refine Wo.val rfl (by first | rfl | (simp only [MS, Nat.reduceBEq, Nat.reduceBNe, Nat.reduceEqDiff, reduceIte, if_true, if_false, reduceCtorEq, Nat.reduceAdd, Nat.reduceMul, Nat.reduceLeDiff, Nat.reduceLT, Nat.reduceDiv, Nat.reduceSub, TS T, h1] <;> rfl)) rfl ?_
    refine Wo.val rfl (by simp only [MS, Nat.reduceBEq, Nat.reduceBNe, Nat.reduceEqDiff, reduceIte, if_true, if_false, reduceCtorEq, Nat.reduceAdd, Nat.reduceMul, Nat.reduceLeDiff, Nat.reduceLT, Nat.reduceDiv, Nat.reduceSub, binA, arithA, strA, isC, cval, cv, TS T, h1] <;> rfl) rfl ?_
    refine Wo.val rfl (by first | rfl | (simp only [MS, Nat.reduceBEq, Nat.reduceBNe, Nat.reduceEqDiff, reduceIte, if_true, if_false, reduceCtorEq, Nat.reduceAdd, Nat.reduceMul, Nat.reduceLeDiff, Nat.reduceLT, Nat.reduceDiv, Nat.reduceSub, TS T, h1] <;> rfl)) rfl ?_
    refine Wo.skip (by first | rfl | (simp only [wantedA, wantedP, evR, List.contains, List.elem, MS, Nat.reduceBEq, Nat.reduceBNe, Nat.reduceEqDiff, reduceIte, if_true, if_false, reduceCtorEq, Nat.reduceAdd, Nat.reduceMul, Nat.reduceLeDiff, Nat.reduceLT, Nat.reduceDiv, Nat.reduceSub, h1]; rfl)) rfl ?_
    refine Wo.skip (by first | rfl | (simp only [wantedA, wantedP, evR, List.contains, List.elem, MS, Nat.reduceBEq, Nat.reduceBNe, Nat.reduceEqDiff, reduceIte, if_true, if_false, reduceCtorEq, Nat.reduceAdd, Nat.reduceMul, Nat.reduceLeDiff, Nat.reduceLT, Nat.reduceDiv, Nat.reduceSub, h1]; rfl)) rfl ?_
    refine Wo.skip (by first | rfl | (simp only [wantedA, wantedP, evR, List.contains, List.elem, MS, Nat.reduceBEq, Nat.reduceBNe, Nat.reduceEqDiff, reduceIte, if_true, if_false, reduceCtorEq, Nat.reduceAdd, Nat.reduceMul, Nat.reduceLeDiff, Nat.reduceLT, Nat.reduceDiv, Nat.reduceSub, h1]; rfl)) rfl ?_
    refine Wo.val rfl (by first | rfl | (simp only [MS, Nat.reduceBEq, Nat.reduceBNe, Nat.reduceEqDiff, reduceIte, if_true, if_false, reduceCtorEq, Nat.reduceAdd, Nat.reduceMul, Nat.reduceLeDiff, Nat.reduceLT, Nat.reduceDiv, Nat.reduceSub, cval, cv, TS T, h1] <;> rfl)) rfl ?_
    refine Wo.val rfl (by first | rfl | (simp only [MS, Nat.reduceBEq, Nat.reduceBNe, Nat.reduceEqDiff, reduceIte, if_true, if_false, reduceCtorEq, Nat.reduceAdd, Nat.reduceMul, Nat.reduceLeDiff, Nat.reduceLT, Nat.reduceDiv, Nat.reduceSub, cval, cv, TS T, h1] <;> rfl)) rfl ?_
    refine Wo.nil ?_
    exact hn2 _ (Wc.ret (hr0 _ _ [_] rfl ⟨by simp [h1, oneOrTup], rfl⟩))

theorem S.f30_ok {tb fc} (T : S.Ty tb) {call call' : Caller} {lf : Nat} (hc : ∀ args h, call' (.fn 30) args h = runF tb fc call lf Tryz.f30 args h) (h36 : ∀ n a b h, call (.fn 36) [.i .i64 n, .i .i64 a, .i .i64 b] h = some (.ret (.b (decide (a ≤ n ∧ n ≤ b))), h)) (n a b : Int) (h : Hp) :
    ∃ e : Int, call' (.fn 30) [.i .i64 n, .i .i64 a, .i .i64 b] h = some (.ret (.i .i64 e), h) ∧ (e = 0 → 1 ≤ b ∧ b ≤ 1000) := by
  suffices H : Wf tb fc call lf Tryz.f30 [.i .i64 n, .i .i64 a, .i .i64 b] h (fun w h' => ∃ e : Int, w = .i .i64 e ∧ h' = h ∧ (e = 0 → 1 ≤ b ∧ b ≤ 1000)) by
    obtain ⟨w, h', h1, e, rfl, rfl, h2⟩ := H
    exact ⟨e, by rw [hc]; exact h1, h2⟩
  refine Wf.intro (sz := 20) rfl rfl fun K hn0 hr0 => ?_
  repeat refine Wc.assoc ?_
  refine Wc.seq fun K1 hn1 hx1 => ?_
  refine Wc.rg ?_
  refine Wo.val rfl (by first | rfl | (simp only [MS, Nat.reduceBEq, Nat.reduceBNe, Nat.reduceEqDiff, reduceIte, if_true, if_false, reduceCtorEq, Nat.reduceAdd, Nat.reduceMul, Nat.reduceLeDiff, Nat.reduceLT, Nat.reduceDiv, Nat.reduceSub, cval, cv, TS T] <;> rfl)) rfl ?_
  refine Wo.nil ?_
  refine hn1 _ ?_
  repeat refine Wc.assoc ?_
  refine Wc.seq fun K2 hn2 hx2 => ?_
  have bad : ∀ fr, look fr 19 = some (.b true) → K2 .normal ⟨fr, [], h⟩ := by
    intro fr f19
    refine hn2 _ ?_
    refine Wc.seq fun K3 hn3 hx3 => ?_
    refine Wc.cond (t := true) f19 (fun _ => ?_) (fun h => by cases h)
    refine Wc.seq fun K4 hn4 hx4 => ?_
    refine Wc.rg ?_
    refine Wo.val rfl (by first | rfl | (simp only [MS, Nat.reduceBEq, Nat.reduceBNe, Nat.reduceEqDiff, reduceIte, if_true, if_false, reduceCtorEq, Nat.reduceAdd, Nat.reduceMul, Nat.reduceLeDiff, Nat.reduceLT, Nat.reduceDiv, Nat.reduceSub, cval, cv, TS T] <;> rfl)) rfl ?_
    refine Wo.nil ?_
    exact hn4 _ (Wc.ret (hx3 _ _ (by simp) (hr0 _ _ [_] rfl ⟨2, rfl, rfl, fun h => by cases h⟩)))
  refine Wc.rg ?_
  refine Wo.val rfl (by first | rfl | (simp only [MS, Nat.reduceBEq, Nat.reduceBNe, Nat.reduceEqDiff, reduceIte, if_true, if_false, reduceCtorEq, Nat.reduceAdd, Nat.reduceMul, Nat.reduceLeDiff, Nat.reduceLT, Nat.reduceDiv, Nat.reduceSub, TS T] <;> rfl)) rfl ?_
  refine Wo.cl rfl rfl rfl (by first | rfl | (simp only [MS, Nat.reduceBEq, Nat.reduceBNe, Nat.reduceEqDiff, reduceIte, if_true, if_false, reduceCtorEq, Nat.reduceAdd, Nat.reduceMul, Nat.reduceLeDiff, Nat.reduceLT, Nat.reduceDiv, Nat.reduceSub, cval, cv, TS T] <;> rfl)) (by first | rfl | (simp only [MS, Nat.reduceBEq, Nat.reduceBNe, Nat.reduceEqDiff, reduceIte, if_true, if_false, reduceCtorEq, Nat.reduceAdd, Nat.reduceMul, Nat.reduceLeDiff, Nat.reduceLT, Nat.reduceDiv, Nat.reduceSub, cval, cv, TS T] <;> rfl)) (fun _ => rfl) ?_
  refine ⟨_, h, h36 _ _ _ _, ?_⟩
  by_cases h1 : -1000 ≤ n ∧ n ≤ 1000
  · refine Wo.val rfl (by simp only [MS, Nat.reduceBEq, Nat.reduceBNe, Nat.reduceEqDiff, reduceIte, if_true, if_false, reduceCtorEq, Nat.reduceAdd, Nat.reduceMul, Nat.reduceLeDiff, Nat.reduceLT, Nat.reduceDiv, Nat.reduceSub, unA, TS T, h1, and_self] <;> rfl) rfl ?_
    refine Wo.val rfl (by first | rfl | (simp only [MS, Nat.reduceBEq, Nat.reduceBNe, Nat.reduceEqDiff, reduceIte, if_true, if_false, reduceCtorEq, Nat.reduceAdd, Nat.reduceMul, Nat.reduceLeDiff, Nat.reduceLT, Nat.reduceDiv, Nat.reduceSub, TS T, h1, and_self] <;> rfl)) rfl ?_
    refine Wo.val (by first | rfl | (simp only [wantedA, wantedP, evR, List.contains, List.elem, MS, Nat.reduceBEq, Nat.reduceBNe, Nat.reduceEqDiff, reduceIte, if_true, if_false, reduceCtorEq, Nat.reduceAdd, Nat.reduceMul, Nat.reduceLeDiff, Nat.reduceLT, Nat.reduceDiv, Nat.reduceSub, h1, and_self]; rfl)) (by first | rfl | (simp only [MS, Nat.reduceBEq, Nat.reduceBNe, Nat.reduceEqDiff, reduceIte, if_true, if_false, reduceCtorEq, Nat.reduceAdd, Nat.reduceMul, Nat.reduceLeDiff, Nat.reduceLT, Nat.reduceDiv, Nat.reduceSub, TS T, h1, and_self] <;> rfl)) rfl ?_
    refine Wo.cl (by first | rfl | (simp only [wantedA, wantedP, evR, List.contains, List.elem, MS, Nat.reduceBEq, Nat.reduceBNe, Nat.reduceEqDiff, reduceIte, if_true, if_false, reduceCtorEq, Nat.reduceAdd, Nat.reduceMul, Nat.reduceLeDiff, Nat.reduceLT, Nat.reduceDiv, Nat.reduceSub, h1, and_self]; rfl)) rfl rfl (by first | rfl | (simp only [MS, Nat.reduceBEq, Nat.reduceBNe, Nat.reduceEqDiff, reduceIte, if_true, if_false, reduceCtorEq, Nat.reduceAdd, Nat.reduceMul, Nat.reduceLeDiff, Nat.reduceLT, Nat.reduceDiv, Nat.reduceSub, cval, cv, TS T, h1, and_self] <;> rfl)) (by first | rfl | (simp only [MS, Nat.reduceBEq, Nat.reduceBNe, Nat.reduceEqDiff, reduceIte, if_true, if_false, reduceCtorEq, Nat.reduceAdd, Nat.reduceMul, Nat.reduceLeDiff, Nat.reduceLT, Nat.reduceDiv, Nat.reduceSub, cval, cv, TS T, h1, and_self] <;> rfl)) (fun _ => rfl) ?_
    refine ⟨_, h, h36 _ _ _ _, ?_⟩
    by_cases h2 : -1000 ≤ a ∧ a ≤ 1000
    · refine Wo.val (by first | rfl | (simp only [wantedA, wantedP, evR, List.contains, List.elem, MS, Nat.reduceBEq, Nat.reduceBNe, Nat.reduceEqDiff, reduceIte, if_true, if_false, reduceCtorEq, Nat.reduceAdd, Nat.reduceMul, Nat.reduceLeDiff, Nat.reduceLT, Nat.reduceDiv, Nat.reduceSub, h2, and_self]; rfl)) (by simp only [MS, Nat.reduceBEq, Nat.reduceBNe, Nat.reduceEqDiff, reduceIte, if_true, if_false, reduceCtorEq, Nat.reduceAdd, Nat.reduceMul, Nat.reduceLeDiff, Nat.reduceLT, Nat.reduceDiv, Nat.reduceSub, unA, TS T, h2, and_self] <;> rfl) rfl ?_
      refine Wo.val rfl (by first | rfl | (simp only [MS, Nat.reduceBEq, Nat.reduceBNe, Nat.reduceEqDiff, reduceIte, if_true, if_false, reduceCtorEq, Nat.reduceAdd, Nat.reduceMul, Nat.reduceLeDiff, Nat.reduceLT, Nat.reduceDiv, Nat.reduceSub, cval, cv, TS T, h2, and_self] <;> rfl)) rfl ?_
      refine Wo.val rfl (by first | rfl | (simp only [MS, Nat.reduceBEq, Nat.reduceBNe, Nat.reduceEqDiff, reduceIte, if_true, if_false, reduceCtorEq, Nat.reduceAdd, Nat.reduceMul, Nat.reduceLeDiff, Nat.reduceLT, Nat.reduceDiv, Nat.reduceSub, TS T, h2, and_self] <;> rfl)) rfl ?_
      refine Wo.val (by first | rfl | (simp only [wantedA, wantedP, evR, List.contains, List.elem, MS, Nat.reduceBEq, Nat.reduceBNe, Nat.reduceEqDiff, reduceIte, if_true, if_false, reduceCtorEq, Nat.reduceAdd, Nat.reduceMul, Nat.reduceLeDiff, Nat.reduceLT, Nat.reduceDiv, Nat.reduceSub, h2, and_self]; rfl)) (by first | rfl | (simp only [MS, Nat.reduceBEq, Nat.reduceBNe, Nat.reduceEqDiff, reduceIte, if_true, if_false, reduceCtorEq, Nat.reduceAdd, Nat.reduceMul, Nat.reduceLeDiff, Nat.reduceLT, Nat.reduceDiv, Nat.reduceSub, TS T, h2, and_self] <;> rfl)) rfl ?_
      refine Wo.cl (by first | rfl | (simp only [wantedA, wantedP, evR, List.contains, List.elem, MS, Nat.reduceBEq, Nat.reduceBNe, Nat.reduceEqDiff, reduceIte, if_true, if_false, reduceCtorEq, Nat.reduceAdd, Nat.reduceMul, Nat.reduceLeDiff, Nat.reduceLT, Nat.reduceDiv, Nat.reduceSub, h2, and_self]; rfl)) rfl rfl (by first | rfl | (simp only [MS, Nat.reduceBEq, Nat.reduceBNe, Nat.reduceEqDiff, reduceIte, if_true, if_false, reduceCtorEq, Nat.reduceAdd, Nat.reduceMul, Nat.reduceLeDiff, Nat.reduceLT, Nat.reduceDiv, Nat.reduceSub, cval, cv, TS T, h2, and_self] <;> rfl)) (by first | rfl | (simp only [MS, Nat.reduceBEq, Nat.reduceBNe, Nat.reduceEqDiff, reduceIte, if_true, if_false, reduceCtorEq, Nat.reduceAdd, Nat.reduceMul, Nat.reduceLeDiff, Nat.reduceLT, Nat.reduceDiv, Nat.reduceSub, cval, cv, TS T, h2, and_self] <;> rfl)) (fun _ => rfl) ?_
      refine ⟨_, h, h36 _ _ _ _, ?_⟩
      by_cases h3 : 1 ≤ b ∧ b ≤ 1000
      · refine Wo.val (by first | rfl | (simp only [wantedA, wantedP, evR, List.contains, List.elem, MS, Nat.reduceBEq, Nat.reduceBNe, Nat.reduceEqDiff, reduceIte, if_true, if_false, reduceCtorEq, Nat.reduceAdd, Nat.reduceMul, Nat.reduceLeDiff, Nat.reduceLT, Nat.reduceDiv, Nat.reduceSub, h3, and_self]; rfl)) (by simp only [MS, Nat.reduceBEq, Nat.reduceBNe, Nat.reduceEqDiff, reduceIte, if_true, if_false, reduceCtorEq, Nat.reduceAdd, Nat.reduceMul, Nat.reduceLeDiff, Nat.reduceLT, Nat.reduceDiv, Nat.reduceSub, unA, TS T, h3, and_self] <;> rfl) rfl ?_
        refine Wo.val rfl (by first | rfl | (simp only [MS, Nat.reduceBEq, Nat.reduceBNe, Nat.reduceEqDiff, reduceIte, if_true, if_false, reduceCtorEq, Nat.reduceAdd, Nat.reduceMul, Nat.reduceLeDiff, Nat.reduceLT, Nat.reduceDiv, Nat.reduceSub, cval, cv, TS T, h3, and_self] <;> rfl)) rfl ?_
        refine Wo.nil ?_
        refine hn2 _ ?_
        refine Wc.seq fun K3 hn3 hx3 => ?_
        refine Wc.cond (t := false) rfl (fun h => by cases h) fun _ => ?_
        refine Wc.skip (hn3 _ ?_)
        refine Wc.seq fun K4 hn4 hx4 => ?_
        refine Wc.rg ?_
        refine Wo.val rfl (by first | rfl | (simp only [MS, Nat.reduceBEq, Nat.reduceBNe, Nat.reduceEqDiff, reduceIte, if_true, if_false, reduceCtorEq, Nat.reduceAdd, Nat.reduceMul, Nat.reduceLeDiff, Nat.reduceLT, Nat.reduceDiv, Nat.reduceSub, cval, cv, TS T] <;> rfl)) rfl ?_
        refine Wo.nil ?_
        exact hn4 _ (Wc.ret (hr0 _ _ [_] rfl ⟨0, rfl, rfl, fun _ => h3⟩))
      · refine Wo.val (by first | rfl | (simp only [wantedA, wantedP, evR, List.contains, List.elem, MS, Nat.reduceBEq, Nat.reduceBNe, Nat.reduceEqDiff, reduceIte, if_true, if_false, reduceCtorEq, Nat.reduceAdd, Nat.reduceMul, Nat.reduceLeDiff, Nat.reduceLT, Nat.reduceDiv, Nat.reduceSub, h3]; rfl)) (by simp only [MS, Nat.reduceBEq, Nat.reduceBNe, Nat.reduceEqDiff, reduceIte, if_true, if_false, reduceCtorEq, Nat.reduceAdd, Nat.reduceMul, Nat.reduceLeDiff, Nat.reduceLT, Nat.reduceDiv, Nat.reduceSub, unA, TS T, h3] <;> rfl) rfl ?_
        refine Wo.val rfl (by first | rfl | (simp only [MS, Nat.reduceBEq, Nat.reduceBNe, Nat.reduceEqDiff, reduceIte, if_true, if_false, reduceCtorEq, Nat.reduceAdd, Nat.reduceMul, Nat.reduceLeDiff, Nat.reduceLT, Nat.reduceDiv, Nat.reduceSub, cval, cv, TS T, h3] <;> rfl)) rfl ?_
        refine Wo.nil ?_
        exact bad _ rfl
    · refine Wo.val (by first | rfl | (simp only [wantedA, wantedP, evR, List.contains, List.elem, MS, Nat.reduceBEq, Nat.reduceBNe, Nat.reduceEqDiff, reduceIte, if_true, if_false, reduceCtorEq, Nat.reduceAdd, Nat.reduceMul, Nat.reduceLeDiff, Nat.reduceLT, Nat.reduceDiv, Nat.reduceSub, h2]; rfl)) (by simp only [MS, Nat.reduceBEq, Nat.reduceBNe, Nat.reduceEqDiff, reduceIte, if_true, if_false, reduceCtorEq, Nat.reduceAdd, Nat.reduceMul, Nat.reduceLeDiff, Nat.reduceLT, Nat.reduceDiv, Nat.reduceSub, unA, TS T, h2] <;> rfl) rfl ?_
      refine Wo.val rfl (by first | rfl | (simp only [MS, Nat.reduceBEq, Nat.reduceBNe, Nat.reduceEqDiff, reduceIte, if_true, if_false, reduceCtorEq, Nat.reduceAdd, Nat.reduceMul, Nat.reduceLeDiff, Nat.reduceLT, Nat.reduceDiv, Nat.reduceSub, cval, cv, TS T, h2] <;> rfl)) rfl ?_
      refine Wo.val rfl (by first | rfl | (simp only [MS, Nat.reduceBEq, Nat.reduceBNe, Nat.reduceEqDiff, reduceIte, if_true, if_false, reduceCtorEq, Nat.reduceAdd, Nat.reduceMul, Nat.reduceLeDiff, Nat.reduceLT, Nat.reduceDiv, Nat.reduceSub, TS T, h2] <;> rfl)) rfl ?_
      refine Wo.skip (by first | rfl | (simp only [wantedA, wantedP, evR, List.contains, List.elem, MS, Nat.reduceBEq, Nat.reduceBNe, Nat.reduceEqDiff, reduceIte, if_true, if_false, reduceCtorEq, Nat.reduceAdd, Nat.reduceMul, Nat.reduceLeDiff, Nat.reduceLT, Nat.reduceDiv, Nat.reduceSub, h2]; rfl)) rfl ?_
      refine Wo.skip (by first | rfl | (simp only [wantedA, wantedP, evR, List.contains, List.elem, MS, Nat.reduceBEq, Nat.reduceBNe, Nat.reduceEqDiff, reduceIte, if_true, if_false, reduceCtorEq, Nat.reduceAdd, Nat.reduceMul, Nat.reduceLeDiff, Nat.reduceLT, Nat.reduceDiv, Nat.reduceSub, h2]; rfl)) rfl ?_
      refine Wo.skip (by first | rfl | (simp only [wantedA, wantedP, evR, List.contains, List.elem, MS, Nat.reduceBEq, Nat.reduceBNe, Nat.reduceEqDiff, reduceIte, if_true, if_false, reduceCtorEq, Nat.reduceAdd, Nat.reduceMul, Nat.reduceLeDiff, Nat.reduceLT, Nat.reduceDiv, Nat.reduceSub, h2]; rfl)) rfl ?_
      refine Wo.val rfl (by first | rfl | (simp only [MS, Nat.reduceBEq, Nat.reduceBNe, Nat.reduceEqDiff, reduceIte, if_true, if_false, reduceCtorEq, Nat.reduceAdd, Nat.reduceMul, Nat.reduceLeDiff, Nat.reduceLT, Nat.reduceDiv, Nat.reduceSub, cval, cv, TS T, h2] <;> rfl)) rfl ?_
      refine Wo.nil ?_
      exact bad _ rfl
  · refine Wo.val rfl (by simp only [MS, Nat.reduceBEq, Nat.reduceBNe, Nat.reduceEqDiff, reduceIte, if_true, if_false, reduceCtorEq, Nat.reduceAdd, Nat.reduceMul, Nat.reduceLeDiff, Nat.reduceLT, Nat.reduceDiv, Nat.reduceSub, unA, TS T, h1] <;> rfl) rfl ?_
    refine Wo.val rfl (by first | rfl | (simp only [MS, Nat.reduceBEq, Nat.reduceBNe, Nat.reduceEqDiff, reduceIte, if_true, if_false, reduceCtorEq, Nat.reduceAdd, Nat.reduceMul, Nat.reduceLeDiff, Nat.reduceLT, Nat.reduceDiv, Nat.reduceSub, TS T, h1] <;> rfl)) rfl ?_
    refine Wo.skip (by first | rfl | (simp only [wantedA, wantedP, evR, List.contains, List.elem, MS, Nat.reduceBEq, Nat.reduceBNe, Nat.reduceEqDiff, reduceIte, if_true, if_false, reduceCtorEq, Nat.reduceAdd, Nat.reduceMul, Nat.reduceLeDiff, Nat.reduceLT, Nat.reduceDiv, Nat.reduceSub, h1]; rfl)) rfl ?_
    refine Wo.skip (by first | rfl | (simp only [wantedA, wantedP, evR, List.contains, List.elem, MS, Nat.reduceBEq, Nat.reduceBNe, Nat.reduceEqDiff, reduceIte, if_true, if_false, reduceCtorEq, Nat.reduceAdd, Nat.reduceMul, Nat.reduceLeDiff, Nat.reduceLT, Nat.reduceDiv, Nat.reduceSub, h1]; rfl)) rfl ?_
    refine Wo.skip (by first | rfl | (simp only [wantedA, wantedP, evR, List.contains, List.elem, MS, Nat.reduceBEq, Nat.reduceBNe, Nat.reduceEqDiff, reduceIte, if_true, if_false, reduceCtorEq, Nat.reduceAdd, Nat.reduceMul, Nat.reduceLeDiff, Nat.reduceLT, Nat.reduceDiv, Nat.reduceSub, h1]; rfl)) rfl ?_
    refine Wo.val rfl (by first | rfl | (simp only [MS, Nat.reduceBEq, Nat.reduceBNe, Nat.reduceEqDiff, reduceIte, if_true, if_false, reduceCtorEq, Nat.reduceAdd, Nat.reduceMul, Nat.reduceLeDiff, Nat.reduceLT, Nat.reduceDiv, Nat.reduceSub, cval, cv, TS T, h1] <;> rfl)) rfl ?_
    refine Wo.val rfl (by first | rfl | (simp only [MS, Nat.reduceBEq, Nat.reduceBNe, Nat.reduceEqDiff, reduceIte, if_true, if_false, reduceCtorEq, Nat.reduceAdd, Nat.reduceMul, Nat.reduceLeDiff, Nat.reduceLT, Nat.reduceDiv, Nat.reduceSub, TS T, h1] <;> rfl)) rfl ?_
    refine Wo.skip (by first | rfl | (simp only [wantedA, wantedP, evR, List.contains, List.elem, MS, Nat.reduceBEq, Nat.reduceBNe, Nat.reduceEqDiff, reduceIte, if_true, if_false, reduceCtorEq, Nat.reduceAdd, Nat.reduceMul, Nat.reduceLeDiff, Nat.reduceLT, Nat.reduceDiv, Nat.reduceSub, h1]; rfl)) rfl ?_
    refine Wo.skip (by first | rfl | (simp only [wantedA, wantedP, evR, List.contains, List.elem, MS, Nat.reduceBEq, Nat.reduceBNe, Nat.reduceEqDiff, reduceIte, if_true, if_false, reduceCtorEq, Nat.reduceAdd, Nat.reduceMul, Nat.reduceLeDiff, Nat.reduceLT, Nat.reduceDiv, Nat.reduceSub, h1]; rfl)) rfl ?_
    refine Wo.skip (by first | rfl | (simp only [wantedA, wantedP, evR, List.contains, List.elem, MS, Nat.reduceBEq, Nat.reduceBNe, Nat.reduceEqDiff, reduceIte, if_true, if_false, reduceCtorEq, Nat.reduceAdd, Nat.reduceMul, Nat.reduceLeDiff, Nat.reduceLT, Nat.reduceDiv, Nat.reduceSub, h1]; rfl)) rfl ?_
    refine Wo.val rfl (by first | rfl | (simp only [MS, Nat.reduceBEq, Nat.reduceBNe, Nat.reduceEqDiff, reduceIte, if_true, if_false, reduceCtorEq, Nat.reduceAdd, Nat.reduceMul, Nat.reduceLeDiff, Nat.reduceLT, Nat.reduceDiv, Nat.reduceSub, cval, cv, TS T, h1] <;> rfl)) rfl ?_
    refine Wo.nil ?_
    exact bad _ rfl

theorem S.f38_ok {tb fc} (T : S.Ty tb) {call call' : Caller} {lf : Nat} (hc : ∀ args h, call' (.fn 38) args h = runF tb fc call lf Tryz.f38 args h) (h36 : ∀ n a b h, call (.fn 36) [.i .i64 n, .i .i64 a, .i .i64 b] h = some (.ret (.b (decide (a ≤ n ∧ n ≤ b))), h)) (r c : Int) (h : Hp) :
    ∃ e : Int, call' (.fn 38) [.i .i64 r, .i .i64 c] h = some (.ret (.i .i64 e), h) ∧ (e = 0 → 1 ≤ c ∧ c ≤ 1000) := by
  suffices H : Wf tb fc call lf Tryz.f38 [.i .i64 r, .i .i64 c] h (fun w h' => ∃ e : Int, w = .i .i64 e ∧ h' = h ∧ (e = 0 → 1 ≤ c ∧ c ≤ 1000)) by
    obtain ⟨w, h', h1, e, rfl, rfl, h2⟩ := H
    exact ⟨e, by rw [hc]; exact h1, h2⟩
  refine Wf.intro (sz := 14) rfl rfl fun K hn0 hr0 => ?_
  repeat refine Wc.assoc ?_
  refine Wc.seq fun K1 hn1 hx1 => ?_
  refine Wc.rg ?_
  refine Wo.val rfl (by first | rfl | (simp only [MS, Nat.reduceBEq, Nat.reduceBNe, Nat.reduceEqDiff, reduceIte, if_true, if_false, reduceCtorEq, Nat.reduceAdd, Nat.reduceMul, Nat.reduceLeDiff, Nat.reduceLT, Nat.reduceDiv, Nat.reduceSub, cval, cv, TS T] <;> rfl)) rfl ?_
  refine Wo.nil ?_
  refine hn1 _ ?_
  repeat refine Wc.assoc ?_
  refine Wc.seq fun K2 hn2 hx2 => ?_
  have bad : ∀ fr, look fr 13 = some (.b true) → K2 .normal ⟨fr, [], h⟩ := by
    intro fr f19
    refine hn2 _ ?_
    refine Wc.seq fun K3 hn3 hx3 => ?_
    refine Wc.cond (t := true) f19 (fun _ => ?_) (fun h => by cases h)
    refine Wc.seq fun K4 hn4 hx4 => ?_
    refine Wc.rg ?_
    refine Wo.val rfl (by first | rfl | (simp only [MS, Nat.reduceBEq, Nat.reduceBNe, Nat.reduceEqDiff, reduceIte, if_true, if_false, reduceCtorEq, Nat.reduceAdd, Nat.reduceMul, Nat.reduceLeDiff, Nat.reduceLT, Nat.reduceDiv, Nat.reduceSub, cval, cv, TS T] <;> rfl)) rfl ?_
    refine Wo.nil ?_
    exact hn4 _ (Wc.ret (hx3 _ _ (by simp) (hr0 _ _ [_] rfl ⟨2, rfl, rfl, fun h => by cases h⟩)))
  refine Wc.rg ?_
  refine Wo.val rfl (by first | rfl | (simp only [MS, Nat.reduceBEq, Nat.reduceBNe, Nat.reduceEqDiff, reduceIte, if_true, if_false, reduceCtorEq, Nat.reduceAdd, Nat.reduceMul, Nat.reduceLeDiff, Nat.reduceLT, Nat.reduceDiv, Nat.reduceSub, TS T] <;> rfl)) rfl ?_
  refine Wo.cl rfl rfl rfl (by first | rfl | (simp only [MS, Nat.reduceBEq, Nat.reduceBNe, Nat.reduceEqDiff, reduceIte, if_true, if_false, reduceCtorEq, Nat.reduceAdd, Nat.reduceMul, Nat.reduceLeDiff, Nat.reduceLT, Nat.reduceDiv, Nat.reduceSub, cval, cv, TS T] <;> rfl)) (by first | rfl | (simp only [MS, Nat.reduceBEq, Nat.reduceBNe, Nat.reduceEqDiff, reduceIte, if_true, if_false, reduceCtorEq, Nat.reduceAdd, Nat.reduceMul, Nat.reduceLeDiff, Nat.reduceLT, Nat.reduceDiv, Nat.reduceSub, cval, cv, TS T] <;> rfl)) (fun _ => rfl) ?_
  refine ⟨_, h, h36 _ _ _ _, ?_⟩
  by_cases h1 : 1 ≤ r ∧ r ≤ 1000
  · refine Wo.val rfl (by simp only [MS, Nat.reduceBEq, Nat.reduceBNe, Nat.reduceEqDiff, reduceIte, if_true, if_false, reduceCtorEq, Nat.reduceAdd, Nat.reduceMul, Nat.reduceLeDiff, Nat.reduceLT, Nat.reduceDiv, Nat.reduceSub, unA, TS T, h1, and_self] <;> rfl) rfl ?_
    refine Wo.val rfl (by first | rfl | (simp only [MS, Nat.reduceBEq, Nat.reduceBNe, Nat.reduceEqDiff, reduceIte, if_true, if_false, reduceCtorEq, Nat.reduceAdd, Nat.reduceMul, Nat.reduceLeDiff, Nat.reduceLT, Nat.reduceDiv, Nat.reduceSub, TS T, h1, and_self] <;> rfl)) rfl ?_
    refine Wo.val (by first | rfl | (simp only [wantedA, wantedP, evR, List.contains, List.elem, MS, Nat.reduceBEq, Nat.reduceBNe, Nat.reduceEqDiff, reduceIte, if_true, if_false, reduceCtorEq, Nat.reduceAdd, Nat.reduceMul, Nat.reduceLeDiff, Nat.reduceLT, Nat.reduceDiv, Nat.reduceSub, h1, and_self]; rfl)) (by first | rfl | (simp only [MS, Nat.reduceBEq, Nat.reduceBNe, Nat.reduceEqDiff, reduceIte, if_true, if_false, reduceCtorEq, Nat.reduceAdd, Nat.reduceMul, Nat.reduceLeDiff, Nat.reduceLT, Nat.reduceDiv, Nat.reduceSub, TS T, h1, and_self] <;> rfl)) rfl ?_
    refine Wo.val (by first | rfl | (simp only [wantedA, wantedP, evR, List.contains, List.elem, MS, Nat.reduceBEq, Nat.reduceBNe, Nat.reduceEqDiff, reduceIte, if_true, if_false, reduceCtorEq, Nat.reduceAdd, Nat.reduceMul, Nat.reduceLeDiff, Nat.reduceLT, Nat.reduceDiv, Nat.reduceSub, h1, and_self]; rfl)) (by first | rfl | (simp only [MS, Nat.reduceBEq, Nat.reduceBNe, Nat.reduceEqDiff, reduceIte, if_true, if_false, reduceCtorEq, Nat.reduceAdd, Nat.reduceMul, Nat.reduceLeDiff, Nat.reduceLT, Nat.reduceDiv, Nat.reduceSub, TS T, h1, and_self] <;> rfl)) rfl ?_
    refine Wo.cl (by first | rfl | (simp only [wantedA, wantedP, evR, List.contains, List.elem, MS, Nat.reduceBEq, Nat.reduceBNe, Nat.reduceEqDiff, reduceIte, if_true, if_false, reduceCtorEq, Nat.reduceAdd, Nat.reduceMul, Nat.reduceLeDiff, Nat.reduceLT, Nat.reduceDiv, Nat.reduceSub, h1, and_self]; rfl)) rfl rfl (by first | rfl | (simp only [MS, Nat.reduceBEq, Nat.reduceBNe, Nat.reduceEqDiff, reduceIte, if_true, if_false, reduceCtorEq, Nat.reduceAdd, Nat.reduceMul, Nat.reduceLeDiff, Nat.reduceLT, Nat.reduceDiv, Nat.reduceSub, cval, cv, TS T, h1, and_self] <;> rfl)) (by first | rfl | (simp only [MS, Nat.reduceBEq, Nat.reduceBNe, Nat.reduceEqDiff, reduceIte, if_true, if_false, reduceCtorEq, Nat.reduceAdd, Nat.reduceMul, Nat.reduceLeDiff, Nat.reduceLT, Nat.reduceDiv, Nat.reduceSub, cval, cv, TS T, h1, and_self] <;> rfl)) (fun _ => rfl) ?_
    refine ⟨_, h, h36 _ _ _ _, ?_⟩
    by_cases h2 : 1 ≤ c ∧ c ≤ r
    · refine Wo.val (by first | rfl | (simp only [wantedA, wantedP, evR, List.contains, List.elem, MS, Nat.reduceBEq, Nat.reduceBNe, Nat.reduceEqDiff, reduceIte, if_true, if_false, reduceCtorEq, Nat.reduceAdd, Nat.reduceMul, Nat.reduceLeDiff, Nat.reduceLT, Nat.reduceDiv, Nat.reduceSub, h2, and_self]; rfl)) (by simp only [MS, Nat.reduceBEq, Nat.reduceBNe, Nat.reduceEqDiff, reduceIte, if_true, if_false, reduceCtorEq, Nat.reduceAdd, Nat.reduceMul, Nat.reduceLeDiff, Nat.reduceLT, Nat.reduceDiv, Nat.reduceSub, unA, TS T, h2, and_self] <;> rfl) rfl ?_
      refine Wo.val rfl (by first | rfl | (simp only [MS, Nat.reduceBEq, Nat.reduceBNe, Nat.reduceEqDiff, reduceIte, if_true, if_false, reduceCtorEq, Nat.reduceAdd, Nat.reduceMul, Nat.reduceLeDiff, Nat.reduceLT, Nat.reduceDiv, Nat.reduceSub, cval, cv, TS T, h2, and_self] <;> rfl)) rfl ?_
      refine Wo.nil ?_
      refine hn2 _ ?_
      refine Wc.seq fun K3 hn3 hx3 => ?_
      refine Wc.cond (t := false) rfl (fun h => by cases h) fun _ => ?_
      refine Wc.skip (hn3 _ ?_)
      refine Wc.seq fun K4 hn4 hx4 => ?_
      refine Wc.rg ?_
      refine Wo.val rfl (by first | rfl | (simp only [MS, Nat.reduceBEq, Nat.reduceBNe, Nat.reduceEqDiff, reduceIte, if_true, if_false, reduceCtorEq, Nat.reduceAdd, Nat.reduceMul, Nat.reduceLeDiff, Nat.reduceLT, Nat.reduceDiv, Nat.reduceSub, cval, cv, TS T] <;> rfl)) rfl ?_
      refine Wo.nil ?_
      exact hn4 _ (Wc.ret (hr0 _ _ [_] rfl ⟨0, rfl, rfl, fun _ => by omega⟩))
    · refine Wo.val (by first | rfl | (simp only [wantedA, wantedP, evR, List.contains, List.elem, MS, Nat.reduceBEq, Nat.reduceBNe, Nat.reduceEqDiff, reduceIte, if_true, if_false, reduceCtorEq, Nat.reduceAdd, Nat.reduceMul, Nat.reduceLeDiff, Nat.reduceLT, Nat.reduceDiv, Nat.reduceSub, h2]; rfl)) (by simp only [MS, Nat.reduceBEq, Nat.reduceBNe, Nat.reduceEqDiff, reduceIte, if_true, if_false, reduceCtorEq, Nat.reduceAdd, Nat.reduceMul, Nat.reduceLeDiff, Nat.reduceLT, Nat.reduceDiv, Nat.reduceSub, unA, TS T, h2] <;> rfl) rfl ?_
      refine Wo.val rfl (by first | rfl | (simp only [MS, Nat.reduceBEq, Nat.reduceBNe, Nat.reduceEqDiff, reduceIte, if_true, if_false, reduceCtorEq, Nat.reduceAdd, Nat.reduceMul, Nat.reduceLeDiff, Nat.reduceLT, Nat.reduceDiv, Nat.reduceSub, cval, cv, TS T, h2] <;> rfl)) rfl ?_
      refine Wo.nil ?_
      exact bad _ rfl
  · refine Wo.val rfl (by simp only [MS, Nat.reduceBEq, Nat.reduceBNe, Nat.reduceEqDiff, reduceIte, if_true, if_false, reduceCtorEq, Nat.reduceAdd, Nat.reduceMul, Nat.reduceLeDiff, Nat.reduceLT, Nat.reduceDiv, Nat.reduceSub, unA, TS T, h1] <;> rfl) rfl ?_
    refine Wo.val rfl (by first | rfl | (simp only [MS, Nat.reduceBEq, Nat.reduceBNe, Nat.reduceEqDiff, reduceIte, if_true, if_false, reduceCtorEq, Nat.reduceAdd, Nat.reduceMul, Nat.reduceLeDiff, Nat.reduceLT, Nat.reduceDiv, Nat.reduceSub, TS T, h1] <;> rfl)) rfl ?_
    refine Wo.skip (by first | rfl | (simp only [wantedA, wantedP, evR, List.contains, List.elem, MS, Nat.reduceBEq, Nat.reduceBNe, Nat.reduceEqDiff, reduceIte, if_true, if_false, reduceCtorEq, Nat.reduceAdd, Nat.reduceMul, Nat.reduceLeDiff, Nat.reduceLT, Nat.reduceDiv, Nat.reduceSub, h1]; rfl)) rfl ?_
    refine Wo.skip (by first | rfl | (simp only [wantedA, wantedP, evR, List.contains, List.elem, MS, Nat.reduceBEq, Nat.reduceBNe, Nat.reduceEqDiff, reduceIte, if_true, if_false, reduceCtorEq, Nat.reduceAdd, Nat.reduceMul, Nat.reduceLeDiff, Nat.reduceLT, Nat.reduceDiv, Nat.reduceSub, h1]; rfl)) rfl ?_
    refine Wo.skip (by first | rfl | (simp only [wantedA, wantedP, evR, List.contains, List.elem, MS, Nat.reduceBEq, Nat.reduceBNe, Nat.reduceEqDiff, reduceIte, if_true, if_false, reduceCtorEq, Nat.reduceAdd, Nat.reduceMul, Nat.reduceLeDiff, Nat.reduceLT, Nat.reduceDiv, Nat.reduceSub, h1]; rfl)) rfl ?_
    refine Wo.skip (by first | rfl | (simp only [wantedA, wantedP, evR, List.contains, List.elem, MS, Nat.reduceBEq, Nat.reduceBNe, Nat.reduceEqDiff, reduceIte, if_true, if_false, reduceCtorEq, Nat.reduceAdd, Nat.reduceMul, Nat.reduceLeDiff, Nat.reduceLT, Nat.reduceDiv, Nat.reduceSub, h1]; rfl)) rfl ?_
    refine Wo.val rfl (by first | rfl | (simp only [MS, Nat.reduceBEq, Nat.reduceBNe, Nat.reduceEqDiff, reduceIte, if_true, if_false, reduceCtorEq, Nat.reduceAdd, Nat.reduceMul, Nat.reduceLeDiff, Nat.reduceLT, Nat.reduceDiv, Nat.reduceSub, cval, cv, TS T, h1] <;> rfl)) rfl ?_
    refine Wo.nil ?_
    exact bad _ rfl

theorem ne2 {n : Int} (h : 1 ≤ n) (h2 : n ≤ 1000000) : IntKind.i64.wrap (2 * n) ≠ 0 := by
  rw [wrap_i64] <;> omega

theorem S.f33_ok {tb fc} (T : S.Ty tb) {call call' : Caller} {lf : Nat} (hc : ∀ args h, call' (.fn 33) args h = runF tb fc call lf Tryz.f33 args h) (a b r i : Int) (h1 : 1 ≤ r) (h2 : r ≤ 1000) (h : Hp) :
    ∃ x : Int, call' (.fn 33) [.i .i64 a, .i .i64 b, .i .i64 r, .i .i64 i] h = some (.ret (.i .i64 x), h) ∧ IntKind.i64.wrap x = x := by
  suffices H : Wf tb fc call lf Tryz.f33 [.i .i64 a, .i .i64 b, .i .i64 r, .i .i64 i] h (fun w h' => ∃ e : Int, w = .i .i64 e ∧ h' = h ∧ IntKind.i64.wrap e = e) by
    obtain ⟨w, h', h1, e, rfl, rfl, h2⟩ := H
    exact ⟨e, by rw [hc]; exact h1, h2⟩
  have hne := ne2 (n := r) h1 (by omega)
  refine Wf.intro (sz := 31) rfl rfl fun K hn0 hr0 => ?_
  repeat refine Wc.assoc ?_
  refine Wc.seq fun K1 hn1 hx1 => ?_
  refine Wc.rg ?_
  refine Wo.val rfl (by first | rfl | (simp only [MS, Nat.reduceBEq, Nat.reduceBNe, Nat.reduceEqDiff, reduceIte, if_true, if_false, reduceCtorEq, Nat.reduceAdd, Nat.reduceMul, Nat.reduceLeDiff, Nat.reduceLT, Nat.reduceDiv, Nat.reduceSub, cval, cv, TS T] <;> rfl)) rfl ?_
  refine Wo.nil ?_
  refine hn1 _ ?_
  repeat refine Wc.assoc ?_
  refine Wc.seq fun K2 hn2 hx2 => ?_
  refine Wc.rg ?_
  refine Wo.val rfl (by first | rfl | (simp only [MS, Nat.reduceBEq, Nat.reduceBNe, Nat.reduceEqDiff, reduceIte, if_true, if_false, reduceCtorEq, Nat.reduceAdd, Nat.reduceMul, Nat.reduceLeDiff, Nat.reduceLT, Nat.reduceDiv, Nat.reduceSub, TS T] <;> rfl)) rfl ?_
  refine Wo.val rfl (by simp only [MS, Nat.reduceBEq, Nat.reduceBNe, Nat.reduceEqDiff, reduceIte, if_true, if_false, reduceCtorEq, Nat.reduceAdd, Nat.reduceMul, Nat.reduceLeDiff, Nat.reduceLT, Nat.reduceDiv, Nat.reduceSub, binA, arithA, strA, isC, cval, cv, TS T] <;> rfl) rfl ?_
  refine Wo.val rfl (by first | rfl | (simp only [MS, Nat.reduceBEq, Nat.reduceBNe, Nat.reduceEqDiff, reduceIte, if_true, if_false, reduceCtorEq, Nat.reduceAdd, Nat.reduceMul, Nat.reduceLeDiff, Nat.reduceLT, Nat.reduceDiv, Nat.reduceSub, TS T] <;> rfl)) rfl ?_
  refine Wo.val rfl (by simp only [MS, Nat.reduceBEq, Nat.reduceBNe, Nat.reduceEqDiff, reduceIte, if_true, if_false, reduceCtorEq, Nat.reduceAdd, Nat.reduceMul, Nat.reduceLeDiff, Nat.reduceLT, Nat.reduceDiv, Nat.reduceSub, binA, arithA, strA, isC, cval, cv, TS T] <;> rfl) rfl ?_
  refine Wo.val rfl (by first | rfl | (simp only [MS, Nat.reduceBEq, Nat.reduceBNe, Nat.reduceEqDiff, reduceIte, if_true, if_false, reduceCtorEq, Nat.reduceAdd, Nat.reduceMul, Nat.reduceLeDiff, Nat.reduceLT, Nat.reduceDiv, Nat.reduceSub, cval, cv, TS T] <;> rfl)) rfl ?_
  refine Wo.val rfl (by first | rfl | (simp only [MS, Nat.reduceBEq, Nat.reduceBNe, Nat.reduceEqDiff, reduceIte, if_true, if_false, reduceCtorEq, Nat.reduceAdd, Nat.reduceMul, Nat.reduceLeDiff, Nat.reduceLT, Nat.reduceDiv, Nat.reduceSub, cval, cv, TS T] <;> rfl)) rfl ?_
  refine Wo.nil ?_
  refine hn2 _ ?_
  refine Wc.seq fun K3 hn3 hx3 => ?_
  refine Wc.rg ?_
  refine Wo.val rfl (by first | rfl | (simp only [MS, Nat.reduceBEq, Nat.reduceBNe, Nat.reduceEqDiff, reduceIte, if_true, if_false, reduceCtorEq, Nat.reduceAdd, Nat.reduceMul, Nat.reduceLeDiff, Nat.reduceLT, Nat.reduceDiv, Nat.reduceSub, TS T, hne] <;> rfl)) rfl ?_
  refine Wo.val rfl (by first | rfl | (simp only [MS, Nat.reduceBEq, Nat.reduceBNe, Nat.reduceEqDiff, reduceIte, if_true, if_false, reduceCtorEq, Nat.reduceAdd, Nat.reduceMul, Nat.reduceLeDiff, Nat.reduceLT, Nat.reduceDiv, Nat.reduceSub, TS T, hne] <;> rfl)) rfl ?_
  refine Wo.val rfl (by first | rfl | (simp only [MS, Nat.reduceBEq, Nat.reduceBNe, Nat.reduceEqDiff, reduceIte, if_true, if_false, reduceCtorEq, Nat.reduceAdd, Nat.reduceMul, Nat.reduceLeDiff, Nat.reduceLT, Nat.reduceDiv, Nat.reduceSub, TS T, hne] <;> rfl)) rfl ?_
  refine Wo.val rfl (by simp only [MS, Nat.reduceBEq, Nat.reduceBNe, Nat.reduceEqDiff, reduceIte, if_true, if_false, reduceCtorEq, Nat.reduceAdd, Nat.reduceMul, Nat.reduceLeDiff, Nat.reduceLT, Nat.reduceDiv, Nat.reduceSub, binA, arithA, strA, isC, cval, cv, TS T, hne] <;> rfl) rfl ?_
  refine Wo.val rfl (by simp only [MS, Nat.reduceBEq, Nat.reduceBNe, Nat.reduceEqDiff, reduceIte, if_true, if_false, reduceCtorEq, Nat.reduceAdd, Nat.reduceMul, Nat.reduceLeDiff, Nat.reduceLT, Nat.reduceDiv, Nat.reduceSub, binA, arithA, strA, isC, cval, cv, TS T, hne] <;> rfl) rfl ?_
  refine Wo.val rfl (by first | rfl | (simp only [MS, Nat.reduceBEq, Nat.reduceBNe, Nat.reduceEqDiff, reduceIte, if_true, if_false, reduceCtorEq, Nat.reduceAdd, Nat.reduceMul, Nat.reduceLeDiff, Nat.reduceLT, Nat.reduceDiv, Nat.reduceSub, TS T, hne] <;> rfl)) rfl ?_
  refine Wo.val rfl (by first | rfl | (simp only [MS, Nat.reduceBEq, Nat.reduceBNe, Nat.reduceEqDiff, reduceIte, if_true, if_false, reduceCtorEq, Nat.reduceAdd, Nat.reduceMul, Nat.reduceLeDiff, Nat.reduceLT, Nat.reduceDiv, Nat.reduceSub, TS T, hne] <;> rfl)) rfl ?_
  refine Wo.val rfl (by simp only [MS, Nat.reduceBEq, Nat.reduceBNe, Nat.reduceEqDiff, reduceIte, if_true, if_false, reduceCtorEq, Nat.reduceAdd, Nat.reduceMul, Nat.reduceLeDiff, Nat.reduceLT, Nat.reduceDiv, Nat.reduceSub, binA, arithA, strA, isC, cval, cv, TS T, hne] <;> rfl) rfl ?_
  refine Wo.val rfl (by simp only [MS, Nat.reduceBEq, Nat.reduceBNe, Nat.reduceEqDiff, reduceIte, if_true, if_false, reduceCtorEq, Nat.reduceAdd, Nat.reduceMul, Nat.reduceLeDiff, Nat.reduceLT, Nat.reduceDiv, Nat.reduceSub, binA, arithA, strA, isC, cval, cv, TS T, hne] <;> rfl) rfl ?_
  refine Wo.val rfl (by simp only [MS, Nat.reduceBEq, Nat.reduceBNe, Nat.reduceEqDiff, reduceIte, if_true, if_false, reduceCtorEq, Nat.reduceAdd, Nat.reduceMul, Nat.reduceLeDiff, Nat.reduceLT, Nat.reduceDiv, Nat.reduceSub, binA, arithA, strA, isC, cval, cv, TS T, hne] <;> rfl) rfl ?_
  refine Wo.val rfl (by first | rfl | (simp only [MS, Nat.reduceBEq, Nat.reduceBNe, Nat.reduceEqDiff, reduceIte, if_true, if_false, reduceCtorEq, Nat.reduceAdd, Nat.reduceMul, Nat.reduceLeDiff, Nat.reduceLT, Nat.reduceDiv, Nat.reduceSub, TS T, hne] <;> rfl)) rfl ?_
  refine Wo.val rfl (by simp only [MS, Nat.reduceBEq, Nat.reduceBNe, Nat.reduceEqDiff, reduceIte, if_true, if_false, reduceCtorEq, Nat.reduceAdd, Nat.reduceMul, Nat.reduceLeDiff, Nat.reduceLT, Nat.reduceDiv, Nat.reduceSub, binA, arithA, strA, isC, cval, cv, TS T, hne] <;> rfl) rfl ?_
  refine Wo.val rfl (by first | rfl | (simp only [MS, Nat.reduceBEq, Nat.reduceBNe, Nat.reduceEqDiff, reduceIte, if_true, if_false, reduceCtorEq, Nat.reduceAdd, Nat.reduceMul, Nat.reduceLeDiff, Nat.reduceLT, Nat.reduceDiv, Nat.reduceSub, TS T, hne] <;> rfl)) rfl ?_
  refine Wo.val rfl (by simp only [MS, Nat.reduceBEq, Nat.reduceBNe, Nat.reduceEqDiff, reduceIte, if_true, if_false, reduceCtorEq, Nat.reduceAdd, Nat.reduceMul, Nat.reduceLeDiff, Nat.reduceLT, Nat.reduceDiv, Nat.reduceSub, binA, arithA, strA, isC, cval, cv, TS T, hne] <;> rfl) rfl ?_
  refine Wo.val rfl (by simp only [MS, Nat.reduceBEq, Nat.reduceBNe, Nat.reduceEqDiff, reduceIte, if_true, if_false, reduceCtorEq, Nat.reduceAdd, Nat.reduceMul, Nat.reduceLeDiff, Nat.reduceLT, Nat.reduceDiv, Nat.reduceSub, binA, arithA, strA, isC, cval, cv, TS T, hne] <;> rfl) rfl ?_
  refine Wo.val rfl (by simp only [MS, Nat.reduceBEq, Nat.reduceBNe, Nat.reduceEqDiff, reduceIte, if_true, if_false, reduceCtorEq, Nat.reduceAdd, Nat.reduceMul, Nat.reduceLeDiff, Nat.reduceLT, Nat.reduceDiv, Nat.reduceSub, binA, arithA, strA, isC, cval, cv, TS T, hne] <;> rfl) rfl ?_
  refine Wo.val rfl (by first | rfl | (simp only [MS, Nat.reduceBEq, Nat.reduceBNe, Nat.reduceEqDiff, reduceIte, if_true, if_false, reduceCtorEq, Nat.reduceAdd, Nat.reduceMul, Nat.reduceLeDiff, Nat.reduceLT, Nat.reduceDiv, Nat.reduceSub, cval, cv, TS T, hne] <;> rfl)) rfl ?_
  refine Wo.nil ?_
  exact hn3 _ (Wc.ret (hr0 _ _ [_] rfl ⟨_, rfl, rfl, wrap_wrap _ _⟩))

/-- What a closure that makes an element does. 'W': the blocks that it may write; 'I': what holds of the heap. -/
def ElemOk (call : Caller) (g : Nat) (caps : List V) (n : Nat) (W : Nat → Prop) (I : Hp → Prop) : Prop := ∀ (i : Nat) (h : Hp), i < n → I h →
  ∃ (x : Int) (h' : Hp), call (.fn g) ([.i .i64 i] ++ caps) h = some (.ret (.i .i64 x), h') ∧ IntKind.i64.wrap x = x ∧ h.n ≤ h'.n ∧ (∀ b, b < h.n → ¬ W b → h'.get b = h.get b) ∧ I h'

def IntCells (cs : List V) : Prop := ∀ (j : Nat) x, cs[j]? = some x → ∃ k, x = .i .i64 k ∧ IntKind.i64.wrap k = k

theorem S.f31_ok {tb fc} (T : S.Ty tb) {call call' : Caller} {lf : Nat} (hlf : 2000000000000 ≤ lf) (hc : ∀ args h, call' (.fn 31) args h = runF tb fc call lf Tryz.f31 args h) {g : Nat} {caps : List V} {n : Nat} {W : Nat → Prop} {I : Hp → Prop} (hn : n ≤ 1000000) (hg : ElemOk call g caps n W I)
    {h : Hp} (hW : ∀ b, W b → b < h.n) (hI : I h) (hloc : ∀ h1 h2, I h1 → h.n ≤ h1.n → h1.n ≤ h2.n → (∀ b, b < h.n → h2.get b = h1.get b) → I h2) :
    ∃ h' cs, call' (.fn 31) [.i .i64 n, .f (.func g) [] caps] h = some (.ret (.sl h.n 0 n (some n) 1), h') ∧ h.n < h'.n ∧ (∀ b, b < h.n → ¬ W b → h'.get b = h.get b) ∧ h'.get h.n = some (.blk 6 cs true) ∧ cs.length = n ∧ IntCells cs := by
  suffices H : Wf tb fc call lf Tryz.f31 [.i .i64 n, .f (.func g) [] caps] h (fun v h' => v = .sl h.n 0 n (some n) 1 ∧ h.n < h'.n ∧ (∀ b, b < h.n → ¬ W b → h'.get b = h.get b) ∧ ∃ cs, h'.get h.n = some (.blk 6 cs true) ∧ cs.length = n ∧ IntCells cs) by
    obtain ⟨v, h', h1, rfl, h2, h3, cs, h4⟩ := H
    exact ⟨h', cs, by rw [hc]; exact h1, h2, h3, h4⟩
  have hms : makeSliceA tb h 22 (.i .i64 n) (.i .i64 n) = some (.sl h.n 0 n (some n) 1, h.push (.blk (2 * 3) (rep n [.i .i64 0]) true)) := by
    simp [makeSliceA, T.t22, T.t3, TI.zero, V.cells]; omega
  have hzero : IntCells (rep n [.i .i64 0]) := by
    intro j x hx
    have hj := (List.getElem?_eq_some_iff.1 hx).1
    rw [rows_length] at hj
    simp at hj
    have := rows_get n [.i .i64 0] j 0 hj (by simp)
    simp at this
    rw [this] at hx; cases hx
    exact ⟨0, rfl, rfl⟩
  refine Wf.intro (sz := 21) rfl rfl fun K hn0 hr0 => ?_
  repeat refine Wc.assoc ?_
  refine Wc.seq fun K1 hn1 hx1 => ?_
  refine Wc.rg ?_
  refine Wo.val rfl (by first | rfl | (simp only [MS, Nat.reduceBEq, Nat.reduceBNe, Nat.reduceEqDiff, reduceIte, if_true, if_false, reduceCtorEq, Nat.reduceAdd, Nat.reduceMul, Nat.reduceLeDiff, Nat.reduceLT, Nat.reduceDiv, Nat.reduceSub, cval, cv, TS T] <;> rfl)) rfl ?_
  refine Wo.nil ?_
  refine hn1 _ ?_
  repeat refine Wc.assoc ?_
  refine Wc.seq fun K2 hn2 hx2 => ?_
  refine Wc.rg ?_
  refine Wo.val rfl (by first | rfl | (simp only [MS, Nat.reduceBEq, Nat.reduceBNe, Nat.reduceEqDiff, reduceIte, if_true, if_false, reduceCtorEq, Nat.reduceAdd, Nat.reduceMul, Nat.reduceLeDiff, Nat.reduceLT, Nat.reduceDiv, Nat.reduceSub, TS T, hms] <;> rfl)) rfl ?_
  refine Wo.val rfl (by simp only [MS, Nat.reduceBEq, Nat.reduceBNe, Nat.reduceEqDiff, reduceIte, if_true, if_false, reduceCtorEq, Nat.reduceAdd, Nat.reduceMul, Nat.reduceLeDiff, Nat.reduceLT, Nat.reduceDiv, Nat.reduceSub, cval, cv, TS T, hms] <;> rfl) rfl ?_
  refine Wo.val rfl (by first | rfl | (simp only [MS, Nat.reduceBEq, Nat.reduceBNe, Nat.reduceEqDiff, reduceIte, if_true, if_false, reduceCtorEq, Nat.reduceAdd, Nat.reduceMul, Nat.reduceLeDiff, Nat.reduceLT, Nat.reduceDiv, Nat.reduceSub, cval, cv, TS T, hms] <;> rfl)) rfl ?_
  refine Wo.nil ?_
  refine hn2 _ ?_
  repeat refine Wc.assoc ?_
  refine Wc.seq fun K3 hn3 hx3 => ?_
  refine Wc.rg ?_
  refine Wo.val rfl (by first | rfl | (simp only [MS, Nat.reduceBEq, Nat.reduceBNe, Nat.reduceEqDiff, reduceIte, if_true, if_false, reduceCtorEq, Nat.reduceAdd, Nat.reduceMul, Nat.reduceLeDiff, Nat.reduceLT, Nat.reduceDiv, Nat.reduceSub, TS T] <;> rfl)) rfl ?_
  refine Wo.val rfl (by first | rfl | (simp only [MS, Nat.reduceBEq, Nat.reduceBNe, Nat.reduceEqDiff, reduceIte, if_true, if_false, reduceCtorEq, Nat.reduceAdd, Nat.reduceMul, Nat.reduceLeDiff, Nat.reduceLT, Nat.reduceDiv, Nat.reduceSub, TS T] <;> rfl)) rfl ?_
  refine Wo.nil ?_
  refine hn3 _ ?_
  repeat refine Wc.assoc ?_
  refine Wc.seq fun K4 hn4 hx4 => ?_
  refine Wc.block fun K6 hb6 hx6 => ?_
  have hx0 := Ext.push h (.blk (2 * 3) (rep n [.i .i64 0]) true)
  refine Wc.loop (fun k s => ∃ (i : Nat) (fr : List (Nat × V)) (hi : Hp) (cs : List V), s = ⟨fr, [], hi⟩ ∧ i + k = n ∧ h.n < hi.n ∧ I hi ∧ (∀ b, b < h.n → ¬ W b → hi.get b = h.get b) ∧ hi.get h.n = some (.blk 6 cs true) ∧ cs.length = n ∧ IntCells cs ∧
      look fr 1 = some (.f (.func g) [] caps) ∧ look fr 5 = some (.sl h.n 0 n (some n) 1) ∧ look fr 9 = some (.i .i64 n) ∧ look fr 10 = some (.i .i64 i)) n (by omega) ⟨0, _, _, rep n [.i .i64 0], rfl, by omega, by simp, hloc _ _ hI (Nat.le_refl _) (by simp) (fun b hb => hx0.old b hb), fun b hb _ => hx0.old b hb, by simp, by rw [rows_length]; simp, hzero, rfl, rfl, rfl, rfl⟩ ?_
  rintro k _ ⟨i, fr, hi, cs, rfl, hik, hnn, hIi, hold, hgi, hcl, hint, f1, f5, f9, f10⟩ KL hnL hxL
  repeat refine Wc.assoc ?_
  refine Wc.seq fun K7 hn7 hx7 => ?_
  refine Wc.rg ?_
  refine Wo.val rfl (by simp only [MS, Nat.reduceBEq, Nat.reduceBNe, Nat.reduceEqDiff, reduceIte, if_true, if_false, reduceCtorEq, Nat.reduceAdd, Nat.reduceMul, Nat.reduceLeDiff, Nat.reduceLT, Nat.reduceDiv, Nat.reduceSub, binA, arithA, strA, isC, cval, cv, TS T, f9, f10] <;> rfl) rfl ?_
  refine Wo.nil ?_
  refine hn7 _ ?_
  refine Wc.seq fun K8 hn8 hx8 => ?_
  refine Wc.cond (t := decide ((i : Int) < (n : Int))) rfl (fun hd => ?_) fun hd => ?_
  · refine Wc.skip (hn8 _ ?_)
    have hin : i < n := by have := of_decide_eq_true hd; omega
    refine Wc.seq fun K9 hn9 hx9 => ?_
    refine Wc.block fun K10 hb10 hx10 => ?_
    refine Wc.seq fun K11 hn11 hx11 => ?_
    refine Wc.rg ?_
    refine Wo.val rfl (by first | rfl | (simp only [MS, Nat.reduceBEq, Nat.reduceBNe, Nat.reduceEqDiff, reduceIte, if_true, if_false, reduceCtorEq, Nat.reduceAdd, Nat.reduceMul, Nat.reduceLeDiff, Nat.reduceLT, Nat.reduceDiv, Nat.reduceSub, TS T, f10] <;> rfl)) rfl ?_
    refine Wo.val rfl (by first | rfl | (simp only [MS, Nat.reduceBEq, Nat.reduceBNe, Nat.reduceEqDiff, reduceIte, if_true, if_false, reduceCtorEq, Nat.reduceAdd, Nat.reduceMul, Nat.reduceLeDiff, Nat.reduceLT, Nat.reduceDiv, Nat.reduceSub, cval, cv, TS T, f10] <;> rfl)) rfl ?_
    refine Wo.nil ?_
    refine hn11 _ ?_
    refine Wc.rg ?_
    refine Wo.val rfl (by first | rfl | (simp only [MS, Nat.reduceBEq, Nat.reduceBNe, Nat.reduceEqDiff, reduceIte, if_true, if_false, reduceCtorEq, Nat.reduceAdd, Nat.reduceMul, Nat.reduceLeDiff, Nat.reduceLT, Nat.reduceDiv, Nat.reduceSub, TS T, f1, f5] <;> rfl)) rfl ?_
    refine Wo.val rfl (by first | rfl | (simp only [MS, Nat.reduceBEq, Nat.reduceBNe, Nat.reduceEqDiff, reduceIte, if_true, if_false, reduceCtorEq, Nat.reduceAdd, Nat.reduceMul, Nat.reduceLeDiff, Nat.reduceLT, Nat.reduceDiv, Nat.reduceSub, TS T, f1, f5] <;> rfl)) rfl ?_
    refine Wo.val rfl (by first | rfl | (simp only [MS, Nat.reduceBEq, Nat.reduceBNe, Nat.reduceEqDiff, reduceIte, if_true, if_false, reduceCtorEq, Nat.reduceAdd, Nat.reduceMul, Nat.reduceLeDiff, Nat.reduceLT, Nat.reduceDiv, Nat.reduceSub, TS T, f1, f5] <;> rfl)) rfl ?_
    refine Wo.val rfl (by first | rfl | (simp only [MS, Nat.reduceBEq, Nat.reduceBNe, Nat.reduceEqDiff, reduceIte, if_true, if_false, reduceCtorEq, Nat.reduceAdd, Nat.reduceMul, Nat.reduceLeDiff, Nat.reduceLT, Nat.reduceDiv, Nat.reduceSub, TS T, f1, f5] <;> rfl)) rfl ?_
    refine Wo.cl rfl rfl rfl (by first | rfl | (simp only [MS, Nat.reduceBEq, Nat.reduceBNe, Nat.reduceEqDiff, reduceIte, if_true, if_false, reduceCtorEq, Nat.reduceAdd, Nat.reduceMul, Nat.reduceLeDiff, Nat.reduceLT, Nat.reduceDiv, Nat.reduceSub, cval, cv, TS T, f1, f5] <;> rfl)) (by first | rfl | (simp only [MS, Nat.reduceBEq, Nat.reduceBNe, Nat.reduceEqDiff, reduceIte, if_true, if_false, reduceCtorEq, Nat.reduceAdd, Nat.reduceMul, Nat.reduceLeDiff, Nat.reduceLT, Nat.reduceDiv, Nat.reduceSub, cval, cv, TS T, f1, f5] <;> rfl)) (fun _ => rfl) ?_
    obtain ⟨x, h', hcall, hxw, hnn', hold', hI'⟩ := hg i hi hin hIi
    refine ⟨_, h', hcall, ?_⟩
    have hg' : h'.get h.n = some (.blk 6 cs true) := by rw [hold' _ hnn fun hw => by have := hW _ hw; omega]; exact hgi
    have hia : indexAddrA tb 22 (.sl h.n 0 n (some n) 1) (.i .i64 i) = some (.p h.n i) := by simp [indexAddrA, T.t22, T.t3, hin]
    have hi1 : i + 1 ≤ cs.length := by omega
    refine Wo.val rfl (by simp only [MS, Nat.reduceBEq, Nat.reduceBNe, Nat.reduceEqDiff, reduceIte, if_true, if_false, reduceCtorEq, Nat.reduceAdd, Nat.reduceMul, Nat.reduceLeDiff, Nat.reduceLT, Nat.reduceDiv, Nat.reduceSub, cval, cv, TS T, hia, hg', hi1, and_self] <;> rfl) rfl ?_
    refine Wo.val rfl (by simp only [MS, Nat.reduceBEq, Nat.reduceBNe, Nat.reduceEqDiff, reduceIte, if_true, if_false, reduceCtorEq, Nat.reduceAdd, Nat.reduceMul, Nat.reduceLeDiff, Nat.reduceLT, Nat.reduceDiv, Nat.reduceSub, storeA, setAll, TI.zero, cval, cv, TS T, hia, hg', hi1, and_self] <;> rfl) rfl ?_
    refine Wo.nil ?_
    refine hx10 _ _ (by simp) (hn9 _ ?_)
    have hw := w64 (n := i) (by omega)
    refine Wc.rg ?_
    refine Wo.val rfl (by simp only [MS, Nat.reduceBEq, Nat.reduceBNe, Nat.reduceEqDiff, reduceIte, if_true, if_false, reduceCtorEq, Nat.reduceAdd, Nat.reduceMul, Nat.reduceLeDiff, Nat.reduceLT, Nat.reduceDiv, Nat.reduceSub, binA, arithA, strA, isC, cval, cv, TS T, f10, hw] <;> rfl) rfl ?_
    refine Wo.val rfl (by first | rfl | (simp only [MS, Nat.reduceBEq, Nat.reduceBNe, Nat.reduceEqDiff, reduceIte, if_true, if_false, reduceCtorEq, Nat.reduceAdd, Nat.reduceMul, Nat.reduceLeDiff, Nat.reduceLT, Nat.reduceDiv, Nat.reduceSub, TS T, f10, hw] <;> rfl)) rfl ?_
    refine Wo.nil ?_
    refine hnL _ (k - 1) (by omega) ⟨i + 1, _, _, cs.set i (.i .i64 x), rfl, by omega, by simp; omega, hloc _ _ hI' (by omega) (by simp) (fun b hb => Hp.get_set_ne _ _ (by omega)), fun b hb hwb => ?_, by simp, by simpa using hcl, ?_, by simp [look, f1], by simp [look, f5], by simp [look, f9], rfl⟩
    · rw [Hp.get_set_ne _ _ (by omega), hold' b (by omega) hwb]; exact hold b hb hwb
    · intro j y hy
      rw [List.getElem?_set] at hy
      split at hy
      · split at hy <;> cases hy
        exact ⟨x, rfl, hxw⟩
      · exact hint j y hy
  · refine Wc.exit (hx8 _ _ (by simp) (hxL _ _ (by simp) (hb6 _ (hn4 _ ?_))))
    refine Wc.seq fun K17 hn17 hx17 => ?_
    refine Wc.rg ?_
    refine Wo.val rfl (by first | rfl | (simp only [MS, Nat.reduceBEq, Nat.reduceBNe, Nat.reduceEqDiff, reduceIte, if_true, if_false, reduceCtorEq, Nat.reduceAdd, Nat.reduceMul, Nat.reduceLeDiff, Nat.reduceLT, Nat.reduceDiv, Nat.reduceSub, TS T, f5] <;> rfl)) rfl ?_
    refine Wo.val rfl (by first | rfl | (simp only [MS, Nat.reduceBEq, Nat.reduceBNe, Nat.reduceEqDiff, reduceIte, if_true, if_false, reduceCtorEq, Nat.reduceAdd, Nat.reduceMul, Nat.reduceLeDiff, Nat.reduceLT, Nat.reduceDiv, Nat.reduceSub, cval, cv, TS T, f5] <;> rfl)) rfl ?_
    refine Wo.nil ?_
    exact hn17 _ (Wc.ret (hr0 _ _ [_] rfl ⟨rfl, hnn, hold, cs, hgi, hcl, hint⟩))

end Go.Mx

/- The seat's layer: its functions. -/
namespace Go.Mx
open Go.Proofs
set_option maxRecDepth 100000
set_option maxHeartbeats 2000000

theorem S.f32_ok {tb fc} (T : S.Ty tb) {call call' : Caller} {lf : Nat} (hc : ∀ args h, call' (.fn 32) args h = runF tb fc call lf Tryz.f32 args h)
    (h33 : ∀ (a b r i : Int), 1 ≤ r → r ≤ 1000 → ∀ h, ∃ x : Int, call (.fn 33) [.i .i64 a, .i .i64 b, .i .i64 r, .i .i64 i] h = some (.ret (.i .i64 x), h) ∧ IntKind.i64.wrap x = x)
    {h : Hp} {a b r i : Int} {p q s t1 t2 t3 : Nat} {w1 w2 w3 : Bool} (h1 : 1 ≤ r) (h2 : r ≤ 1000) (hp : h.get p = some (.blk t1 [.i .i64 a] w1)) (hq : h.get q = some (.blk t2 [.i .i64 b] w2)) (hs : h.get s = some (.blk t3 [.i .i64 r] w3)) :
    ∃ x : Int, call' (.fn 32) [.i .i64 i, .p p 0, .p q 0, .p s 0] h = some (.ret (.i .i64 x), h) ∧ IntKind.i64.wrap x = x := by
  suffices H : Wf tb fc call lf Tryz.f32 [.i .i64 i, .p p 0, .p q 0, .p s 0] h (fun w h' => ∃ e : Int, w = .i .i64 e ∧ h' = h ∧ IntKind.i64.wrap e = e) by
    obtain ⟨w, h', h1, e, rfl, rfl, h2⟩ := H
    exact ⟨e, by rw [hc]; exact h1, h2⟩
  refine Wf.intro (sz := 11) rfl rfl fun K hn0 hr0 => ?_
  repeat refine Wc.assoc ?_
  refine Wc.seq fun K1 hn1 hx1 => ?_
  refine Wc.rg ?_
  refine Wo.val rfl (by first | rfl | (simp only [MS, Nat.reduceBEq, Nat.reduceBNe, Nat.reduceEqDiff, reduceIte, if_true, if_false, reduceCtorEq, Nat.reduceAdd, Nat.reduceMul, Nat.reduceLeDiff, Nat.reduceLT, Nat.reduceDiv, Nat.reduceSub, cval, cv, TS T] <;> rfl)) rfl ?_
  refine Wo.nil ?_
  refine hn1 _ ?_
  refine Wc.seq fun K2 hn2 hx2 => ?_
  refine Wc.rg ?_
  refine Wo.val rfl (by simp only [MS, Nat.reduceBEq, Nat.reduceBNe, Nat.reduceEqDiff, reduceIte, if_true, if_false, reduceCtorEq, Nat.reduceAdd, Nat.reduceMul, Nat.reduceLeDiff, Nat.reduceLT, Nat.reduceDiv, Nat.reduceSub, loadA, partV, TS T, hp, hq, hs] <;> rfl) rfl ?_
  refine Wo.val rfl (by simp only [MS, Nat.reduceBEq, Nat.reduceBNe, Nat.reduceEqDiff, reduceIte, if_true, if_false, reduceCtorEq, Nat.reduceAdd, Nat.reduceMul, Nat.reduceLeDiff, Nat.reduceLT, Nat.reduceDiv, Nat.reduceSub, loadA, partV, TS T, hp, hq, hs] <;> rfl) rfl ?_
  refine Wo.val rfl (by simp only [MS, Nat.reduceBEq, Nat.reduceBNe, Nat.reduceEqDiff, reduceIte, if_true, if_false, reduceCtorEq, Nat.reduceAdd, Nat.reduceMul, Nat.reduceLeDiff, Nat.reduceLT, Nat.reduceDiv, Nat.reduceSub, loadA, partV, TS T, hp, hq, hs] <;> rfl) rfl ?_
  refine Wo.val rfl (by first | rfl | (simp only [MS, Nat.reduceBEq, Nat.reduceBNe, Nat.reduceEqDiff, reduceIte, if_true, if_false, reduceCtorEq, Nat.reduceAdd, Nat.reduceMul, Nat.reduceLeDiff, Nat.reduceLT, Nat.reduceDiv, Nat.reduceSub, TS T, hp, hq, hs] <;> rfl)) rfl ?_
  refine Wo.cl rfl rfl rfl (by first | rfl | (simp only [MS, Nat.reduceBEq, Nat.reduceBNe, Nat.reduceEqDiff, reduceIte, if_true, if_false, reduceCtorEq, Nat.reduceAdd, Nat.reduceMul, Nat.reduceLeDiff, Nat.reduceLT, Nat.reduceDiv, Nat.reduceSub, cval, cv, TS T, hp, hq, hs] <;> rfl)) (by first | rfl | (simp only [MS, Nat.reduceBEq, Nat.reduceBNe, Nat.reduceEqDiff, reduceIte, if_true, if_false, reduceCtorEq, Nat.reduceAdd, Nat.reduceMul, Nat.reduceLeDiff, Nat.reduceLT, Nat.reduceDiv, Nat.reduceSub, cval, cv, TS T, hp, hq, hs] <;> rfl)) (fun _ => rfl) ?_
  obtain ⟨x, hcall, hx⟩ := h33 a b r i h1 h2 h
  refine ⟨_, h, hcall, ?_⟩
  refine Wo.val rfl (by first | rfl | (simp only [MS, Nat.reduceBEq, Nat.reduceBNe, Nat.reduceEqDiff, reduceIte, if_true, if_false, reduceCtorEq, Nat.reduceAdd, Nat.reduceMul, Nat.reduceLeDiff, Nat.reduceLT, Nat.reduceDiv, Nat.reduceSub, cval, cv, TS T] <;> rfl)) rfl ?_
  refine Wo.nil ?_
  exact hn2 _ (Wc.ret (hr0 _ _ [_] rfl ⟨_, rfl, rfl, hx⟩))

theorem S.f35_ok {tb fc} (T : S.Ty tb) {call call' : Caller} {lf : Nat} (hc : ∀ args h, call' (.fn 35) args h = runF tb fc call lf Tryz.f35 args h)
    (h33 : ∀ (a b r i : Int), 1 ≤ r → r ≤ 1000 → ∀ h, ∃ x : Int, call (.fn 33) [.i .i64 a, .i .i64 b, .i .i64 r, .i .i64 i] h = some (.ret (.i .i64 x), h) ∧ IntKind.i64.wrap x = x)
    {h : Hp} {a b r i : Int} {p q s t1 t2 t3 : Nat} {w1 w2 w3 : Bool} (h1 : 1 ≤ r) (h2 : r ≤ 1000) (hp : h.get p = some (.blk t1 [.i .i64 a] w1)) (hq : h.get q = some (.blk t2 [.i .i64 b] w2)) (hs : h.get s = some (.blk t3 [.i .i64 r] w3)) :
    ∃ x : Int, call' (.fn 35) [.i .i64 i, .p s 0, .p p 0, .p q 0] h = some (.ret (.i .i64 x), h) ∧ IntKind.i64.wrap x = x := by
  suffices H : Wf tb fc call lf Tryz.f35 [.i .i64 i, .p s 0, .p p 0, .p q 0] h (fun w h' => ∃ e : Int, w = .i .i64 e ∧ h' = h ∧ IntKind.i64.wrap e = e) by
    obtain ⟨w, h', h1, e, rfl, rfl, h2⟩ := H
    exact ⟨e, by rw [hc]; exact h1, h2⟩
  refine Wf.intro (sz := 18) rfl rfl fun K hn0 hr0 => ?_
  repeat refine Wc.assoc ?_
  refine Wc.seq fun K1 hn1 hx1 => ?_
  refine Wc.rg ?_
  refine Wo.val rfl (by first | rfl | (simp only [MS, Nat.reduceBEq, Nat.reduceBNe, Nat.reduceEqDiff, reduceIte, if_true, if_false, reduceCtorEq, Nat.reduceAdd, Nat.reduceMul, Nat.reduceLeDiff, Nat.reduceLT, Nat.reduceDiv, Nat.reduceSub, cval, cv, TS T] <;> rfl)) rfl ?_
  refine Wo.nil ?_
  refine hn1 _ ?_
  repeat refine Wc.assoc ?_
  refine Wc.seq fun K2 hn2 hx2 => ?_
  refine Wc.rg ?_
  refine Wo.val rfl (by first | rfl | (simp only [MS, Nat.reduceBEq, Nat.reduceBNe, Nat.reduceEqDiff, reduceIte, if_true, if_false, reduceCtorEq, Nat.reduceAdd, Nat.reduceMul, Nat.reduceLeDiff, Nat.reduceLT, Nat.reduceDiv, Nat.reduceSub, TS T, hs] <;> rfl)) rfl ?_
  refine Wo.val rfl (by simp only [MS, Nat.reduceBEq, Nat.reduceBNe, Nat.reduceEqDiff, reduceIte, if_true, if_false, reduceCtorEq, Nat.reduceAdd, Nat.reduceMul, Nat.reduceLeDiff, Nat.reduceLT, Nat.reduceDiv, Nat.reduceSub, loadA, partV, TS T, hs] <;> rfl) rfl ?_
  refine Wo.val rfl (by simp only [MS, Nat.reduceBEq, Nat.reduceBNe, Nat.reduceEqDiff, reduceIte, if_true, if_false, reduceCtorEq, Nat.reduceAdd, Nat.reduceMul, Nat.reduceLeDiff, Nat.reduceLT, Nat.reduceDiv, Nat.reduceSub, binA, arithA, strA, isC, cval, cv, TS T, hs] <;> rfl) rfl ?_
  refine Wo.nil ?_
  refine hn2 _ ?_
  repeat refine Wc.assoc ?_
  refine Wc.seq fun K3 hn3 hx3 => ?_
  have go : ∀ fr (j : Int), look fr 0 = some (.i .i64 j) → look fr 1 = some (.p s 0) → look fr 2 = some (.p p 0) → look fr 3 = some (.p q 0) → K3 .normal ⟨fr, [], h⟩ := by
    intro fr j f0 f1 f2 f3
    refine hn3 _ ?_
    repeat refine Wc.assoc ?_
    refine Wc.seq fun K4 hn4 hx4 => ?_
    refine Wc.rg ?_
    refine Wo.val rfl (by simp only [MS, Nat.reduceBEq, Nat.reduceBNe, Nat.reduceEqDiff, reduceIte, if_true, if_false, reduceCtorEq, Nat.reduceAdd, Nat.reduceMul, Nat.reduceLeDiff, Nat.reduceLT, Nat.reduceDiv, Nat.reduceSub, loadA, partV, TS T, hp, hq, hs, f0, f1, f2, f3] <;> rfl) rfl ?_
    refine Wo.val rfl (by simp only [MS, Nat.reduceBEq, Nat.reduceBNe, Nat.reduceEqDiff, reduceIte, if_true, if_false, reduceCtorEq, Nat.reduceAdd, Nat.reduceMul, Nat.reduceLeDiff, Nat.reduceLT, Nat.reduceDiv, Nat.reduceSub, loadA, partV, TS T, hp, hq, hs, f0, f1, f2, f3] <;> rfl) rfl ?_
    refine Wo.val rfl (by simp only [MS, Nat.reduceBEq, Nat.reduceBNe, Nat.reduceEqDiff, reduceIte, if_true, if_false, reduceCtorEq, Nat.reduceAdd, Nat.reduceMul, Nat.reduceLeDiff, Nat.reduceLT, Nat.reduceDiv, Nat.reduceSub, loadA, partV, TS T, hp, hq, hs, f0, f1, f2, f3] <;> rfl) rfl ?_
    refine Wo.val rfl (by first | rfl | (simp only [MS, Nat.reduceBEq, Nat.reduceBNe, Nat.reduceEqDiff, reduceIte, if_true, if_false, reduceCtorEq, Nat.reduceAdd, Nat.reduceMul, Nat.reduceLeDiff, Nat.reduceLT, Nat.reduceDiv, Nat.reduceSub, TS T, hp, hq, hs, f0, f1, f2, f3] <;> rfl)) rfl ?_
    refine Wo.cl rfl rfl rfl (by first | rfl | (simp only [MS, Nat.reduceBEq, Nat.reduceBNe, Nat.reduceEqDiff, reduceIte, if_true, if_false, reduceCtorEq, Nat.reduceAdd, Nat.reduceMul, Nat.reduceLeDiff, Nat.reduceLT, Nat.reduceDiv, Nat.reduceSub, cval, cv, TS T, hp, hq, hs, f0, f1, f2, f3] <;> rfl)) (by first | rfl | (simp only [MS, Nat.reduceBEq, Nat.reduceBNe, Nat.reduceEqDiff, reduceIte, if_true, if_false, reduceCtorEq, Nat.reduceAdd, Nat.reduceMul, Nat.reduceLeDiff, Nat.reduceLT, Nat.reduceDiv, Nat.reduceSub, cval, cv, TS T, hp, hq, hs, f0, f1, f2, f3] <;> rfl)) (fun _ => rfl) ?_
    obtain ⟨x, hcall, hx⟩ := h33 a b r j h1 h2 h
    refine ⟨_, h, hcall, ?_⟩
    refine Wo.val rfl (by first | rfl | (simp only [MS, Nat.reduceBEq, Nat.reduceBNe, Nat.reduceEqDiff, reduceIte, if_true, if_false, reduceCtorEq, Nat.reduceAdd, Nat.reduceMul, Nat.reduceLeDiff, Nat.reduceLT, Nat.reduceDiv, Nat.reduceSub, cval, cv, TS T] <;> rfl)) rfl ?_
    refine Wo.nil ?_
    exact hn4 _ (Wc.ret (hr0 _ _ [_] rfl ⟨_, rfl, rfl, hx⟩))
  refine Wc.cond (t := decide (i < r)) rfl (fun _ => ?_) fun _ => ?_
  · refine Wc.rg ?_
    refine Wo.val rfl (by first | rfl | (simp only [MS, Nat.reduceBEq, Nat.reduceBNe, Nat.reduceEqDiff, reduceIte, if_true, if_false, reduceCtorEq, Nat.reduceAdd, Nat.reduceMul, Nat.reduceLeDiff, Nat.reduceLT, Nat.reduceDiv, Nat.reduceSub, TS T] <;> rfl)) rfl ?_
    refine Wo.val rfl (by first | rfl | (simp only [MS, Nat.reduceBEq, Nat.reduceBNe, Nat.reduceEqDiff, reduceIte, if_true, if_false, reduceCtorEq, Nat.reduceAdd, Nat.reduceMul, Nat.reduceLeDiff, Nat.reduceLT, Nat.reduceDiv, Nat.reduceSub, TS T] <;> rfl)) rfl ?_
    refine Wo.val rfl (by simp only [MS, Nat.reduceBEq, Nat.reduceBNe, Nat.reduceEqDiff, reduceIte, if_true, if_false, reduceCtorEq, Nat.reduceAdd, Nat.reduceMul, Nat.reduceLeDiff, Nat.reduceLT, Nat.reduceDiv, Nat.reduceSub, binA, arithA, strA, isC, cval, cv, TS T] <;> rfl) rfl ?_
    refine Wo.val rfl (by simp only [MS, Nat.reduceBEq, Nat.reduceBNe, Nat.reduceEqDiff, reduceIte, if_true, if_false, reduceCtorEq, Nat.reduceAdd, Nat.reduceMul, Nat.reduceLeDiff, Nat.reduceLT, Nat.reduceDiv, Nat.reduceSub, binA, arithA, strA, isC, cval, cv, TS T] <;> rfl) rfl ?_
    refine Wo.val rfl (by first | rfl | (simp only [MS, Nat.reduceBEq, Nat.reduceBNe, Nat.reduceEqDiff, reduceIte, if_true, if_false, reduceCtorEq, Nat.reduceAdd, Nat.reduceMul, Nat.reduceLeDiff, Nat.reduceLT, Nat.reduceDiv, Nat.reduceSub, cval, cv, TS T] <;> rfl)) rfl ?_
    refine Wo.nil ?_
    exact go _ _ rfl rfl rfl rfl
  · exact Wc.skip (go _ _ rfl rfl rfl rfl)

theorem S.f39_ok {tb fc} (T : S.Ty tb) {call call' : Caller} {lf : Nat} (hc : ∀ args h, call' (.fn 39) args h = runF tb fc call lf Tryz.f39 args h)
    {h : Hp} {r c i : Int} {p q t1 t2 : Nat} {w1 w2 : Bool} (h1 : 1 ≤ c) (h2 : c ≤ 1000) (hp : h.get p = some (.blk t1 [.i .i64 r] w1)) (hq : h.get q = some (.blk t2 [.i .i64 c] w2)) :
    ∃ x : Int, call' (.fn 39) [.i .i64 i, .p p 0, .p q 0] h = some (.ret (.i .i64 x), h) ∧ IntKind.i64.wrap x = x := by
  suffices H : Wf tb fc call lf Tryz.f39 [.i .i64 i, .p p 0, .p q 0] h (fun w h' => ∃ e : Int, w = .i .i64 e ∧ h' = h ∧ IntKind.i64.wrap e = e) by
    obtain ⟨w, h', h1, e, rfl, rfl, h2⟩ := H
    exact ⟨e, by rw [hc]; exact h1, h2⟩
  have hne := ne2 (n := c) h1 (by omega)
  refine Wf.intro (sz := 13) rfl rfl fun K hn0 hr0 => ?_
  repeat refine Wc.assoc ?_
  refine Wc.seq fun K1 hn1 hx1 => ?_
  refine Wc.rg ?_
  refine Wo.val rfl (by first | rfl | (simp only [MS, Nat.reduceBEq, Nat.reduceBNe, Nat.reduceEqDiff, reduceIte, if_true, if_false, reduceCtorEq, Nat.reduceAdd, Nat.reduceMul, Nat.reduceLeDiff, Nat.reduceLT, Nat.reduceDiv, Nat.reduceSub, cval, cv, TS T] <;> rfl)) rfl ?_
  refine Wo.nil ?_
  refine hn1 _ ?_
  refine Wc.seq fun K2 hn2 hx2 => ?_
  refine Wc.rg ?_
  refine Wo.val rfl (by first | rfl | (simp only [MS, Nat.reduceBEq, Nat.reduceBNe, Nat.reduceEqDiff, reduceIte, if_true, if_false, reduceCtorEq, Nat.reduceAdd, Nat.reduceMul, Nat.reduceLeDiff, Nat.reduceLT, Nat.reduceDiv, Nat.reduceSub, TS T, hp, hq, hne] <;> rfl)) rfl ?_
  refine Wo.val rfl (by simp only [MS, Nat.reduceBEq, Nat.reduceBNe, Nat.reduceEqDiff, reduceIte, if_true, if_false, reduceCtorEq, Nat.reduceAdd, Nat.reduceMul, Nat.reduceLeDiff, Nat.reduceLT, Nat.reduceDiv, Nat.reduceSub, binA, arithA, strA, isC, cval, cv, TS T, hp, hq, hne] <;> rfl) rfl ?_
  refine Wo.val rfl (by simp only [MS, Nat.reduceBEq, Nat.reduceBNe, Nat.reduceEqDiff, reduceIte, if_true, if_false, reduceCtorEq, Nat.reduceAdd, Nat.reduceMul, Nat.reduceLeDiff, Nat.reduceLT, Nat.reduceDiv, Nat.reduceSub, binA, arithA, strA, isC, cval, cv, TS T, hp, hq, hne] <;> rfl) rfl ?_
  refine Wo.val rfl (by simp only [MS, Nat.reduceBEq, Nat.reduceBNe, Nat.reduceEqDiff, reduceIte, if_true, if_false, reduceCtorEq, Nat.reduceAdd, Nat.reduceMul, Nat.reduceLeDiff, Nat.reduceLT, Nat.reduceDiv, Nat.reduceSub, loadA, partV, TS T, hp, hq, hne] <;> rfl) rfl ?_
  refine Wo.val rfl (by simp only [MS, Nat.reduceBEq, Nat.reduceBNe, Nat.reduceEqDiff, reduceIte, if_true, if_false, reduceCtorEq, Nat.reduceAdd, Nat.reduceMul, Nat.reduceLeDiff, Nat.reduceLT, Nat.reduceDiv, Nat.reduceSub, binA, arithA, strA, isC, cval, cv, TS T, hp, hq, hne] <;> rfl) rfl ?_
  refine Wo.val rfl (by simp only [MS, Nat.reduceBEq, Nat.reduceBNe, Nat.reduceEqDiff, reduceIte, if_true, if_false, reduceCtorEq, Nat.reduceAdd, Nat.reduceMul, Nat.reduceLeDiff, Nat.reduceLT, Nat.reduceDiv, Nat.reduceSub, loadA, partV, TS T, hp, hq, hne] <;> rfl) rfl ?_
  refine Wo.val rfl (by simp only [MS, Nat.reduceBEq, Nat.reduceBNe, Nat.reduceEqDiff, reduceIte, if_true, if_false, reduceCtorEq, Nat.reduceAdd, Nat.reduceMul, Nat.reduceLeDiff, Nat.reduceLT, Nat.reduceDiv, Nat.reduceSub, binA, arithA, strA, isC, cval, cv, TS T, hp, hq, hne] <;> rfl) rfl ?_
  refine Wo.val rfl (by simp only [MS, Nat.reduceBEq, Nat.reduceBNe, Nat.reduceEqDiff, reduceIte, if_true, if_false, reduceCtorEq, Nat.reduceAdd, Nat.reduceMul, Nat.reduceLeDiff, Nat.reduceLT, Nat.reduceDiv, Nat.reduceSub, binA, arithA, strA, isC, cval, cv, TS T, hp, hq, hne] <;> rfl) rfl ?_
  refine Wo.val rfl (by first | rfl | (simp only [MS, Nat.reduceBEq, Nat.reduceBNe, Nat.reduceEqDiff, reduceIte, if_true, if_false, reduceCtorEq, Nat.reduceAdd, Nat.reduceMul, Nat.reduceLeDiff, Nat.reduceLT, Nat.reduceDiv, Nat.reduceSub, cval, cv, TS T, hp, hq, hne] <;> rfl)) rfl ?_
  refine Wo.nil ?_
  exact hn2 _ (Wc.ret (hr0 _ _ [_] rfl ⟨_, rfl, rfl, wrap_wrap _ _⟩))

theorem S.f40_ok {tb fc} (T : S.Ty tb) {call call' : Caller} {lf : Nat} (hc : ∀ args h, call' (.fn 40) args h = runF tb fc call lf Tryz.f40 args h)
    {h : Hp} {r c i e : Int} {p q s t1 t2 t3 : Nat} {w1 w2 : Bool} (h1 : 1 ≤ c) (hs : h.get s = some (.blk t3 [.i .i64 e] true)) (hp : h.get p = some (.blk t1 [.i .i64 r] w1)) (hq : h.get q = some (.blk t2 [.i .i64 c] w2)) :
    ∃ x y : Int, call' (.fn 40) [.i .i64 i, .p s 0, .p p 0, .p q 0] h = some (.ret (.i .i64 x), h.set s (.blk t3 [.i .i64 y] true)) ∧ IntKind.i64.wrap x = x := by
  suffices H : Wf tb fc call lf Tryz.f40 [.i .i64 i, .p s 0, .p p 0, .p q 0] h (fun w h' => ∃ x y : Int, w = .i .i64 x ∧ h' = h.set s (.blk t3 [.i .i64 y] true) ∧ IntKind.i64.wrap x = x) by
    obtain ⟨w, h', h1, x, y, rfl, rfl, h2⟩ := H
    exact ⟨x, y, by rw [hc]; exact h1, h2⟩
  have hne : c ≠ 0 := by omega
  refine Wf.intro (sz := 17) rfl rfl fun K hn0 hr0 => ?_
  repeat refine Wc.assoc ?_
  refine Wc.seq fun K1 hn1 hx1 => ?_
  refine Wc.rg ?_
  refine Wo.val rfl (by first | rfl | (simp only [MS, Nat.reduceBEq, Nat.reduceBNe, Nat.reduceEqDiff, reduceIte, if_true, if_false, reduceCtorEq, Nat.reduceAdd, Nat.reduceMul, Nat.reduceLeDiff, Nat.reduceLT, Nat.reduceDiv, Nat.reduceSub, cval, cv, TS T] <;> rfl)) rfl ?_
  refine Wo.nil ?_
  refine hn1 _ ?_
  repeat refine Wc.assoc ?_
  refine Wc.seq fun K2 hn2 hx2 => ?_
  refine Wc.rg ?_
  refine Wo.val rfl (by simp only [MS, Nat.reduceBEq, Nat.reduceBNe, Nat.reduceEqDiff, reduceIte, if_true, if_false, reduceCtorEq, Nat.reduceAdd, Nat.reduceMul, Nat.reduceLeDiff, Nat.reduceLT, Nat.reduceDiv, Nat.reduceSub, loadA, partV, TS T, hs] <;> rfl) rfl ?_
  refine Wo.val rfl (by first | rfl | (simp only [MS, Nat.reduceBEq, Nat.reduceBNe, Nat.reduceEqDiff, reduceIte, if_true, if_false, reduceCtorEq, Nat.reduceAdd, Nat.reduceMul, Nat.reduceLeDiff, Nat.reduceLT, Nat.reduceDiv, Nat.reduceSub, cval, cv, TS T, hs] <;> rfl)) rfl ?_
  refine Wo.nil ?_
  refine hn2 _ ?_
  repeat refine Wc.assoc ?_
  refine Wc.seq fun K3 hn3 hx3 => ?_
  refine Wc.rg ?_
  refine Wo.val rfl (by first | rfl | (simp only [MS, Nat.reduceBEq, Nat.reduceBNe, Nat.reduceEqDiff, reduceIte, if_true, if_false, reduceCtorEq, Nat.reduceAdd, Nat.reduceMul, Nat.reduceLeDiff, Nat.reduceLT, Nat.reduceDiv, Nat.reduceSub, TS T, hs, hp, hq, hne, and_self] <;> rfl)) rfl ?_
  refine Wo.val rfl (by simp only [MS, Nat.reduceBEq, Nat.reduceBNe, Nat.reduceEqDiff, reduceIte, if_true, if_false, reduceCtorEq, Nat.reduceAdd, Nat.reduceMul, Nat.reduceLeDiff, Nat.reduceLT, Nat.reduceDiv, Nat.reduceSub, binA, arithA, strA, isC, cval, cv, TS T, hs, hp, hq, hne, and_self] <;> rfl) rfl ?_
  refine Wo.val rfl (by simp only [MS, Nat.reduceBEq, Nat.reduceBNe, Nat.reduceEqDiff, reduceIte, if_true, if_false, reduceCtorEq, Nat.reduceAdd, Nat.reduceMul, Nat.reduceLeDiff, Nat.reduceLT, Nat.reduceDiv, Nat.reduceSub, loadA, partV, TS T, hs, hp, hq, hne, and_self] <;> rfl) rfl ?_
  refine Wo.val rfl (by simp only [MS, Nat.reduceBEq, Nat.reduceBNe, Nat.reduceEqDiff, reduceIte, if_true, if_false, reduceCtorEq, Nat.reduceAdd, Nat.reduceMul, Nat.reduceLeDiff, Nat.reduceLT, Nat.reduceDiv, Nat.reduceSub, binA, arithA, strA, isC, cval, cv, TS T, hs, hp, hq, hne, and_self] <;> rfl) rfl ?_
  refine Wo.val rfl (by simp only [MS, Nat.reduceBEq, Nat.reduceBNe, Nat.reduceEqDiff, reduceIte, if_true, if_false, reduceCtorEq, Nat.reduceAdd, Nat.reduceMul, Nat.reduceLeDiff, Nat.reduceLT, Nat.reduceDiv, Nat.reduceSub, loadA, partV, TS T, hs, hp, hq, hne, and_self] <;> rfl) rfl ?_
  refine Wo.val rfl (by simp only [MS, Nat.reduceBEq, Nat.reduceBNe, Nat.reduceEqDiff, reduceIte, if_true, if_false, reduceCtorEq, Nat.reduceAdd, Nat.reduceMul, Nat.reduceLeDiff, Nat.reduceLT, Nat.reduceDiv, Nat.reduceSub, binA, arithA, strA, isC, cval, cv, TS T, hs, hp, hq, hne, and_self] <;> rfl) rfl ?_
  refine Wo.val rfl (by simp only [MS, Nat.reduceBEq, Nat.reduceBNe, Nat.reduceEqDiff, reduceIte, if_true, if_false, reduceCtorEq, Nat.reduceAdd, Nat.reduceMul, Nat.reduceLeDiff, Nat.reduceLT, Nat.reduceDiv, Nat.reduceSub, storeA, setAll, TI.zero, cval, cv, TS T, hs, hp, hq, hne, and_self] <;> rfl) rfl ?_
  refine Wo.nil ?_
  refine hn3 _ ?_
  refine Wc.seq fun K4 hn4 hx4 => ?_
  refine Wc.rg ?_
  refine Wo.val rfl (by simp only [MS, Nat.reduceBEq, Nat.reduceBNe, Nat.reduceEqDiff, reduceIte, if_true, if_false, reduceCtorEq, Nat.reduceAdd, Nat.reduceMul, Nat.reduceLeDiff, Nat.reduceLT, Nat.reduceDiv, Nat.reduceSub, loadA, partV, TS T] <;> rfl) rfl ?_
  refine Wo.val rfl (by first | rfl | (simp only [MS, Nat.reduceBEq, Nat.reduceBNe, Nat.reduceEqDiff, reduceIte, if_true, if_false, reduceCtorEq, Nat.reduceAdd, Nat.reduceMul, Nat.reduceLeDiff, Nat.reduceLT, Nat.reduceDiv, Nat.reduceSub, TS T] <;> rfl)) rfl ?_
  refine Wo.val rfl (by simp only [MS, Nat.reduceBEq, Nat.reduceBNe, Nat.reduceEqDiff, reduceIte, if_true, if_false, reduceCtorEq, Nat.reduceAdd, Nat.reduceMul, Nat.reduceLeDiff, Nat.reduceLT, Nat.reduceDiv, Nat.reduceSub, binA, arithA, strA, isC, cval, cv, TS T] <;> rfl) rfl ?_
  refine Wo.val rfl (by first | rfl | (simp only [MS, Nat.reduceBEq, Nat.reduceBNe, Nat.reduceEqDiff, reduceIte, if_true, if_false, reduceCtorEq, Nat.reduceAdd, Nat.reduceMul, Nat.reduceLeDiff, Nat.reduceLT, Nat.reduceDiv, Nat.reduceSub, cval, cv, TS T] <;> rfl)) rfl ?_
  refine Wo.nil ?_
  exact hn4 _ (Wc.ret (hr0 _ _ [_] rfl ⟨_, _, rfl, rfl, wrap_wrap _ _⟩))

theorem S.f37_ok {tb fc} (T : S.Ty tb) {call call' : Caller} {lf : Nat} (hc : ∀ args h, call' (.fn 37) args h = runF tb fc call lf Tryz.f37 args h)
    {h : Hp} {v : V} {i : Nat} {x y : Int} {p t1 b1 b2 o1 o2 : Nat} {w1 : Bool} (hi : i ≤ 1000000) (hp : h.get p = some (.blk t1 [v] w1))
    (hx : indexAddrA tb 22 v (.i .i64 ((i + 1 : Nat) : Int)) = some (.p b1 o1)) (hx' : loadA tb h 3 (.p b1 o1) = some (.i .i64 x)) (hy : indexAddrA tb 22 v (.i .i64 (i : Int)) = some (.p b2 o2)) (hy' : loadA tb h 3 (.p b2 o2) = some (.i .i64 y)) (hpl : loadA tb h 22 (.p p 0) = some v) :
    ∃ z : Int, call' (.fn 37) [.i .i64 i, .p p 0] h = some (.ret (.i .i64 z), h) ∧ IntKind.i64.wrap z = z := by
  suffices H : Wf tb fc call lf Tryz.f37 [.i .i64 i, .p p 0] h (fun w h' => ∃ e : Int, w = .i .i64 e ∧ h' = h ∧ IntKind.i64.wrap e = e) by
    obtain ⟨w, h', h1, e, rfl, rfl, h2⟩ := H
    exact ⟨e, by rw [hc]; exact h1, h2⟩
  have hw := w64 (n := i) (by omega)
  refine Wf.intro (sz := 14) rfl rfl fun K hn0 hr0 => ?_
  repeat refine Wc.assoc ?_
  refine Wc.seq fun K1 hn1 hx1 => ?_
  refine Wc.rg ?_
  refine Wo.val rfl (by first | rfl | (simp only [MS, Nat.reduceBEq, Nat.reduceBNe, Nat.reduceEqDiff, reduceIte, if_true, if_false, reduceCtorEq, Nat.reduceAdd, Nat.reduceMul, Nat.reduceLeDiff, Nat.reduceLT, Nat.reduceDiv, Nat.reduceSub, cval, cv, TS T] <;> rfl)) rfl ?_
  refine Wo.nil ?_
  refine hn1 _ ?_
  refine Wc.seq fun K2 hn2 hx2 => ?_
  refine Wc.drawn [.p 0 [4, 5, 6, 7, 8, 9, 10, 11, 12, 13] none, .p 1 [4, 5, 6, 7, 8, 9, 10, 11, 12, 13] none, .p 2 [4, 6, 7, 8, 9, 10, 11, 12, 13] none, .p 3 [7, 8, 9, 10, 11, 12, 13] none, .p 4 [8, 9, 10, 11, 12, 13] none, .p 5 [4, 5, 6, 7, 8, 9, 10, 11, 12, 13] none, .p 6 [4, 5, 6, 7, 8, 9, 10, 11, 12, 13] none, .p 7 [4, 5, 6, 7, 8, 11, 12, 13] none, .p 8 [4, 5, 6, 7, 8, 12, 13] none, .p 9 [13] none, .e 10 [3] none 1023] (by kernel_rfl) ?_
  refine Wz.ld rfl rfl rfl (by simp only [MS, Nat.reduceBEq, Nat.reduceBNe, Nat.reduceEqDiff, reduceIte, if_true, if_false, reduceCtorEq, Nat.reduceAdd, Nat.reduceMul, Nat.reduceLeDiff, Nat.reduceLT, Nat.reduceDiv, Nat.reduceSub, partV, evR, List.contains, List.elem, TS T, hpl, hw, hx, hx', hy, hy'] <;> rfl) rfl ?_
  refine Wz.v rfl rfl rfl (by first | rfl | (simp only [MS, Nat.reduceBEq, Nat.reduceBNe, Nat.reduceEqDiff, reduceIte, if_true, if_false, reduceCtorEq, Nat.reduceAdd, Nat.reduceMul, Nat.reduceLeDiff, Nat.reduceLT, Nat.reduceDiv, Nat.reduceSub, evR, List.contains, List.elem, TS T, hpl, hw, hx, hx', hy, hy'] <;> rfl)) rfl ?_
  refine Wz.v rfl rfl rfl (by simp only [MS, Nat.reduceBEq, Nat.reduceBNe, Nat.reduceEqDiff, reduceIte, if_true, if_false, reduceCtorEq, Nat.reduceAdd, Nat.reduceMul, Nat.reduceLeDiff, Nat.reduceLT, Nat.reduceDiv, Nat.reduceSub, binA, arithA, strA, isC, cval, cv, evR, List.contains, List.elem, TS T, hpl, hw, hx, hx', hy, hy'] <;> rfl) rfl ?_
  refine Wz.v rfl rfl rfl (by simp only [MS, Nat.reduceBEq, Nat.reduceBNe, Nat.reduceEqDiff, reduceIte, if_true, if_false, reduceCtorEq, Nat.reduceAdd, Nat.reduceMul, Nat.reduceLeDiff, Nat.reduceLT, Nat.reduceDiv, Nat.reduceSub, cval, cv, evR, List.contains, List.elem, TS T, hpl, hw, hx, hx', hy, hy'] <;> rfl) rfl ?_
  refine Wz.ld rfl rfl rfl (by simp only [MS, Nat.reduceBEq, Nat.reduceBNe, Nat.reduceEqDiff, reduceIte, if_true, if_false, reduceCtorEq, Nat.reduceAdd, Nat.reduceMul, Nat.reduceLeDiff, Nat.reduceLT, Nat.reduceDiv, Nat.reduceSub, partV, evR, List.contains, List.elem, TS T, hpl, hw, hx, hx', hy, hy'] <;> rfl) rfl ?_
  refine Wz.ld rfl rfl rfl (by simp only [MS, Nat.reduceBEq, Nat.reduceBNe, Nat.reduceEqDiff, reduceIte, if_true, if_false, reduceCtorEq, Nat.reduceAdd, Nat.reduceMul, Nat.reduceLeDiff, Nat.reduceLT, Nat.reduceDiv, Nat.reduceSub, partV, evR, List.contains, List.elem, TS T, hpl, hw, hx, hx', hy, hy'] <;> rfl) rfl ?_
  refine Wz.v rfl rfl rfl (by first | rfl | (simp only [MS, Nat.reduceBEq, Nat.reduceBNe, Nat.reduceEqDiff, reduceIte, if_true, if_false, reduceCtorEq, Nat.reduceAdd, Nat.reduceMul, Nat.reduceLeDiff, Nat.reduceLT, Nat.reduceDiv, Nat.reduceSub, evR, List.contains, List.elem, TS T, hpl, hw, hx, hx', hy, hy'] <;> rfl)) rfl ?_
  refine Wz.v rfl rfl rfl (by simp only [MS, Nat.reduceBEq, Nat.reduceBNe, Nat.reduceEqDiff, reduceIte, if_true, if_false, reduceCtorEq, Nat.reduceAdd, Nat.reduceMul, Nat.reduceLeDiff, Nat.reduceLT, Nat.reduceDiv, Nat.reduceSub, cval, cv, evR, List.contains, List.elem, TS T, hpl, hw, hx, hx', hy, hy'] <;> rfl) rfl ?_
  refine Wz.ld rfl rfl rfl (by simp only [MS, Nat.reduceBEq, Nat.reduceBNe, Nat.reduceEqDiff, reduceIte, if_true, if_false, reduceCtorEq, Nat.reduceAdd, Nat.reduceMul, Nat.reduceLeDiff, Nat.reduceLT, Nat.reduceDiv, Nat.reduceSub, partV, evR, List.contains, List.elem, TS T, hpl, hw, hx, hx', hy, hy'] <;> rfl) rfl ?_
  refine Wz.v rfl rfl rfl (by simp only [MS, Nat.reduceBEq, Nat.reduceBNe, Nat.reduceEqDiff, reduceIte, if_true, if_false, reduceCtorEq, Nat.reduceAdd, Nat.reduceMul, Nat.reduceLeDiff, Nat.reduceLT, Nat.reduceDiv, Nat.reduceSub, binA, arithA, strA, isC, cval, cv, evR, List.contains, List.elem, TS T, hpl, hw, hx, hx', hy, hy'] <;> rfl) rfl ?_
  refine Wz.e rfl rfl (by first | rfl | (simp only [MS, Nat.reduceBEq, Nat.reduceBNe, Nat.reduceEqDiff, reduceIte, if_true, if_false, reduceCtorEq, Nat.reduceAdd, Nat.reduceMul, Nat.reduceLeDiff, Nat.reduceLT, Nat.reduceDiv, Nat.reduceSub, cval, cv, evR, List.contains, List.elem, TS T, hpl, hw, hx, hx', hy, hy'] <;> rfl)) rfl (by repeat' first | exact ldsOk_nil | refine ldsOk_skip (by rfl) ?_ | refine ldsOk_cons (by simp only [MS, Nat.reduceBEq, Nat.reduceBNe, Nat.reduceEqDiff, reduceIte, if_true, if_false, reduceCtorEq, Nat.reduceAdd, Nat.reduceMul, Nat.reduceLeDiff, Nat.reduceLT, Nat.reduceDiv, Nat.reduceSub, evR, List.contains, List.elem, partV, TS T, hpl, hw, hx, hx', hy, hy']) (by simp [vbeq, vbeqs, hpl, hw, hx, hx', hy, hy']) ?_) (by repeat' first | exact alsOk_nil | refine alsOk_skip (by rfl) ?_ | refine alsOk_cons (by simp only [MS, Nat.reduceBEq, Nat.reduceBNe, Nat.reduceEqDiff, reduceIte, if_true, if_false, reduceCtorEq, Nat.reduceAdd, Nat.reduceMul, Nat.reduceLeDiff, Nat.reduceLT, Nat.reduceDiv, Nat.reduceSub, evR, List.contains, List.elem, partV, TS T, hpl, hw, hx, hx', hy, hy']) (by simp [vbeq, vbeqs]) ?_) ?_
  refine Wz.nil ?_
  exact hn2 _ (Wc.ret (hr0 _ _ [_] rfl ⟨_, rfl, rfl, wrap_wrap _ _⟩))
/-- A fresh list of numbers, or none. -/
def IntRes (h h' : Hp) (v : V) : Prop := v = .nils ∨ ∃ b n ty cs, v = .sl b 0 n (some n) 1 ∧ h.n ≤ b ∧ b < h'.n ∧ n ≤ 1000000 ∧ h'.get b = some (.blk ty cs true) ∧ cs.length = n ∧ IntCells cs

theorem S.f8_ok {tb fc} (T : S.Ty tb) {call call' callE : Caller} {lf : Nat} (hc : ∀ args h, call' (.fn 8) args h = runF tb fc call lf Tryz.f8 args h)
    (h30 : ∀ (n a b : Int) (h : Hp), ∃ e : Int, call (.fn 30) [.i .i64 n, .i .i64 a, .i .i64 b] h = some (.ret (.i .i64 e), h) ∧ (e = 0 → 1 ≤ b ∧ b ≤ 1000))
    (h31 : ∀ {g : Nat} {caps : List V} {n : Nat} {W : Nat → Prop} {I : Hp → Prop}, n ≤ 1000000 → ElemOk callE g caps n W I → ∀ {h : Hp}, (∀ b, W b → b < h.n) → I h → (∀ h1 h2, I h1 → h.n ≤ h1.n → h1.n ≤ h2.n → (∀ b, b < h.n → h2.get b = h1.get b) → I h2) →
      ∃ h' cs, call (.fn 31) [.i .i64 n, .f (.func g) [] caps] h = some (.ret (.sl h.n 0 n (some n) 1), h') ∧ h.n < h'.n ∧ (∀ b, b < h.n → ¬ W b → h'.get b = h.get b) ∧ h'.get h.n = some (.blk 6 cs true) ∧ cs.length = n ∧ IntCells cs)
    (h32 : ∀ {h : Hp} {a b r i : Int} {p q s t1 t2 t3 : Nat} {w1 w2 w3 : Bool}, 1 ≤ r → r ≤ 1000 → h.get p = some (.blk t1 [.i .i64 a] w1) → h.get q = some (.blk t2 [.i .i64 b] w2) → h.get s = some (.blk t3 [.i .i64 r] w3) → ∃ x : Int, callE (.fn 32) [.i .i64 i, .p p 0, .p q 0, .p s 0] h = some (.ret (.i .i64 x), h) ∧ IntKind.i64.wrap x = x)
    (a b r : Int) (h : Hp) : ∃ (v : V) (e : Int) (h' : Hp), call' (.fn 8) [.i .i64 a, .i .i64 b, .i .i64 r] h = some (.ret (.tup [v, .i .i64 e]), h') ∧ Ext h h' ∧ IntRes h h' v := by
  suffices H : Wf tb fc call lf Tryz.f8 [.i .i64 a, .i .i64 b, .i .i64 r] h (fun w h' => ∃ (v : V) (e : Int), w = .tup [v, .i .i64 e] ∧ Ext h h' ∧ IntRes h h' v) by
    obtain ⟨w, h', h1, v, e, rfl, h2⟩ := H
    exact ⟨v, e, h', by rw [hc]; exact h1, h2⟩
  obtain ⟨e, hcall, he⟩ := h30 a b r (((h.push (.blk 6 [.i .i64 a] true)).push (.blk 6 [.i .i64 b] true)).push (.blk 6 [.i .i64 r] true))
  have x0 : Ext h (((h.push (.blk 6 [.i .i64 a] true)).push (.blk 6 [.i .i64 b] true)).push (.blk 6 [.i .i64 r] true)) := ((Ext.push _ _).trans (Ext.push _ _)).trans (Ext.push _ _)
  have ga : (((h.push (.blk 6 [.i .i64 a] true)).push (.blk 6 [.i .i64 b] true)).push (.blk 6 [.i .i64 r] true)).get h.n = some (.blk 6 [.i .i64 a] true) := by simp [Hp.get_push]; intro h; omega
  have gb : (((h.push (.blk 6 [.i .i64 a] true)).push (.blk 6 [.i .i64 b] true)).push (.blk 6 [.i .i64 r] true)).get (h.n + 1) = some (.blk 6 [.i .i64 b] true) := by simp [Hp.get_push]
  have gr : (((h.push (.blk 6 [.i .i64 a] true)).push (.blk 6 [.i .i64 b] true)).push (.blk 6 [.i .i64 r] true)).get (h.n + 1 + 1) = some (.blk 6 [.i .i64 r] true) := by simp [Hp.get_push]
  have hnn : (((h.push (.blk 6 [.i .i64 a] true)).push (.blk 6 [.i .i64 b] true)).push (.blk 6 [.i .i64 r] true)).n = h.n + 1 + 1 + 1 := by simp
  refine Wf.intro (sz := 20) rfl rfl fun K hn0 hr0 => ?_
  repeat refine Wc.assoc ?_
  refine Wc.seq fun K1 hn1 hx1 => ?_
  refine Wc.rg ?_
  refine Wo.val rfl (by simp only [MS, Nat.reduceBEq, Nat.reduceBNe, Nat.reduceEqDiff, reduceIte, if_true, if_false, reduceCtorEq, Nat.reduceAdd, Nat.reduceMul, Nat.reduceLeDiff, Nat.reduceLT, Nat.reduceDiv, Nat.reduceSub, cval, cv, TS T] <;> rfl) rfl ?_
  refine Wo.val rfl (by simp only [MS, Nat.reduceBEq, Nat.reduceBNe, Nat.reduceEqDiff, reduceIte, if_true, if_false, reduceCtorEq, Nat.reduceAdd, Nat.reduceMul, Nat.reduceLeDiff, Nat.reduceLT, Nat.reduceDiv, Nat.reduceSub, cval, cv, TS T] <;> rfl) rfl ?_
  refine Wo.val rfl (by simp only [MS, Nat.reduceBEq, Nat.reduceBNe, Nat.reduceEqDiff, reduceIte, if_true, if_false, reduceCtorEq, Nat.reduceAdd, Nat.reduceMul, Nat.reduceLeDiff, Nat.reduceLT, Nat.reduceDiv, Nat.reduceSub, cval, cv, TS T] <;> rfl) rfl ?_
  refine Wo.val rfl (by first | rfl | (simp only [MS, Nat.reduceBEq, Nat.reduceBNe, Nat.reduceEqDiff, reduceIte, if_true, if_false, reduceCtorEq, Nat.reduceAdd, Nat.reduceMul, Nat.reduceLeDiff, Nat.reduceLT, Nat.reduceDiv, Nat.reduceSub, cval, cv, TS T] <;> rfl)) rfl ?_
  refine Wo.val rfl (by first | rfl | (simp only [MS, Nat.reduceBEq, Nat.reduceBNe, Nat.reduceEqDiff, reduceIte, if_true, if_false, reduceCtorEq, Nat.reduceAdd, Nat.reduceMul, Nat.reduceLeDiff, Nat.reduceLT, Nat.reduceDiv, Nat.reduceSub, cval, cv, TS T] <;> rfl)) rfl ?_
  refine Wo.nil ?_
  refine hn1 _ ?_
  generalize (((h.push (.blk 6 [.i .i64 a] true)).push (.blk 6 [.i .i64 b] true)).push (.blk 6 [.i .i64 r] true)) = h1 at hcall x0 ga gb gr hnn ⊢
  repeat refine Wc.assoc ?_
  refine Wc.seq fun K2 hn2 hx2 => ?_
  refine Wc.rg ?_
  refine Wo.val rfl (by simp only [MS, Nat.reduceBEq, Nat.reduceBNe, Nat.reduceEqDiff, reduceIte, if_true, if_false, reduceCtorEq, Nat.reduceAdd, Nat.reduceMul, Nat.reduceLeDiff, Nat.reduceLT, Nat.reduceDiv, Nat.reduceSub, loadA, partV, TS T, ga, gb, gr] <;> rfl) rfl ?_
  refine Wo.val rfl (by simp only [MS, Nat.reduceBEq, Nat.reduceBNe, Nat.reduceEqDiff, reduceIte, if_true, if_false, reduceCtorEq, Nat.reduceAdd, Nat.reduceMul, Nat.reduceLeDiff, Nat.reduceLT, Nat.reduceDiv, Nat.reduceSub, loadA, partV, TS T, ga, gb, gr] <;> rfl) rfl ?_
  refine Wo.val rfl (by simp only [MS, Nat.reduceBEq, Nat.reduceBNe, Nat.reduceEqDiff, reduceIte, if_true, if_false, reduceCtorEq, Nat.reduceAdd, Nat.reduceMul, Nat.reduceLeDiff, Nat.reduceLT, Nat.reduceDiv, Nat.reduceSub, loadA, partV, TS T, ga, gb, gr] <;> rfl) rfl ?_
  refine Wo.cl rfl rfl rfl (by first | rfl | (simp only [MS, Nat.reduceBEq, Nat.reduceBNe, Nat.reduceEqDiff, reduceIte, if_true, if_false, reduceCtorEq, Nat.reduceAdd, Nat.reduceMul, Nat.reduceLeDiff, Nat.reduceLT, Nat.reduceDiv, Nat.reduceSub, cval, cv, TS T, ga, gb, gr] <;> rfl)) (by first | rfl | (simp only [MS, Nat.reduceBEq, Nat.reduceBNe, Nat.reduceEqDiff, reduceIte, if_true, if_false, reduceCtorEq, Nat.reduceAdd, Nat.reduceMul, Nat.reduceLeDiff, Nat.reduceLT, Nat.reduceDiv, Nat.reduceSub, cval, cv, TS T, ga, gb, gr] <;> rfl)) (fun _ => rfl) ?_
  refine ⟨_, h1, hcall, ?_⟩
  refine Wo.val rfl (by first | rfl | (simp only [MS, Nat.reduceBEq, Nat.reduceBNe, Nat.reduceEqDiff, reduceIte, if_true, if_false, reduceCtorEq, Nat.reduceAdd, Nat.reduceMul, Nat.reduceLeDiff, Nat.reduceLT, Nat.reduceDiv, Nat.reduceSub, cval, cv, TS T] <;> rfl)) rfl ?_
  refine Wo.nil ?_
  refine hn2 _ ?_
  repeat refine Wc.assoc ?_
  refine Wc.seq fun K3 hn3 hx3 => ?_
  refine Wc.rg ?_
  refine Wo.val rfl (by first | rfl | (simp only [MS, Nat.reduceBEq, Nat.reduceBNe, Nat.reduceEqDiff, reduceIte, if_true, if_false, reduceCtorEq, Nat.reduceAdd, Nat.reduceMul, Nat.reduceLeDiff, Nat.reduceLT, Nat.reduceDiv, Nat.reduceSub, TS T] <;> rfl)) rfl ?_
  refine Wo.val rfl (by simp only [MS, Nat.reduceBEq, Nat.reduceBNe, Nat.reduceEqDiff, reduceIte, if_true, if_false, reduceCtorEq, Nat.reduceAdd, Nat.reduceMul, Nat.reduceLeDiff, Nat.reduceLT, Nat.reduceDiv, Nat.reduceSub, binA, arithA, strA, isC, cval, cv, TS T] <;> rfl) rfl ?_
  refine Wo.nil ?_
  refine hn3 _ ?_
  repeat refine Wc.assoc ?_
  refine Wc.seq fun K4 hn4 hx4 => ?_
  refine Wc.cond (t := e != 0) rfl (fun _ => ?_) fun hd => ?_
  · refine Wc.seq fun K5 hn5 hx5 => ?_
    refine Wc.rg ?_
    refine Wo.val rfl (by first | rfl | (simp only [MS, Nat.reduceBEq, Nat.reduceBNe, Nat.reduceEqDiff, reduceIte, if_true, if_false, reduceCtorEq, Nat.reduceAdd, Nat.reduceMul, Nat.reduceLeDiff, Nat.reduceLT, Nat.reduceDiv, Nat.reduceSub, TS T] <;> rfl)) rfl ?_
    refine Wo.val rfl (by first | rfl | (simp only [MS, Nat.reduceBEq, Nat.reduceBNe, Nat.reduceEqDiff, reduceIte, if_true, if_false, reduceCtorEq, Nat.reduceAdd, Nat.reduceMul, Nat.reduceLeDiff, Nat.reduceLT, Nat.reduceDiv, Nat.reduceSub, cval, cv, TS T] <;> rfl)) rfl ?_
    refine Wo.val rfl (by first | rfl | (simp only [MS, Nat.reduceBEq, Nat.reduceBNe, Nat.reduceEqDiff, reduceIte, if_true, if_false, reduceCtorEq, Nat.reduceAdd, Nat.reduceMul, Nat.reduceLeDiff, Nat.reduceLT, Nat.reduceDiv, Nat.reduceSub, cval, cv, TS T] <;> rfl)) rfl ?_
    refine Wo.nil ?_
    exact hn5 _ (Wc.ret (hx4 _ _ (by simp) (hr0 _ _ [.nils, .i .i64 e] rfl ⟨_, _, rfl, x0, .inl rfl⟩)))
  · refine Wc.skip (hn4 _ ?_)
    have he0 : e = 0 := by simpa using hd
    obtain ⟨hr1, hr2⟩ := he he0
    obtain ⟨n, hn⟩ : ∃ n : Nat, r + 1 = n := ⟨(r + 1).toNat, by omega⟩
    have hw : IntKind.i64.wrap (r + 1) = (n : Int) := by rw [← hn, wrap_i64] <;> omega
    refine Wc.seq fun K5 hn5 hx5 => ?_
    refine Wc.rg ?_
    refine Wo.val rfl (by simp only [MS, Nat.reduceBEq, Nat.reduceBNe, Nat.reduceEqDiff, reduceIte, if_true, if_false, reduceCtorEq, Nat.reduceAdd, Nat.reduceMul, Nat.reduceLeDiff, Nat.reduceLT, Nat.reduceDiv, Nat.reduceSub, loadA, partV, TS T, ga, gb, gr, hw] <;> rfl) rfl ?_
    refine Wo.val rfl (by simp only [MS, Nat.reduceBEq, Nat.reduceBNe, Nat.reduceEqDiff, reduceIte, if_true, if_false, reduceCtorEq, Nat.reduceAdd, Nat.reduceMul, Nat.reduceLeDiff, Nat.reduceLT, Nat.reduceDiv, Nat.reduceSub, binA, arithA, strA, isC, cval, cv, TS T, ga, gb, gr, hw] <;> rfl) rfl ?_
    refine Wo.val rfl (by first | rfl | (simp only [MS, Nat.reduceBEq, Nat.reduceBNe, Nat.reduceEqDiff, reduceIte, if_true, if_false, reduceCtorEq, Nat.reduceAdd, Nat.reduceMul, Nat.reduceLeDiff, Nat.reduceLT, Nat.reduceDiv, Nat.reduceSub, TS T, ga, gb, gr, hw] <;> rfl)) rfl ?_
    refine Wo.cl rfl rfl rfl (by first | rfl | (simp only [MS, Nat.reduceBEq, Nat.reduceBNe, Nat.reduceEqDiff, reduceIte, if_true, if_false, reduceCtorEq, Nat.reduceAdd, Nat.reduceMul, Nat.reduceLeDiff, Nat.reduceLT, Nat.reduceDiv, Nat.reduceSub, cval, cv, TS T, ga, gb, gr, hw] <;> rfl)) (by first | rfl | (simp only [MS, Nat.reduceBEq, Nat.reduceBNe, Nat.reduceEqDiff, reduceIte, if_true, if_false, reduceCtorEq, Nat.reduceAdd, Nat.reduceMul, Nat.reduceLeDiff, Nat.reduceLT, Nat.reduceDiv, Nat.reduceSub, cval, cv, TS T, ga, gb, gr, hw] <;> rfl)) (fun _ => rfl) ?_
    obtain ⟨h2, cs, hcall2, hl2, hold2, hg2, hcl2, hic2⟩ := h31 (g := 32) (caps := [.p h.n 0, .p (h.n + 1) 0, .p (h.n + 1 + 1) 0]) (n := n) (W := fun _ => False) (I := fun hh => h1.n ≤ hh.n ∧ ∀ b, b < h1.n → hh.get b = h1.get b) (by omega) (fun i hh hi hI => by
      obtain ⟨x, hx, hxw⟩ := h32 (i := (i : Int)) hr1 hr2 ((hI.2 h.n (by omega)).trans ga) ((hI.2 (h.n + 1) (by omega)).trans gb) ((hI.2 (h.n + 1 + 1) (by omega)).trans gr)
      exact ⟨x, hh, hx, hxw, Nat.le_refl _, fun _ _ _ => rfl, hI⟩) (h := h1) (fun _ h => h.elim) ⟨Nat.le_refl _, fun _ _ => rfl⟩ (fun a1 a2 hI hle1 hle hs => ⟨by omega, fun b hb => (hs b hb).trans (hI.2 b hb)⟩)
    refine ⟨_, h2, hcall2, ?_⟩
    refine Wo.val rfl (by first | rfl | (simp only [MS, Nat.reduceBEq, Nat.reduceBNe, Nat.reduceEqDiff, reduceIte, if_true, if_false, reduceCtorEq, Nat.reduceAdd, Nat.reduceMul, Nat.reduceLeDiff, Nat.reduceLT, Nat.reduceDiv, Nat.reduceSub, cval, cv, TS T] <;> rfl)) rfl ?_
    refine Wo.val rfl (by first | rfl | (simp only [MS, Nat.reduceBEq, Nat.reduceBNe, Nat.reduceEqDiff, reduceIte, if_true, if_false, reduceCtorEq, Nat.reduceAdd, Nat.reduceMul, Nat.reduceLeDiff, Nat.reduceLT, Nat.reduceDiv, Nat.reduceSub, cval, cv, TS T] <;> rfl)) rfl ?_
    refine Wo.nil ?_
    have x2 : Ext h1 h2 := ⟨by omega, fun b hb => hold2 b hb (fun h => h)⟩
    exact hn5 _ (Wc.ret (hr0 _ _ [.sl h1.n 0 n (some n) 1, .i .i64 0] rfl ⟨_, _, rfl, x0.trans x2, .inr ⟨h1.n, n, 6, cs, rfl, by omega, hl2, by omega, hg2, hcl2, hic2⟩⟩))

theorem S.f12_ok {tb fc} (T : S.Ty tb) {call call' callE : Caller} {lf : Nat} (hc : ∀ args h, call' (.fn 12) args h = runF tb fc call lf Tryz.f12 args h)
    (h30 : ∀ (n a b : Int) (h : Hp), ∃ e : Int, call (.fn 30) [.i .i64 n, .i .i64 a, .i .i64 b] h = some (.ret (.i .i64 e), h) ∧ (e = 0 → 1 ≤ b ∧ b ≤ 1000))
    (h31 : ∀ {g : Nat} {caps : List V} {n : Nat} {W : Nat → Prop} {I : Hp → Prop}, n ≤ 1000000 → ElemOk callE g caps n W I → ∀ {h : Hp}, (∀ b, W b → b < h.n) → I h → (∀ h1 h2, I h1 → h.n ≤ h1.n → h1.n ≤ h2.n → (∀ b, b < h.n → h2.get b = h1.get b) → I h2) →
      ∃ h' cs, call (.fn 31) [.i .i64 n, .f (.func g) [] caps] h = some (.ret (.sl h.n 0 n (some n) 1), h') ∧ h.n < h'.n ∧ (∀ b, b < h.n → ¬ W b → h'.get b = h.get b) ∧ h'.get h.n = some (.blk 6 cs true) ∧ cs.length = n ∧ IntCells cs)
    (h35 : ∀ {h : Hp} {a b r i : Int} {p q s t1 t2 t3 : Nat} {w1 w2 w3 : Bool}, 1 ≤ r → r ≤ 1000 → h.get p = some (.blk t1 [.i .i64 a] w1) → h.get q = some (.blk t2 [.i .i64 b] w2) → h.get s = some (.blk t3 [.i .i64 r] w3) → ∃ x : Int, callE (.fn 35) [.i .i64 i, .p s 0, .p p 0, .p q 0] h = some (.ret (.i .i64 x), h) ∧ IntKind.i64.wrap x = x)
    (a b r : Int) (h : Hp) : ∃ (v : V) (e : Int) (h' : Hp), call' (.fn 12) [.i .i64 a, .i .i64 b, .i .i64 r] h = some (.ret (.tup [v, .i .i64 e]), h') ∧ Ext h h' ∧ IntRes h h' v := by
  suffices H : Wf tb fc call lf Tryz.f12 [.i .i64 a, .i .i64 b, .i .i64 r] h (fun w h' => ∃ (v : V) (e : Int), w = .tup [v, .i .i64 e] ∧ Ext h h' ∧ IntRes h h' v) by
    obtain ⟨w, h', h1, v, e, rfl, h2⟩ := H
    exact ⟨v, e, h', by rw [hc]; exact h1, h2⟩
  obtain ⟨e, hcall, he⟩ := h30 a b r (((h.push (.blk 6 [.i .i64 a] true)).push (.blk 6 [.i .i64 b] true)).push (.blk 6 [.i .i64 r] true))
  have x0 : Ext h (((h.push (.blk 6 [.i .i64 a] true)).push (.blk 6 [.i .i64 b] true)).push (.blk 6 [.i .i64 r] true)) := ((Ext.push _ _).trans (Ext.push _ _)).trans (Ext.push _ _)
  have ga : (((h.push (.blk 6 [.i .i64 a] true)).push (.blk 6 [.i .i64 b] true)).push (.blk 6 [.i .i64 r] true)).get h.n = some (.blk 6 [.i .i64 a] true) := by simp [Hp.get_push]; intro h; omega
  have gb : (((h.push (.blk 6 [.i .i64 a] true)).push (.blk 6 [.i .i64 b] true)).push (.blk 6 [.i .i64 r] true)).get (h.n + 1) = some (.blk 6 [.i .i64 b] true) := by simp [Hp.get_push]
  have gr : (((h.push (.blk 6 [.i .i64 a] true)).push (.blk 6 [.i .i64 b] true)).push (.blk 6 [.i .i64 r] true)).get (h.n + 1 + 1) = some (.blk 6 [.i .i64 r] true) := by simp [Hp.get_push]
  have hnn : (((h.push (.blk 6 [.i .i64 a] true)).push (.blk 6 [.i .i64 b] true)).push (.blk 6 [.i .i64 r] true)).n = h.n + 1 + 1 + 1 := by simp
  refine Wf.intro (sz := 20) rfl rfl fun K hn0 hr0 => ?_
  repeat refine Wc.assoc ?_
  refine Wc.seq fun K1 hn1 hx1 => ?_
  refine Wc.rg ?_
  refine Wo.val rfl (by simp only [MS, Nat.reduceBEq, Nat.reduceBNe, Nat.reduceEqDiff, reduceIte, if_true, if_false, reduceCtorEq, Nat.reduceAdd, Nat.reduceMul, Nat.reduceLeDiff, Nat.reduceLT, Nat.reduceDiv, Nat.reduceSub, cval, cv, TS T] <;> rfl) rfl ?_
  refine Wo.val rfl (by simp only [MS, Nat.reduceBEq, Nat.reduceBNe, Nat.reduceEqDiff, reduceIte, if_true, if_false, reduceCtorEq, Nat.reduceAdd, Nat.reduceMul, Nat.reduceLeDiff, Nat.reduceLT, Nat.reduceDiv, Nat.reduceSub, cval, cv, TS T] <;> rfl) rfl ?_
  refine Wo.val rfl (by simp only [MS, Nat.reduceBEq, Nat.reduceBNe, Nat.reduceEqDiff, reduceIte, if_true, if_false, reduceCtorEq, Nat.reduceAdd, Nat.reduceMul, Nat.reduceLeDiff, Nat.reduceLT, Nat.reduceDiv, Nat.reduceSub, cval, cv, TS T] <;> rfl) rfl ?_
  refine Wo.val rfl (by first | rfl | (simp only [MS, Nat.reduceBEq, Nat.reduceBNe, Nat.reduceEqDiff, reduceIte, if_true, if_false, reduceCtorEq, Nat.reduceAdd, Nat.reduceMul, Nat.reduceLeDiff, Nat.reduceLT, Nat.reduceDiv, Nat.reduceSub, cval, cv, TS T] <;> rfl)) rfl ?_
  refine Wo.val rfl (by first | rfl | (simp only [MS, Nat.reduceBEq, Nat.reduceBNe, Nat.reduceEqDiff, reduceIte, if_true, if_false, reduceCtorEq, Nat.reduceAdd, Nat.reduceMul, Nat.reduceLeDiff, Nat.reduceLT, Nat.reduceDiv, Nat.reduceSub, cval, cv, TS T] <;> rfl)) rfl ?_
  refine Wo.nil ?_
  refine hn1 _ ?_
  generalize (((h.push (.blk 6 [.i .i64 a] true)).push (.blk 6 [.i .i64 b] true)).push (.blk 6 [.i .i64 r] true)) = h1 at hcall x0 ga gb gr hnn ⊢
  repeat refine Wc.assoc ?_
  refine Wc.seq fun K2 hn2 hx2 => ?_
  refine Wc.rg ?_
  refine Wo.val rfl (by simp only [MS, Nat.reduceBEq, Nat.reduceBNe, Nat.reduceEqDiff, reduceIte, if_true, if_false, reduceCtorEq, Nat.reduceAdd, Nat.reduceMul, Nat.reduceLeDiff, Nat.reduceLT, Nat.reduceDiv, Nat.reduceSub, loadA, partV, TS T, ga, gb, gr] <;> rfl) rfl ?_
  refine Wo.val rfl (by simp only [MS, Nat.reduceBEq, Nat.reduceBNe, Nat.reduceEqDiff, reduceIte, if_true, if_false, reduceCtorEq, Nat.reduceAdd, Nat.reduceMul, Nat.reduceLeDiff, Nat.reduceLT, Nat.reduceDiv, Nat.reduceSub, loadA, partV, TS T, ga, gb, gr] <;> rfl) rfl ?_
  refine Wo.val rfl (by simp only [MS, Nat.reduceBEq, Nat.reduceBNe, Nat.reduceEqDiff, reduceIte, if_true, if_false, reduceCtorEq, Nat.reduceAdd, Nat.reduceMul, Nat.reduceLeDiff, Nat.reduceLT, Nat.reduceDiv, Nat.reduceSub, loadA, partV, TS T, ga, gb, gr] <;> rfl) rfl ?_
  refine Wo.cl rfl rfl rfl (by first | rfl | (simp only [MS, Nat.reduceBEq, Nat.reduceBNe, Nat.reduceEqDiff, reduceIte, if_true, if_false, reduceCtorEq, Nat.reduceAdd, Nat.reduceMul, Nat.reduceLeDiff, Nat.reduceLT, Nat.reduceDiv, Nat.reduceSub, cval, cv, TS T, ga, gb, gr] <;> rfl)) (by first | rfl | (simp only [MS, Nat.reduceBEq, Nat.reduceBNe, Nat.reduceEqDiff, reduceIte, if_true, if_false, reduceCtorEq, Nat.reduceAdd, Nat.reduceMul, Nat.reduceLeDiff, Nat.reduceLT, Nat.reduceDiv, Nat.reduceSub, cval, cv, TS T, ga, gb, gr] <;> rfl)) (fun _ => rfl) ?_
  refine ⟨_, h1, hcall, ?_⟩
  refine Wo.val rfl (by first | rfl | (simp only [MS, Nat.reduceBEq, Nat.reduceBNe, Nat.reduceEqDiff, reduceIte, if_true, if_false, reduceCtorEq, Nat.reduceAdd, Nat.reduceMul, Nat.reduceLeDiff, Nat.reduceLT, Nat.reduceDiv, Nat.reduceSub, cval, cv, TS T] <;> rfl)) rfl ?_
  refine Wo.nil ?_
  refine hn2 _ ?_
  repeat refine Wc.assoc ?_
  refine Wc.seq fun K3 hn3 hx3 => ?_
  refine Wc.rg ?_
  refine Wo.val rfl (by first | rfl | (simp only [MS, Nat.reduceBEq, Nat.reduceBNe, Nat.reduceEqDiff, reduceIte, if_true, if_false, reduceCtorEq, Nat.reduceAdd, Nat.reduceMul, Nat.reduceLeDiff, Nat.reduceLT, Nat.reduceDiv, Nat.reduceSub, TS T] <;> rfl)) rfl ?_
  refine Wo.val rfl (by simp only [MS, Nat.reduceBEq, Nat.reduceBNe, Nat.reduceEqDiff, reduceIte, if_true, if_false, reduceCtorEq, Nat.reduceAdd, Nat.reduceMul, Nat.reduceLeDiff, Nat.reduceLT, Nat.reduceDiv, Nat.reduceSub, binA, arithA, strA, isC, cval, cv, TS T] <;> rfl) rfl ?_
  refine Wo.nil ?_
  refine hn3 _ ?_
  repeat refine Wc.assoc ?_
  refine Wc.seq fun K4 hn4 hx4 => ?_
  refine Wc.cond (t := e != 0) rfl (fun _ => ?_) fun hd => ?_
  · refine Wc.seq fun K5 hn5 hx5 => ?_
    refine Wc.rg ?_
    refine Wo.val rfl (by first | rfl | (simp only [MS, Nat.reduceBEq, Nat.reduceBNe, Nat.reduceEqDiff, reduceIte, if_true, if_false, reduceCtorEq, Nat.reduceAdd, Nat.reduceMul, Nat.reduceLeDiff, Nat.reduceLT, Nat.reduceDiv, Nat.reduceSub, TS T] <;> rfl)) rfl ?_
    refine Wo.val rfl (by first | rfl | (simp only [MS, Nat.reduceBEq, Nat.reduceBNe, Nat.reduceEqDiff, reduceIte, if_true, if_false, reduceCtorEq, Nat.reduceAdd, Nat.reduceMul, Nat.reduceLeDiff, Nat.reduceLT, Nat.reduceDiv, Nat.reduceSub, cval, cv, TS T] <;> rfl)) rfl ?_
    refine Wo.val rfl (by first | rfl | (simp only [MS, Nat.reduceBEq, Nat.reduceBNe, Nat.reduceEqDiff, reduceIte, if_true, if_false, reduceCtorEq, Nat.reduceAdd, Nat.reduceMul, Nat.reduceLeDiff, Nat.reduceLT, Nat.reduceDiv, Nat.reduceSub, cval, cv, TS T] <;> rfl)) rfl ?_
    refine Wo.nil ?_
    exact hn5 _ (Wc.ret (hx4 _ _ (by simp) (hr0 _ _ [.nils, .i .i64 e] rfl ⟨_, _, rfl, x0, .inl rfl⟩)))
  · refine Wc.skip (hn4 _ ?_)
    have he0 : e = 0 := by simpa using hd
    obtain ⟨hr1, hr2⟩ := he he0
    obtain ⟨n, hn⟩ : ∃ n : Nat, r + 1 = n := ⟨(r + 1).toNat, by omega⟩
    have hw : IntKind.i64.wrap (r + 1) = (n : Int) := by rw [← hn, wrap_i64] <;> omega
    refine Wc.seq fun K5 hn5 hx5 => ?_
    refine Wc.rg ?_
    refine Wo.val rfl (by simp only [MS, Nat.reduceBEq, Nat.reduceBNe, Nat.reduceEqDiff, reduceIte, if_true, if_false, reduceCtorEq, Nat.reduceAdd, Nat.reduceMul, Nat.reduceLeDiff, Nat.reduceLT, Nat.reduceDiv, Nat.reduceSub, loadA, partV, TS T, ga, gb, gr, hw] <;> rfl) rfl ?_
    refine Wo.val rfl (by simp only [MS, Nat.reduceBEq, Nat.reduceBNe, Nat.reduceEqDiff, reduceIte, if_true, if_false, reduceCtorEq, Nat.reduceAdd, Nat.reduceMul, Nat.reduceLeDiff, Nat.reduceLT, Nat.reduceDiv, Nat.reduceSub, binA, arithA, strA, isC, cval, cv, TS T, ga, gb, gr, hw] <;> rfl) rfl ?_
    refine Wo.val rfl (by first | rfl | (simp only [MS, Nat.reduceBEq, Nat.reduceBNe, Nat.reduceEqDiff, reduceIte, if_true, if_false, reduceCtorEq, Nat.reduceAdd, Nat.reduceMul, Nat.reduceLeDiff, Nat.reduceLT, Nat.reduceDiv, Nat.reduceSub, TS T, ga, gb, gr, hw] <;> rfl)) rfl ?_
    refine Wo.cl rfl rfl rfl (by first | rfl | (simp only [MS, Nat.reduceBEq, Nat.reduceBNe, Nat.reduceEqDiff, reduceIte, if_true, if_false, reduceCtorEq, Nat.reduceAdd, Nat.reduceMul, Nat.reduceLeDiff, Nat.reduceLT, Nat.reduceDiv, Nat.reduceSub, cval, cv, TS T, ga, gb, gr, hw] <;> rfl)) (by first | rfl | (simp only [MS, Nat.reduceBEq, Nat.reduceBNe, Nat.reduceEqDiff, reduceIte, if_true, if_false, reduceCtorEq, Nat.reduceAdd, Nat.reduceMul, Nat.reduceLeDiff, Nat.reduceLT, Nat.reduceDiv, Nat.reduceSub, cval, cv, TS T, ga, gb, gr, hw] <;> rfl)) (fun _ => rfl) ?_
    obtain ⟨h2, cs, hcall2, hl2, hold2, hg2, hcl2, hic2⟩ := h31 (g := 35) (caps := [.p (h.n + 1 + 1) 0, .p h.n 0, .p (h.n + 1) 0]) (n := n) (W := fun _ => False) (I := fun hh => h1.n ≤ hh.n ∧ ∀ b, b < h1.n → hh.get b = h1.get b) (by omega) (fun i hh hi hI => by
      obtain ⟨x, hx, hxw⟩ := h35 (i := (i : Int)) hr1 hr2 ((hI.2 h.n (by omega)).trans ga) ((hI.2 (h.n + 1) (by omega)).trans gb) ((hI.2 (h.n + 1 + 1) (by omega)).trans gr)
      exact ⟨x, hh, hx, hxw, Nat.le_refl _, fun _ _ _ => rfl, hI⟩) (h := h1) (fun _ h => h.elim) ⟨Nat.le_refl _, fun _ _ => rfl⟩ (fun a1 a2 hI hle1 hle hs => ⟨by omega, fun b hb => (hs b hb).trans (hI.2 b hb)⟩)
    refine ⟨_, h2, hcall2, ?_⟩
    refine Wo.val rfl (by first | rfl | (simp only [MS, Nat.reduceBEq, Nat.reduceBNe, Nat.reduceEqDiff, reduceIte, if_true, if_false, reduceCtorEq, Nat.reduceAdd, Nat.reduceMul, Nat.reduceLeDiff, Nat.reduceLT, Nat.reduceDiv, Nat.reduceSub, cval, cv, TS T] <;> rfl)) rfl ?_
    refine Wo.val rfl (by first | rfl | (simp only [MS, Nat.reduceBEq, Nat.reduceBNe, Nat.reduceEqDiff, reduceIte, if_true, if_false, reduceCtorEq, Nat.reduceAdd, Nat.reduceMul, Nat.reduceLeDiff, Nat.reduceLT, Nat.reduceDiv, Nat.reduceSub, cval, cv, TS T] <;> rfl)) rfl ?_
    refine Wo.nil ?_
    have x2 : Ext h1 h2 := ⟨by omega, fun b hb => hold2 b hb (fun h => h)⟩
    exact hn5 _ (Wc.ret (hr0 _ _ [.sl h1.n 0 n (some n) 1, .i .i64 0] rfl ⟨_, _, rfl, x0.trans x2, .inr ⟨h1.n, n, 6, cs, rfl, by omega, hl2, by omega, hg2, hcl2, hic2⟩⟩))

theorem S.f18_ok {tb fc} (T : S.Ty tb) {call call' callE : Caller} {lf : Nat} (hc : ∀ args h, call' (.fn 18) args h = runF tb fc call lf Tryz.f18 args h)
    (h38 : ∀ (r c : Int) (h : Hp), ∃ e : Int, call (.fn 38) [.i .i64 r, .i .i64 c] h = some (.ret (.i .i64 e), h) ∧ (e = 0 → 1 ≤ c ∧ c ≤ 1000))
    (h31 : ∀ {g : Nat} {caps : List V} {n : Nat} {W : Nat → Prop} {I : Hp → Prop}, n ≤ 1000000 → ElemOk callE g caps n W I → ∀ {h : Hp}, (∀ b, W b → b < h.n) → I h → (∀ h1 h2, I h1 → h.n ≤ h1.n → h1.n ≤ h2.n → (∀ b, b < h.n → h2.get b = h1.get b) → I h2) →
      ∃ h' cs, call (.fn 31) [.i .i64 n, .f (.func g) [] caps] h = some (.ret (.sl h.n 0 n (some n) 1), h') ∧ h.n < h'.n ∧ (∀ b, b < h.n → ¬ W b → h'.get b = h.get b) ∧ h'.get h.n = some (.blk 6 cs true) ∧ cs.length = n ∧ IntCells cs)
    (h39 : ∀ {h : Hp} {r c i : Int} {p q t1 t2 : Nat} {w1 w2 : Bool}, 1 ≤ c → c ≤ 1000 → h.get p = some (.blk t1 [.i .i64 r] w1) → h.get q = some (.blk t2 [.i .i64 c] w2) → ∃ x : Int, callE (.fn 39) [.i .i64 i, .p p 0, .p q 0] h = some (.ret (.i .i64 x), h) ∧ IntKind.i64.wrap x = x)
    (r c : Int) (h : Hp) : ∃ (v : V) (e : Int) (h' : Hp), call' (.fn 18) [.i .i64 r, .i .i64 c] h = some (.ret (.tup [v, .i .i64 e]), h') ∧ Ext h h' ∧ IntRes h h' v := by
  suffices H : Wf tb fc call lf Tryz.f18 [.i .i64 r, .i .i64 c] h (fun w h' => ∃ (v : V) (e : Int), w = .tup [v, .i .i64 e] ∧ Ext h h' ∧ IntRes h h' v) by
    obtain ⟨w, h', h1, v, e, rfl, h2⟩ := H
    exact ⟨v, e, h', by rw [hc]; exact h1, h2⟩
  obtain ⟨e, hcall, he⟩ := h38 r c ((h.push (.blk 6 [.i .i64 r] true)).push (.blk 6 [.i .i64 c] true))
  have x0 : Ext h ((h.push (.blk 6 [.i .i64 r] true)).push (.blk 6 [.i .i64 c] true)) := (Ext.push _ _).trans (Ext.push _ _)
  have gr : ((h.push (.blk 6 [.i .i64 r] true)).push (.blk 6 [.i .i64 c] true)).get h.n = some (.blk 6 [.i .i64 r] true) := by simp [Hp.get_push]
  have gc : ((h.push (.blk 6 [.i .i64 r] true)).push (.blk 6 [.i .i64 c] true)).get (h.n + 1) = some (.blk 6 [.i .i64 c] true) := by simp [Hp.get_push]
  have hnn : ((h.push (.blk 6 [.i .i64 r] true)).push (.blk 6 [.i .i64 c] true)).n = h.n + 1 + 1 := by simp
  refine Wf.intro (sz := 16) rfl rfl fun K hn0 hr0 => ?_
  repeat refine Wc.assoc ?_
  refine Wc.seq fun K1 hn1 hx1 => ?_
  refine Wc.rg ?_
  refine Wo.val rfl (by simp only [MS, Nat.reduceBEq, Nat.reduceBNe, Nat.reduceEqDiff, reduceIte, if_true, if_false, reduceCtorEq, Nat.reduceAdd, Nat.reduceMul, Nat.reduceLeDiff, Nat.reduceLT, Nat.reduceDiv, Nat.reduceSub, cval, cv, TS T] <;> rfl) rfl ?_
  refine Wo.val rfl (by simp only [MS, Nat.reduceBEq, Nat.reduceBNe, Nat.reduceEqDiff, reduceIte, if_true, if_false, reduceCtorEq, Nat.reduceAdd, Nat.reduceMul, Nat.reduceLeDiff, Nat.reduceLT, Nat.reduceDiv, Nat.reduceSub, cval, cv, TS T] <;> rfl) rfl ?_
  refine Wo.val rfl (by first | rfl | (simp only [MS, Nat.reduceBEq, Nat.reduceBNe, Nat.reduceEqDiff, reduceIte, if_true, if_false, reduceCtorEq, Nat.reduceAdd, Nat.reduceMul, Nat.reduceLeDiff, Nat.reduceLT, Nat.reduceDiv, Nat.reduceSub, cval, cv, TS T] <;> rfl)) rfl ?_
  refine Wo.val rfl (by first | rfl | (simp only [MS, Nat.reduceBEq, Nat.reduceBNe, Nat.reduceEqDiff, reduceIte, if_true, if_false, reduceCtorEq, Nat.reduceAdd, Nat.reduceMul, Nat.reduceLeDiff, Nat.reduceLT, Nat.reduceDiv, Nat.reduceSub, cval, cv, TS T] <;> rfl)) rfl ?_
  refine Wo.nil ?_
  refine hn1 _ ?_
  generalize ((h.push (.blk 6 [.i .i64 r] true)).push (.blk 6 [.i .i64 c] true)) = h1 at hcall x0 gr gc hnn ⊢
  repeat refine Wc.assoc ?_
  refine Wc.seq fun K2 hn2 hx2 => ?_
  refine Wc.rg ?_
  refine Wo.val rfl (by simp only [MS, Nat.reduceBEq, Nat.reduceBNe, Nat.reduceEqDiff, reduceIte, if_true, if_false, reduceCtorEq, Nat.reduceAdd, Nat.reduceMul, Nat.reduceLeDiff, Nat.reduceLT, Nat.reduceDiv, Nat.reduceSub, loadA, partV, TS T, gr, gc] <;> rfl) rfl ?_
  refine Wo.val rfl (by simp only [MS, Nat.reduceBEq, Nat.reduceBNe, Nat.reduceEqDiff, reduceIte, if_true, if_false, reduceCtorEq, Nat.reduceAdd, Nat.reduceMul, Nat.reduceLeDiff, Nat.reduceLT, Nat.reduceDiv, Nat.reduceSub, loadA, partV, TS T, gr, gc] <;> rfl) rfl ?_
  refine Wo.cl rfl rfl rfl (by first | rfl | (simp only [MS, Nat.reduceBEq, Nat.reduceBNe, Nat.reduceEqDiff, reduceIte, if_true, if_false, reduceCtorEq, Nat.reduceAdd, Nat.reduceMul, Nat.reduceLeDiff, Nat.reduceLT, Nat.reduceDiv, Nat.reduceSub, cval, cv, TS T, gr, gc] <;> rfl)) (by first | rfl | (simp only [MS, Nat.reduceBEq, Nat.reduceBNe, Nat.reduceEqDiff, reduceIte, if_true, if_false, reduceCtorEq, Nat.reduceAdd, Nat.reduceMul, Nat.reduceLeDiff, Nat.reduceLT, Nat.reduceDiv, Nat.reduceSub, cval, cv, TS T, gr, gc] <;> rfl)) (fun _ => rfl) ?_
  refine ⟨_, h1, hcall, ?_⟩
  refine Wo.val rfl (by first | rfl | (simp only [MS, Nat.reduceBEq, Nat.reduceBNe, Nat.reduceEqDiff, reduceIte, if_true, if_false, reduceCtorEq, Nat.reduceAdd, Nat.reduceMul, Nat.reduceLeDiff, Nat.reduceLT, Nat.reduceDiv, Nat.reduceSub, cval, cv, TS T] <;> rfl)) rfl ?_
  refine Wo.nil ?_
  refine hn2 _ ?_
  repeat refine Wc.assoc ?_
  refine Wc.seq fun K3 hn3 hx3 => ?_
  refine Wc.rg ?_
  refine Wo.val rfl (by first | rfl | (simp only [MS, Nat.reduceBEq, Nat.reduceBNe, Nat.reduceEqDiff, reduceIte, if_true, if_false, reduceCtorEq, Nat.reduceAdd, Nat.reduceMul, Nat.reduceLeDiff, Nat.reduceLT, Nat.reduceDiv, Nat.reduceSub, TS T] <;> rfl)) rfl ?_
  refine Wo.val rfl (by simp only [MS, Nat.reduceBEq, Nat.reduceBNe, Nat.reduceEqDiff, reduceIte, if_true, if_false, reduceCtorEq, Nat.reduceAdd, Nat.reduceMul, Nat.reduceLeDiff, Nat.reduceLT, Nat.reduceDiv, Nat.reduceSub, binA, arithA, strA, isC, cval, cv, TS T] <;> rfl) rfl ?_
  refine Wo.nil ?_
  refine hn3 _ ?_
  repeat refine Wc.assoc ?_
  refine Wc.seq fun K4 hn4 hx4 => ?_
  refine Wc.cond (t := e != 0) rfl (fun _ => ?_) fun hd => ?_
  · refine Wc.seq fun K5 hn5 hx5 => ?_
    refine Wc.rg ?_
    refine Wo.val rfl (by first | rfl | (simp only [MS, Nat.reduceBEq, Nat.reduceBNe, Nat.reduceEqDiff, reduceIte, if_true, if_false, reduceCtorEq, Nat.reduceAdd, Nat.reduceMul, Nat.reduceLeDiff, Nat.reduceLT, Nat.reduceDiv, Nat.reduceSub, TS T] <;> rfl)) rfl ?_
    refine Wo.val rfl (by first | rfl | (simp only [MS, Nat.reduceBEq, Nat.reduceBNe, Nat.reduceEqDiff, reduceIte, if_true, if_false, reduceCtorEq, Nat.reduceAdd, Nat.reduceMul, Nat.reduceLeDiff, Nat.reduceLT, Nat.reduceDiv, Nat.reduceSub, cval, cv, TS T] <;> rfl)) rfl ?_
    refine Wo.val rfl (by first | rfl | (simp only [MS, Nat.reduceBEq, Nat.reduceBNe, Nat.reduceEqDiff, reduceIte, if_true, if_false, reduceCtorEq, Nat.reduceAdd, Nat.reduceMul, Nat.reduceLeDiff, Nat.reduceLT, Nat.reduceDiv, Nat.reduceSub, cval, cv, TS T] <;> rfl)) rfl ?_
    refine Wo.nil ?_
    exact hn5 _ (Wc.ret (hx4 _ _ (by simp) (hr0 _ _ [.nils, .i .i64 e] rfl ⟨_, _, rfl, x0, .inl rfl⟩)))
  · refine Wc.skip (hn4 _ ?_)
    have he0 : e = 0 := by simpa using hd
    obtain ⟨hr1, hr2⟩ := he he0
    obtain ⟨n, rfl⟩ : ∃ n : Nat, c = n := ⟨c.toNat, by omega⟩
    refine Wc.seq fun K5 hn5 hx5 => ?_
    refine Wc.rg ?_
    refine Wo.val rfl (by simp only [MS, Nat.reduceBEq, Nat.reduceBNe, Nat.reduceEqDiff, reduceIte, if_true, if_false, reduceCtorEq, Nat.reduceAdd, Nat.reduceMul, Nat.reduceLeDiff, Nat.reduceLT, Nat.reduceDiv, Nat.reduceSub, loadA, partV, TS T, gr, gc] <;> rfl) rfl ?_
    refine Wo.val rfl (by first | rfl | (simp only [MS, Nat.reduceBEq, Nat.reduceBNe, Nat.reduceEqDiff, reduceIte, if_true, if_false, reduceCtorEq, Nat.reduceAdd, Nat.reduceMul, Nat.reduceLeDiff, Nat.reduceLT, Nat.reduceDiv, Nat.reduceSub, TS T, gr, gc] <;> rfl)) rfl ?_
    refine Wo.cl rfl rfl rfl (by first | rfl | (simp only [MS, Nat.reduceBEq, Nat.reduceBNe, Nat.reduceEqDiff, reduceIte, if_true, if_false, reduceCtorEq, Nat.reduceAdd, Nat.reduceMul, Nat.reduceLeDiff, Nat.reduceLT, Nat.reduceDiv, Nat.reduceSub, cval, cv, TS T, gr, gc] <;> rfl)) (by first | rfl | (simp only [MS, Nat.reduceBEq, Nat.reduceBNe, Nat.reduceEqDiff, reduceIte, if_true, if_false, reduceCtorEq, Nat.reduceAdd, Nat.reduceMul, Nat.reduceLeDiff, Nat.reduceLT, Nat.reduceDiv, Nat.reduceSub, cval, cv, TS T, gr, gc] <;> rfl)) (fun _ => rfl) ?_
    obtain ⟨h2, cs, hcall2, hl2, hold2, hg2, hcl2, hic2⟩ := h31 (g := 39) (caps := [.p h.n 0, .p (h.n + 1) 0]) (n := n) (W := fun _ => False) (I := fun hh => h1.n ≤ hh.n ∧ ∀ b, b < h1.n → hh.get b = h1.get b) (by omega) (fun i hh hi hI => by
      obtain ⟨x, hx, hxw⟩ := h39 (i := (i : Int)) hr1 hr2 ((hI.2 h.n (by omega)).trans gr) ((hI.2 (h.n + 1) (by omega)).trans gc)
      exact ⟨x, hh, hx, hxw, Nat.le_refl _, fun _ _ _ => rfl, hI⟩) (h := h1) (fun _ h => h.elim) ⟨Nat.le_refl _, fun _ _ => rfl⟩ (fun a1 a2 hI hle1 hle hs => ⟨by omega, fun b hb => (hs b hb).trans (hI.2 b hb)⟩)
    refine ⟨_, h2, hcall2, ?_⟩
    refine Wo.val rfl (by first | rfl | (simp only [MS, Nat.reduceBEq, Nat.reduceBNe, Nat.reduceEqDiff, reduceIte, if_true, if_false, reduceCtorEq, Nat.reduceAdd, Nat.reduceMul, Nat.reduceLeDiff, Nat.reduceLT, Nat.reduceDiv, Nat.reduceSub, cval, cv, TS T] <;> rfl)) rfl ?_
    refine Wo.val rfl (by first | rfl | (simp only [MS, Nat.reduceBEq, Nat.reduceBNe, Nat.reduceEqDiff, reduceIte, if_true, if_false, reduceCtorEq, Nat.reduceAdd, Nat.reduceMul, Nat.reduceLeDiff, Nat.reduceLT, Nat.reduceDiv, Nat.reduceSub, cval, cv, TS T] <;> rfl)) rfl ?_
    refine Wo.nil ?_
    have x2 : Ext h1 h2 := ⟨by omega, fun b hb => hold2 b hb (fun h => h)⟩
    exact hn5 _ (Wc.ret (hr0 _ _ [.sl h1.n 0 n (some n) 1, .i .i64 0] rfl ⟨_, _, rfl, x0.trans x2, .inr ⟨h1.n, n, 6, cs, rfl, by omega, hl2, by omega, hg2, hcl2, hic2⟩⟩))

theorem S.f21_ok {tb fc} (T : S.Ty tb) {call call' callE : Caller} {lf : Nat} (hc : ∀ args h, call' (.fn 21) args h = runF tb fc call lf Tryz.f21 args h)
    (h38 : ∀ (r c : Int) (h : Hp), ∃ e : Int, call (.fn 38) [.i .i64 r, .i .i64 c] h = some (.ret (.i .i64 e), h) ∧ (e = 0 → 1 ≤ c ∧ c ≤ 1000))
    (h31 : ∀ {g : Nat} {caps : List V} {n : Nat} {W : Nat → Prop} {I : Hp → Prop}, n ≤ 1000000 → ElemOk callE g caps n W I → ∀ {h : Hp}, (∀ b, W b → b < h.n) → I h → (∀ h1 h2, I h1 → h.n ≤ h1.n → h1.n ≤ h2.n → (∀ b, b < h.n → h2.get b = h1.get b) → I h2) →
      ∃ h' cs, call (.fn 31) [.i .i64 n, .f (.func g) [] caps] h = some (.ret (.sl h.n 0 n (some n) 1), h') ∧ h.n < h'.n ∧ (∀ b, b < h.n → ¬ W b → h'.get b = h.get b) ∧ h'.get h.n = some (.blk 6 cs true) ∧ cs.length = n ∧ IntCells cs)
    (h40 : ∀ {h : Hp} {r c i e : Int} {p q s t1 t2 t3 : Nat} {w1 w2 : Bool}, 1 ≤ c → h.get s = some (.blk t3 [.i .i64 e] true) → h.get p = some (.blk t1 [.i .i64 r] w1) → h.get q = some (.blk t2 [.i .i64 c] w2) → ∃ x y : Int, callE (.fn 40) [.i .i64 i, .p s 0, .p p 0, .p q 0] h = some (.ret (.i .i64 x), h.set s (.blk t3 [.i .i64 y] true)) ∧ IntKind.i64.wrap x = x)
    (r c : Int) (h : Hp) : ∃ (v : V) (e : Int) (h' : Hp), call' (.fn 21) [.i .i64 r, .i .i64 c] h = some (.ret (.tup [v, .i .i64 e]), h') ∧ Ext h h' ∧ IntRes h h' v := by
  suffices H : Wf tb fc call lf Tryz.f21 [.i .i64 r, .i .i64 c] h (fun w h' => ∃ (v : V) (e : Int), w = .tup [v, .i .i64 e] ∧ Ext h h' ∧ IntRes h h' v) by
    obtain ⟨w, h', h1, v, e, rfl, h2⟩ := H
    exact ⟨v, e, h', by rw [hc]; exact h1, h2⟩
  obtain ⟨e, hcall, he⟩ := h38 r c ((h.push (.blk 6 [.i .i64 r] true)).push (.blk 6 [.i .i64 c] true))
  have x0 : Ext h ((h.push (.blk 6 [.i .i64 r] true)).push (.blk 6 [.i .i64 c] true)) := (Ext.push _ _).trans (Ext.push _ _)
  have gr : ((h.push (.blk 6 [.i .i64 r] true)).push (.blk 6 [.i .i64 c] true)).get h.n = some (.blk 6 [.i .i64 r] true) := by simp [Hp.get_push]
  have gc : ((h.push (.blk 6 [.i .i64 r] true)).push (.blk 6 [.i .i64 c] true)).get (h.n + 1) = some (.blk 6 [.i .i64 c] true) := by simp [Hp.get_push]
  have hnn : ((h.push (.blk 6 [.i .i64 r] true)).push (.blk 6 [.i .i64 c] true)).n = h.n + 1 + 1 := by simp
  refine Wf.intro (sz := 17) rfl rfl fun K hn0 hr0 => ?_
  repeat refine Wc.assoc ?_
  refine Wc.seq fun K1 hn1 hx1 => ?_
  refine Wc.rg ?_
  refine Wo.val rfl (by simp only [MS, Nat.reduceBEq, Nat.reduceBNe, Nat.reduceEqDiff, reduceIte, if_true, if_false, reduceCtorEq, Nat.reduceAdd, Nat.reduceMul, Nat.reduceLeDiff, Nat.reduceLT, Nat.reduceDiv, Nat.reduceSub, cval, cv, TS T] <;> rfl) rfl ?_
  refine Wo.val rfl (by simp only [MS, Nat.reduceBEq, Nat.reduceBNe, Nat.reduceEqDiff, reduceIte, if_true, if_false, reduceCtorEq, Nat.reduceAdd, Nat.reduceMul, Nat.reduceLeDiff, Nat.reduceLT, Nat.reduceDiv, Nat.reduceSub, cval, cv, TS T] <;> rfl) rfl ?_
  refine Wo.val rfl (by first | rfl | (simp only [MS, Nat.reduceBEq, Nat.reduceBNe, Nat.reduceEqDiff, reduceIte, if_true, if_false, reduceCtorEq, Nat.reduceAdd, Nat.reduceMul, Nat.reduceLeDiff, Nat.reduceLT, Nat.reduceDiv, Nat.reduceSub, cval, cv, TS T] <;> rfl)) rfl ?_
  refine Wo.val rfl (by first | rfl | (simp only [MS, Nat.reduceBEq, Nat.reduceBNe, Nat.reduceEqDiff, reduceIte, if_true, if_false, reduceCtorEq, Nat.reduceAdd, Nat.reduceMul, Nat.reduceLeDiff, Nat.reduceLT, Nat.reduceDiv, Nat.reduceSub, cval, cv, TS T] <;> rfl)) rfl ?_
  refine Wo.nil ?_
  refine hn1 _ ?_
  generalize ((h.push (.blk 6 [.i .i64 r] true)).push (.blk 6 [.i .i64 c] true)) = h1 at hcall x0 gr gc hnn ⊢
  repeat refine Wc.assoc ?_
  refine Wc.seq fun K2 hn2 hx2 => ?_
  refine Wc.rg ?_
  refine Wo.val rfl (by simp only [MS, Nat.reduceBEq, Nat.reduceBNe, Nat.reduceEqDiff, reduceIte, if_true, if_false, reduceCtorEq, Nat.reduceAdd, Nat.reduceMul, Nat.reduceLeDiff, Nat.reduceLT, Nat.reduceDiv, Nat.reduceSub, loadA, partV, TS T, gr, gc] <;> rfl) rfl ?_
  refine Wo.val rfl (by simp only [MS, Nat.reduceBEq, Nat.reduceBNe, Nat.reduceEqDiff, reduceIte, if_true, if_false, reduceCtorEq, Nat.reduceAdd, Nat.reduceMul, Nat.reduceLeDiff, Nat.reduceLT, Nat.reduceDiv, Nat.reduceSub, loadA, partV, TS T, gr, gc] <;> rfl) rfl ?_
  refine Wo.cl rfl rfl rfl (by first | rfl | (simp only [MS, Nat.reduceBEq, Nat.reduceBNe, Nat.reduceEqDiff, reduceIte, if_true, if_false, reduceCtorEq, Nat.reduceAdd, Nat.reduceMul, Nat.reduceLeDiff, Nat.reduceLT, Nat.reduceDiv, Nat.reduceSub, cval, cv, TS T, gr, gc] <;> rfl)) (by first | rfl | (simp only [MS, Nat.reduceBEq, Nat.reduceBNe, Nat.reduceEqDiff, reduceIte, if_true, if_false, reduceCtorEq, Nat.reduceAdd, Nat.reduceMul, Nat.reduceLeDiff, Nat.reduceLT, Nat.reduceDiv, Nat.reduceSub, cval, cv, TS T, gr, gc] <;> rfl)) (fun _ => rfl) ?_
  refine ⟨_, h1, hcall, ?_⟩
  refine Wo.val rfl (by first | rfl | (simp only [MS, Nat.reduceBEq, Nat.reduceBNe, Nat.reduceEqDiff, reduceIte, if_true, if_false, reduceCtorEq, Nat.reduceAdd, Nat.reduceMul, Nat.reduceLeDiff, Nat.reduceLT, Nat.reduceDiv, Nat.reduceSub, cval, cv, TS T] <;> rfl)) rfl ?_
  refine Wo.nil ?_
  refine hn2 _ ?_
  repeat refine Wc.assoc ?_
  refine Wc.seq fun K3 hn3 hx3 => ?_
  refine Wc.rg ?_
  refine Wo.val rfl (by first | rfl | (simp only [MS, Nat.reduceBEq, Nat.reduceBNe, Nat.reduceEqDiff, reduceIte, if_true, if_false, reduceCtorEq, Nat.reduceAdd, Nat.reduceMul, Nat.reduceLeDiff, Nat.reduceLT, Nat.reduceDiv, Nat.reduceSub, TS T] <;> rfl)) rfl ?_
  refine Wo.val rfl (by simp only [MS, Nat.reduceBEq, Nat.reduceBNe, Nat.reduceEqDiff, reduceIte, if_true, if_false, reduceCtorEq, Nat.reduceAdd, Nat.reduceMul, Nat.reduceLeDiff, Nat.reduceLT, Nat.reduceDiv, Nat.reduceSub, binA, arithA, strA, isC, cval, cv, TS T] <;> rfl) rfl ?_
  refine Wo.nil ?_
  refine hn3 _ ?_
  repeat refine Wc.assoc ?_
  refine Wc.seq fun K4 hn4 hx4 => ?_
  refine Wc.cond (t := e != 0) rfl (fun _ => ?_) fun hd => ?_
  · refine Wc.seq fun K5 hn5 hx5 => ?_
    refine Wc.rg ?_
    refine Wo.val rfl (by first | rfl | (simp only [MS, Nat.reduceBEq, Nat.reduceBNe, Nat.reduceEqDiff, reduceIte, if_true, if_false, reduceCtorEq, Nat.reduceAdd, Nat.reduceMul, Nat.reduceLeDiff, Nat.reduceLT, Nat.reduceDiv, Nat.reduceSub, TS T] <;> rfl)) rfl ?_
    refine Wo.val rfl (by first | rfl | (simp only [MS, Nat.reduceBEq, Nat.reduceBNe, Nat.reduceEqDiff, reduceIte, if_true, if_false, reduceCtorEq, Nat.reduceAdd, Nat.reduceMul, Nat.reduceLeDiff, Nat.reduceLT, Nat.reduceDiv, Nat.reduceSub, cval, cv, TS T] <;> rfl)) rfl ?_
    refine Wo.val rfl (by first | rfl | (simp only [MS, Nat.reduceBEq, Nat.reduceBNe, Nat.reduceEqDiff, reduceIte, if_true, if_false, reduceCtorEq, Nat.reduceAdd, Nat.reduceMul, Nat.reduceLeDiff, Nat.reduceLT, Nat.reduceDiv, Nat.reduceSub, cval, cv, TS T] <;> rfl)) rfl ?_
    refine Wo.nil ?_
    exact hn5 _ (Wc.ret (hx4 _ _ (by simp) (hr0 _ _ [.nils, .i .i64 e] rfl ⟨_, _, rfl, x0, .inl rfl⟩)))
  · refine Wc.skip (hn4 _ ?_)
    have he0 : e = 0 := by simpa using hd
    obtain ⟨hr1, hr2⟩ := he he0
    obtain ⟨n, rfl⟩ : ∃ n : Nat, c = n := ⟨c.toNat, by omega⟩
    have xe : Ext h1 (h1.push (.blk 6 [.i .i64 0] true)) := Ext.push _ _
    have ge : (h1.push (.blk 6 [.i .i64 0] true)).get h1.n = some (.blk 6 [.i .i64 0] true) := Hp.get_push_self _ _
    repeat refine Wc.assoc ?_
    refine Wc.seq fun K5 hn5 hx5 => ?_
    refine Wc.rg ?_
    refine Wo.val rfl (by simp only [MS, Nat.reduceBEq, Nat.reduceBNe, Nat.reduceEqDiff, reduceIte, if_true, if_false, reduceCtorEq, Nat.reduceAdd, Nat.reduceMul, Nat.reduceLeDiff, Nat.reduceLT, Nat.reduceDiv, Nat.reduceSub, TI.zero, TS T, and_self] <;> rfl) rfl ?_
    refine Wo.val rfl (by simp only [MS, Nat.reduceBEq, Nat.reduceBNe, Nat.reduceEqDiff, reduceIte, if_true, if_false, reduceCtorEq, Nat.reduceAdd, Nat.reduceMul, Nat.reduceLeDiff, Nat.reduceLT, Nat.reduceDiv, Nat.reduceSub, storeA, setAll, TI.zero, cval, cv, TS T, and_self] <;> rfl) rfl ?_
    refine Wo.nil ?_
    refine hn5 _ ?_
    have gst : ∀ o, (h1.push o).set h1.n (.blk 6 [.i .i64 0] true) = (h1.push o).set h1.n (.blk 6 [.i .i64 0] true) := fun _ => rfl
    have xe : Ext h1 ((h1.push (.blk 6 [.i .i64 0] true)).set h1.n (.blk 6 [.i .i64 0] true)) := (Ext.push _ _).set (Nat.le_refl _) _
    have ge : ((h1.push (.blk 6 [.i .i64 0] true)).set h1.n (.blk 6 [.i .i64 0] true)).get h1.n = some (.blk 6 [.i .i64 0] true) := Hp.get_set_self _ _ _
    have hen : ((h1.push (.blk 6 [.i .i64 0] true)).set h1.n (.blk 6 [.i .i64 0] true)).n = h1.n + 1 := by simp
    generalize (h1.push (.blk 6 [.i .i64 0] true)).set h1.n (.blk 6 [.i .i64 0] true) = h3 at xe ge hen ⊢
    have gr3 := (xe.old h.n (by omega)).trans gr
    have gc3 := (xe.old (h.n + 1) (by omega)).trans gc
    refine Wc.seq fun K6 hn6 hx6 => ?_
    refine Wc.rg ?_
    refine Wo.val rfl (by simp only [MS, Nat.reduceBEq, Nat.reduceBNe, Nat.reduceEqDiff, reduceIte, if_true, if_false, reduceCtorEq, Nat.reduceAdd, Nat.reduceMul, Nat.reduceLeDiff, Nat.reduceLT, Nat.reduceDiv, Nat.reduceSub, loadA, partV, TS T, gr3, gc3] <;> rfl) rfl ?_
    refine Wo.val rfl (by first | rfl | (simp only [MS, Nat.reduceBEq, Nat.reduceBNe, Nat.reduceEqDiff, reduceIte, if_true, if_false, reduceCtorEq, Nat.reduceAdd, Nat.reduceMul, Nat.reduceLeDiff, Nat.reduceLT, Nat.reduceDiv, Nat.reduceSub, TS T, gr3, gc3] <;> rfl)) rfl ?_
    refine Wo.cl rfl rfl rfl (by first | rfl | (simp only [MS, Nat.reduceBEq, Nat.reduceBNe, Nat.reduceEqDiff, reduceIte, if_true, if_false, reduceCtorEq, Nat.reduceAdd, Nat.reduceMul, Nat.reduceLeDiff, Nat.reduceLT, Nat.reduceDiv, Nat.reduceSub, cval, cv, TS T, gr3, gc3] <;> rfl)) (by first | rfl | (simp only [MS, Nat.reduceBEq, Nat.reduceBNe, Nat.reduceEqDiff, reduceIte, if_true, if_false, reduceCtorEq, Nat.reduceAdd, Nat.reduceMul, Nat.reduceLeDiff, Nat.reduceLT, Nat.reduceDiv, Nat.reduceSub, cval, cv, TS T, gr3, gc3] <;> rfl)) (fun _ => rfl) ?_
    obtain ⟨h2, cs, hcall2, hl2, hold2, hg2, hcl2, hic2⟩ := h31 (g := 40) (caps := [.p h1.n 0, .p h.n 0, .p (h.n + 1) 0]) (n := n) (W := fun b => b = h1.n) (I := fun hh => h3.n ≤ hh.n ∧ hh.get h.n = some (.blk 6 [.i .i64 r] true) ∧ hh.get (h.n + 1) = some (.blk 6 [.i .i64 (n : Int)] true) ∧ ∃ e : Int, hh.get h1.n = some (.blk 6 [.i .i64 e] true)) (by omega) (fun i hh hi hI => by
      obtain ⟨hI1, hI2, hI3, e', hI4⟩ := hI
      obtain ⟨x, y, hx, hxw⟩ := h40 (i := (i : Int)) hr1 hI4 hI2 hI3
      refine ⟨x, _, hx, hxw, by simp, fun b hb hw => Hp.get_set_ne _ _ hw, by simpa using hI1, ?_, ?_, y, Hp.get_set_self _ _ _⟩
      · rw [Hp.get_set_ne _ _ (by omega)]; exact hI2
      · rw [Hp.get_set_ne _ _ (by omega)]; exact hI3) (h := h3) (fun b hb => by omega) ⟨Nat.le_refl _, gr3, gc3, 0, ge⟩ (fun a1 a2 hI hle1 hle hs => by
        obtain ⟨hI1, hI2, hI3, e', hI4⟩ := hI
        exact ⟨by omega, (hs _ (by omega)).trans hI2, (hs _ (by omega)).trans hI3, e', (hs _ (by omega)).trans hI4⟩)
    refine ⟨_, h2, hcall2, ?_⟩
    refine Wo.val rfl (by first | rfl | (simp only [MS, Nat.reduceBEq, Nat.reduceBNe, Nat.reduceEqDiff, reduceIte, if_true, if_false, reduceCtorEq, Nat.reduceAdd, Nat.reduceMul, Nat.reduceLeDiff, Nat.reduceLT, Nat.reduceDiv, Nat.reduceSub, cval, cv, TS T] <;> rfl)) rfl ?_
    refine Wo.val rfl (by first | rfl | (simp only [MS, Nat.reduceBEq, Nat.reduceBNe, Nat.reduceEqDiff, reduceIte, if_true, if_false, reduceCtorEq, Nat.reduceAdd, Nat.reduceMul, Nat.reduceLeDiff, Nat.reduceLT, Nat.reduceDiv, Nat.reduceSub, cval, cv, TS T] <;> rfl)) rfl ?_
    refine Wo.nil ?_
    have x2 : Ext h h2 := ⟨by omega, fun b hb => (hold2 b (by omega) (by omega)).trans ((xe.old b (by omega)).trans (x0.old b hb))⟩
    exact hn6 _ (Wc.ret (hr0 _ _ [.sl h3.n 0 n (some n) 1, .i .i64 0] rfl ⟨_, _, rfl, x2, .inr ⟨h3.n, n, 6, cs, rfl, by omega, hl2, by omega, hg2, hcl2, hic2⟩⟩))

theorem S.f15_ok {tb fc} (T : S.Ty tb) {call call' callE : Caller} {lf : Nat} (hlf : 2000000000000 ≤ lf) (hc : ∀ args h, call' (.fn 15) args h = runF tb fc call lf Tryz.f15 args h)
    (h36 : ∀ n a b h, call (.fn 36) [.i .i64 n, .i .i64 a, .i .i64 b] h = some (.ret (.b (decide (a ≤ n ∧ n ≤ b))), h))
    (h31 : ∀ {g : Nat} {caps : List V} {n : Nat} {W : Nat → Prop} {I : Hp → Prop}, n ≤ 1000000 → ElemOk callE g caps n W I → ∀ {h : Hp}, (∀ b, W b → b < h.n) → I h → (∀ h1 h2, I h1 → h.n ≤ h1.n → h1.n ≤ h2.n → (∀ b, b < h.n → h2.get b = h1.get b) → I h2) →
      ∃ h' cs, call (.fn 31) [.i .i64 n, .f (.func g) [] caps] h = some (.ret (.sl h.n 0 n (some n) 1), h') ∧ h.n < h'.n ∧ (∀ b, b < h.n → ¬ W b → h'.get b = h.get b) ∧ h'.get h.n = some (.blk 6 cs true) ∧ cs.length = n ∧ IntCells cs)
    (h37 : ∀ {h : Hp} {v : V} {i : Nat} {x y : Int} {p t1 b1 b2 o1 o2 : Nat} {w1 : Bool}, i ≤ 1000000 → h.get p = some (.blk t1 [v] w1) → indexAddrA tb 22 v (.i .i64 ((i + 1 : Nat) : Int)) = some (.p b1 o1) → loadA tb h 3 (.p b1 o1) = some (.i .i64 x) → indexAddrA tb 22 v (.i .i64 (i : Int)) = some (.p b2 o2) → loadA tb h 3 (.p b2 o2) = some (.i .i64 y) → loadA tb h 22 (.p p 0) = some v →
      ∃ z : Int, callE (.fn 37) [.i .i64 i, .p p 0] h = some (.ret (.i .i64 z), h) ∧ IntKind.i64.wrap z = z)
    {G : Nat → Option BT} {rg : Nat} {rm : Bool} {h : Hp} {v : V} (hT : TOk G h) (hv : LfOk G rg rm (.sl [.int .i64]) v) : ∃ (w : V) (e : Int) (h' : Hp), call' (.fn 15) [v] h = some (.ret (.tup [w, .i .i64 e]), h') ∧ Ext h h' ∧ IntRes h h' w := by
  suffices H : Wf tb fc call lf Tryz.f15 [v] h (fun u h' => ∃ (w : V) (e : Int), u = .tup [w, .i .i64 e] ∧ Ext h h' ∧ IntRes h h' w) by
    obtain ⟨u, h', h1, w, e, rfl, h2⟩ := H
    exact ⟨w, e, h', by rw [hc]; exact h1, h2⟩
  obtain ⟨m, hlen, v', m', F, _, hv', R, _⟩ := rows_of (room := false) (sT := 22) (tb := tb) ⟨⟨_, _, _, T.t22, rfl, T.t3, rfl⟩, by simp⟩ hT hv (by simp)
  have hvv := hv' rfl; subst hvv
  have hmm : m' = m := by have := R.len; rw [hlen] at this; simp at this; omega
  subst hmm
  have hone := hv.one
  have hcel : v'.cells = [v'] := by
    simp only [LfOk] at hv
    rcases hv with rfl | ⟨_, b, rfl⟩ | ⟨b, o, n, c, t, m, rfl, _⟩ <;> rfl
  have x0 := Ext.push h (.blk 44 [v'] true)
  have gb : (h.push (.blk 44 [v'] true)).get h.n = some (.blk 44 [v'] true) := Hp.get_push_self _ _
  have hnn : (h.push (.blk 44 [v'] true)).n = h.n + 1 := by simp
  -- what lies in the list
  have hrow : ∀ hh, Ext h hh → ∀ i, i < m' → ∃ b o, ∃ x : Int, indexAddrA tb 22 v' (.i .i64 (i : Nat)) = some (.p b o) ∧ loadA tb hh 3 (.p b o) = some (.i .i64 x) := by
    intro hh hx i hi
    obtain ⟨b, o, t, hia, hGb, hreg, hrm, hsub, _⟩ := R.row i hi
    obtain ⟨hblt, ty, cs, rw', hg, hcl, _, hok⟩ := hT.blk b t hGb
    have hs0 := hsub 0 _ rfl
    have ho : o < cs.length := by rw [hcl]; exact (List.getElem?_eq_some_iff.1 hs0).1
    obtain ⟨x, hxx, _⟩ := hok o _ _ hs0 (List.getElem?_eq_getElem ho)
    exact ⟨b, o, x, hia, by simp [loadA, T.t3, hx.old b hblt, hg, partV, ho, hxx]⟩
  refine Wf.intro (sz := 25) rfl rfl fun K hn0 hr0 => ?_
  repeat refine Wc.assoc ?_
  refine Wc.seq fun K1 hn1 hx1 => ?_
  refine Wc.rg ?_
  refine Wo.val rfl (by simp only [MS, Nat.reduceBEq, Nat.reduceBNe, Nat.reduceEqDiff, reduceIte, if_true, if_false, reduceCtorEq, Nat.reduceAdd, Nat.reduceMul, Nat.reduceLeDiff, Nat.reduceLT, Nat.reduceDiv, Nat.reduceSub, cval, cv, TS T, hcel] <;> rfl) rfl ?_
  refine Wo.val rfl (by first | rfl | (simp only [MS, Nat.reduceBEq, Nat.reduceBNe, Nat.reduceEqDiff, reduceIte, if_true, if_false, reduceCtorEq, Nat.reduceAdd, Nat.reduceMul, Nat.reduceLeDiff, Nat.reduceLT, Nat.reduceDiv, Nat.reduceSub, cval, cv, TS T, hcel] <;> rfl)) rfl ?_
  refine Wo.val rfl (by first | rfl | (simp only [MS, Nat.reduceBEq, Nat.reduceBNe, Nat.reduceEqDiff, reduceIte, if_true, if_false, reduceCtorEq, Nat.reduceAdd, Nat.reduceMul, Nat.reduceLeDiff, Nat.reduceLT, Nat.reduceDiv, Nat.reduceSub, cval, cv, TS T, hcel] <;> rfl)) rfl ?_
  refine Wo.nil ?_
  refine hn1 _ ?_
  generalize h.push (.blk 44 [v'] true) = h1 at x0 gb hnn ⊢
  repeat refine Wc.assoc ?_
  refine Wc.seq fun K2 hn2 hx2 => ?_
  refine Wc.rg ?_
  refine Wo.val rfl (by simp only [MS, Nat.reduceBEq, Nat.reduceBNe, Nat.reduceEqDiff, reduceIte, if_true, if_false, reduceCtorEq, Nat.reduceAdd, Nat.reduceMul, Nat.reduceLeDiff, Nat.reduceLT, Nat.reduceDiv, Nat.reduceSub, loadA, partV, TS T, gb, hlen] <;> rfl) rfl ?_
  refine Wo.val rfl (by simp only [MS, Nat.reduceBEq, Nat.reduceBNe, Nat.reduceEqDiff, reduceIte, if_true, if_false, reduceCtorEq, Nat.reduceAdd, Nat.reduceMul, Nat.reduceLeDiff, Nat.reduceLT, Nat.reduceDiv, Nat.reduceSub, cval, cv, TS T, gb, hlen] <;> rfl) rfl ?_
  refine Wo.val rfl (by simp only [MS, Nat.reduceBEq, Nat.reduceBNe, Nat.reduceEqDiff, reduceIte, if_true, if_false, reduceCtorEq, Nat.reduceAdd, Nat.reduceMul, Nat.reduceLeDiff, Nat.reduceLT, Nat.reduceDiv, Nat.reduceSub, binA, arithA, strA, isC, cval, cv, TS T, gb, hlen] <;> rfl) rfl ?_
  refine Wo.nil ?_
  refine hn2 _ ?_
  repeat refine Wc.assoc ?_
  refine Wc.seq fun K3 hn3 hx3 => ?_
  refine Wc.cond (t := decide ((1001 : Int) < (m' : Int))) rfl (fun _ => ?_) fun hd => ?_
  · refine Wc.seq fun K4 hn4 hx4 => ?_
    refine Wc.rg ?_
    refine Wo.val rfl (by first | rfl | (simp only [MS, Nat.reduceBEq, Nat.reduceBNe, Nat.reduceEqDiff, reduceIte, if_true, if_false, reduceCtorEq, Nat.reduceAdd, Nat.reduceMul, Nat.reduceLeDiff, Nat.reduceLT, Nat.reduceDiv, Nat.reduceSub, cval, cv, TS T] <;> rfl)) rfl ?_
    refine Wo.val rfl (by first | rfl | (simp only [MS, Nat.reduceBEq, Nat.reduceBNe, Nat.reduceEqDiff, reduceIte, if_true, if_false, reduceCtorEq, Nat.reduceAdd, Nat.reduceMul, Nat.reduceLeDiff, Nat.reduceLT, Nat.reduceDiv, Nat.reduceSub, cval, cv, TS T] <;> rfl)) rfl ?_
    refine Wo.nil ?_
    exact hn4 _ (Wc.ret (hx3 _ _ (by simp) (hr0 _ _ [.nils, .i .i64 4] rfl ⟨_, _, rfl, x0, .inl rfl⟩)))
  · have hm : m' ≤ 1001 := by have := of_decide_eq_false hd; omega
    refine Wc.skip (hn3 _ ?_)
    repeat refine Wc.assoc ?_
    refine Wc.seq fun K4 hn4 hx4 => ?_
    refine Wc.rg ?_
    refine Wo.val rfl (by simp only [MS, Nat.reduceBEq, Nat.reduceBNe, Nat.reduceEqDiff, reduceIte, if_true, if_false, reduceCtorEq, Nat.reduceAdd, Nat.reduceMul, Nat.reduceLeDiff, Nat.reduceLT, Nat.reduceDiv, Nat.reduceSub, loadA, partV, TS T, gb, hlen] <;> rfl) rfl ?_
    refine Wo.val rfl (by simp only [MS, Nat.reduceBEq, Nat.reduceBNe, Nat.reduceEqDiff, reduceIte, if_true, if_false, reduceCtorEq, Nat.reduceAdd, Nat.reduceMul, Nat.reduceLeDiff, Nat.reduceLT, Nat.reduceDiv, Nat.reduceSub, cval, cv, TS T, gb, hlen] <;> rfl) rfl ?_
    refine Wo.val rfl (by first | rfl | (simp only [MS, Nat.reduceBEq, Nat.reduceBNe, Nat.reduceEqDiff, reduceIte, if_true, if_false, reduceCtorEq, Nat.reduceAdd, Nat.reduceMul, Nat.reduceLeDiff, Nat.reduceLT, Nat.reduceDiv, Nat.reduceSub, TS T, gb, hlen] <;> rfl)) rfl ?_
    refine Wo.nil ?_
    refine hn4 _ ?_
    repeat refine Wc.assoc ?_
    refine Wc.seq fun K5 hn5 hx5 => ?_
    refine Wc.block fun K6 hb6 hx6 => ?_
    refine Wc.loop (fun k s => ∃ (i : Nat) (fr : List (Nat × V)), s = ⟨fr, [], h1⟩ ∧ i + k = m' ∧ look fr 1 = some (.p h.n 0) ∧ look fr 9 = some v' ∧ look fr 10 = some (.i .i64 (m' : Nat)) ∧ look fr 11 = some (.i .i64 (i : Nat))) m' (by omega) ⟨0, _, rfl, by omega, rfl, rfl, rfl, rfl⟩ ?_
    rintro k _ ⟨i, fr, rfl, hik, f1, f9, f10, f11⟩ KL hnL hxL
    repeat refine Wc.assoc ?_
    refine Wc.seq fun K7 hn7 hx7 => ?_
    refine Wc.rg ?_
    refine Wo.val rfl (by simp only [MS, Nat.reduceBEq, Nat.reduceBNe, Nat.reduceEqDiff, reduceIte, if_true, if_false, reduceCtorEq, Nat.reduceAdd, Nat.reduceMul, Nat.reduceLeDiff, Nat.reduceLT, Nat.reduceDiv, Nat.reduceSub, binA, arithA, strA, isC, cval, cv, TS T, f10, f11] <;> rfl) rfl ?_
    refine Wo.nil ?_
    refine hn7 _ ?_
    refine Wc.seq fun K8 hn8 hx8 => ?_
    refine Wc.cond (t := decide ((i : Int) < (m' : Int))) rfl (fun hd => ?_) fun hd => ?_
    · refine Wc.skip (hn8 _ ?_)
      have hi : i < m' := by have := of_decide_eq_true hd; omega
      obtain ⟨b, o, x, hia, hld⟩ := hrow h1 x0 i hi
      refine Wc.seq fun K9 hn9 hx9 => ?_
      refine Wc.block fun K10 hb10 hx10 => ?_
      repeat refine Wc.assoc ?_
      refine Wc.seq fun K11 hn11 hx11 => ?_
      refine Wc.rg ?_
      refine Wo.val rfl (by simp only [MS, Nat.reduceBEq, Nat.reduceBNe, Nat.reduceEqDiff, reduceIte, if_true, if_false, reduceCtorEq, Nat.reduceAdd, Nat.reduceMul, Nat.reduceLeDiff, Nat.reduceLT, Nat.reduceDiv, Nat.reduceSub, cval, cv, TS T, f9, f11, hia, hld] <;> rfl) rfl ?_
      refine Wo.val rfl (by simp only [MS, Nat.reduceBEq, Nat.reduceBNe, Nat.reduceEqDiff, reduceIte, if_true, if_false, reduceCtorEq, Nat.reduceAdd, Nat.reduceMul, Nat.reduceLeDiff, Nat.reduceLT, Nat.reduceDiv, Nat.reduceSub, partV, TS T, f9, f11, hia, hld] <;> rfl) rfl ?_
      refine Wo.val rfl (by first | rfl | (simp only [MS, Nat.reduceBEq, Nat.reduceBNe, Nat.reduceEqDiff, reduceIte, if_true, if_false, reduceCtorEq, Nat.reduceAdd, Nat.reduceMul, Nat.reduceLeDiff, Nat.reduceLT, Nat.reduceDiv, Nat.reduceSub, cval, cv, TS T, f9, f11, hia, hld] <;> rfl)) rfl ?_
      refine Wo.nil ?_
      refine hn11 _ ?_
      repeat refine Wc.assoc ?_
      refine Wc.seq fun K12 hn12 hx12 => ?_
      refine Wc.rg ?_
      refine Wo.val rfl (by first | rfl | (simp only [MS, Nat.reduceBEq, Nat.reduceBNe, Nat.reduceEqDiff, reduceIte, if_true, if_false, reduceCtorEq, Nat.reduceAdd, Nat.reduceMul, Nat.reduceLeDiff, Nat.reduceLT, Nat.reduceDiv, Nat.reduceSub, TS T] <;> rfl)) rfl ?_
      refine Wo.cl rfl rfl rfl (by first | rfl | (simp only [MS, Nat.reduceBEq, Nat.reduceBNe, Nat.reduceEqDiff, reduceIte, if_true, if_false, reduceCtorEq, Nat.reduceAdd, Nat.reduceMul, Nat.reduceLeDiff, Nat.reduceLT, Nat.reduceDiv, Nat.reduceSub, cval, cv, TS T] <;> rfl)) (by first | rfl | (simp only [MS, Nat.reduceBEq, Nat.reduceBNe, Nat.reduceEqDiff, reduceIte, if_true, if_false, reduceCtorEq, Nat.reduceAdd, Nat.reduceMul, Nat.reduceLeDiff, Nat.reduceLT, Nat.reduceDiv, Nat.reduceSub, cval, cv, TS T] <;> rfl)) (fun _ => rfl) ?_
      refine ⟨_, h1, h36 _ _ _ _, ?_⟩
      refine Wo.val rfl (by simp only [MS, Nat.reduceBEq, Nat.reduceBNe, Nat.reduceEqDiff, reduceIte, if_true, if_false, reduceCtorEq, Nat.reduceAdd, Nat.reduceMul, Nat.reduceLeDiff, Nat.reduceLT, Nat.reduceDiv, Nat.reduceSub, unA, TS T] <;> rfl) rfl ?_
      refine Wo.nil ?_
      refine hn12 _ ?_
      refine Wc.cond rfl (fun _ => ?_) fun _ => ?_
      · refine Wc.seq fun K13 hn13 hx13 => ?_
        refine Wc.rg ?_
        refine Wo.val rfl (by first | rfl | (simp only [MS, Nat.reduceBEq, Nat.reduceBNe, Nat.reduceEqDiff, reduceIte, if_true, if_false, reduceCtorEq, Nat.reduceAdd, Nat.reduceMul, Nat.reduceLeDiff, Nat.reduceLT, Nat.reduceDiv, Nat.reduceSub, cval, cv, TS T] <;> rfl)) rfl ?_
        refine Wo.val rfl (by first | rfl | (simp only [MS, Nat.reduceBEq, Nat.reduceBNe, Nat.reduceEqDiff, reduceIte, if_true, if_false, reduceCtorEq, Nat.reduceAdd, Nat.reduceMul, Nat.reduceLeDiff, Nat.reduceLT, Nat.reduceDiv, Nat.reduceSub, cval, cv, TS T] <;> rfl)) rfl ?_
        refine Wo.nil ?_
        exact hn13 _ (Wc.ret (hx10 _ _ (by simp) (hx9 _ _ (by simp) (hxL _ _ (by simp) (hx6 _ _ (by simp) (hx5 _ _ (by simp) (hr0 _ _ [.nils, .i .i64 16] rfl ⟨_, _, rfl, x0, .inl rfl⟩)))))))
      · refine Wc.skip (hx10 _ _ (by simp) (hn9 _ ?_))
        have hw := w64 (n := i) (by omega)
        refine Wc.rg ?_
        refine Wo.val rfl (by simp only [MS, Nat.reduceBEq, Nat.reduceBNe, Nat.reduceEqDiff, reduceIte, if_true, if_false, reduceCtorEq, Nat.reduceAdd, Nat.reduceMul, Nat.reduceLeDiff, Nat.reduceLT, Nat.reduceDiv, Nat.reduceSub, binA, arithA, strA, isC, cval, cv, TS T, f11, hw] <;> rfl) rfl ?_
        refine Wo.val rfl (by first | rfl | (simp only [MS, Nat.reduceBEq, Nat.reduceBNe, Nat.reduceEqDiff, reduceIte, if_true, if_false, reduceCtorEq, Nat.reduceAdd, Nat.reduceMul, Nat.reduceLeDiff, Nat.reduceLT, Nat.reduceDiv, Nat.reduceSub, TS T, f11, hw] <;> rfl)) rfl ?_
        refine Wo.nil ?_
        exact hnL _ (k - 1) (by omega) ⟨i + 1, _, rfl, by omega, by simp [look, f1], by simp [look, f9], by simp [look, f10], rfl⟩
    · refine Wc.exit (hx8 _ _ (by simp) (hxL _ _ (by simp) (hb6 _ (hn5 _ ?_))))
      refine Wc.seq fun K9 hn9 hx9 => ?_
      have hmx : (if IntKind.i64.wrap ((m' : Int) - 1) > 0 then IntKind.i64.wrap ((m' : Int) - 1) else 0) = ((m' - 1 : Nat) : Int) := by
        rw [IntKind.wrap_i64]; split <;> omega
      have hbx : bltA tb .max #[3, 3] [.i .i64 0, .i .i64 (IntKind.i64.wrap ((m' : Int) - 1))] = some (.i .i64 ((m' - 1 : Nat) : Int)) := by
        simp only [bltA, intsA, intsA.go, if_true]; rw [← hmx]
      refine Wc.rg ?_
      refine Wo.val rfl (by simp only [MS, Nat.reduceBEq, Nat.reduceBNe, Nat.reduceEqDiff, reduceIte, if_true, if_false, reduceCtorEq, Nat.reduceAdd, Nat.reduceMul, Nat.reduceLeDiff, Nat.reduceLT, Nat.reduceDiv, Nat.reduceSub, loadA, partV, TS T, f1, gb, hlen, hbx] <;> rfl) rfl ?_
      refine Wo.val rfl (by simp only [MS, Nat.reduceBEq, Nat.reduceBNe, Nat.reduceEqDiff, reduceIte, if_true, if_false, reduceCtorEq, Nat.reduceAdd, Nat.reduceMul, Nat.reduceLeDiff, Nat.reduceLT, Nat.reduceDiv, Nat.reduceSub, cval, cv, TS T, f1, gb, hlen, hbx] <;> rfl) rfl ?_
      refine Wo.val rfl (by simp only [MS, Nat.reduceBEq, Nat.reduceBNe, Nat.reduceEqDiff, reduceIte, if_true, if_false, reduceCtorEq, Nat.reduceAdd, Nat.reduceMul, Nat.reduceLeDiff, Nat.reduceLT, Nat.reduceDiv, Nat.reduceSub, binA, arithA, strA, isC, cval, cv, TS T, f1, gb, hlen, hbx] <;> rfl) rfl ?_
      refine Wo.val rfl (by simp only [MS, Nat.reduceBEq, Nat.reduceBNe, Nat.reduceEqDiff, reduceIte, if_true, if_false, reduceCtorEq, Nat.reduceAdd, Nat.reduceMul, Nat.reduceLeDiff, Nat.reduceLT, Nat.reduceDiv, Nat.reduceSub, cval, cv, TS T, f1, gb, hlen, hbx] <;> rfl) rfl ?_
      refine Wo.val rfl (by first | rfl | (simp only [MS, Nat.reduceBEq, Nat.reduceBNe, Nat.reduceEqDiff, reduceIte, if_true, if_false, reduceCtorEq, Nat.reduceAdd, Nat.reduceMul, Nat.reduceLeDiff, Nat.reduceLT, Nat.reduceDiv, Nat.reduceSub, TS T, f1, gb, hlen, hbx] <;> rfl)) rfl ?_
      refine Wo.cl rfl rfl rfl (by first | rfl | (simp only [MS, Nat.reduceBEq, Nat.reduceBNe, Nat.reduceEqDiff, reduceIte, if_true, if_false, reduceCtorEq, Nat.reduceAdd, Nat.reduceMul, Nat.reduceLeDiff, Nat.reduceLT, Nat.reduceDiv, Nat.reduceSub, cval, cv, TS T, f1, gb, hlen, hbx] <;> rfl)) (by first | rfl | (simp only [MS, Nat.reduceBEq, Nat.reduceBNe, Nat.reduceEqDiff, reduceIte, if_true, if_false, reduceCtorEq, Nat.reduceAdd, Nat.reduceMul, Nat.reduceLeDiff, Nat.reduceLT, Nat.reduceDiv, Nat.reduceSub, cval, cv, TS T, f1, gb, hlen, hbx] <;> rfl)) (fun _ => rfl) ?_
      obtain ⟨h2, cs, hcall2, hl2, hold2, hg2, hcl2, hic2⟩ := h31 (g := 37) (caps := [.p h.n 0]) (n := m' - 1) (W := fun _ => False) (I := fun hh => h1.n ≤ hh.n ∧ ∀ b, b < h1.n → hh.get b = h1.get b) (by omega) (fun i hh hi hI => by
        have hxx : Ext h hh := x0.trans ⟨hI.1, hI.2⟩
        obtain ⟨b1, o1, x1, ha1, hl1⟩ := hrow hh hxx (i + 1) (by omega)
        obtain ⟨b2, o2, x2, ha2, hl2⟩ := hrow hh hxx i (by omega)
        have hgb := (hI.2 h.n (by omega)).trans gb
        obtain ⟨z, hz, hzw⟩ := h37 (i := i) (by omega) hgb ha1 hl1 ha2 hl2 (by simp [loadA, T.t22, hgb, partV])
        exact ⟨z, hh, hz, hzw, Nat.le_refl _, fun _ _ _ => rfl, hI⟩) (h := h1) (fun _ h => h.elim) ⟨Nat.le_refl _, fun _ _ => rfl⟩ (fun a1 a2 hI hle1 hle hs => ⟨by omega, fun b hb => (hs b hb).trans (hI.2 b hb)⟩)
      refine ⟨_, h2, hcall2, ?_⟩
      refine Wo.val rfl (by first | rfl | (simp only [MS, Nat.reduceBEq, Nat.reduceBNe, Nat.reduceEqDiff, reduceIte, if_true, if_false, reduceCtorEq, Nat.reduceAdd, Nat.reduceMul, Nat.reduceLeDiff, Nat.reduceLT, Nat.reduceDiv, Nat.reduceSub, cval, cv, TS T] <;> rfl)) rfl ?_
      refine Wo.val rfl (by first | rfl | (simp only [MS, Nat.reduceBEq, Nat.reduceBNe, Nat.reduceEqDiff, reduceIte, if_true, if_false, reduceCtorEq, Nat.reduceAdd, Nat.reduceMul, Nat.reduceLeDiff, Nat.reduceLT, Nat.reduceDiv, Nat.reduceSub, cval, cv, TS T] <;> rfl)) rfl ?_
      refine Wo.nil ?_
      have x2 : Ext h1 h2 := ⟨by omega, fun b hb => hold2 b hb (fun h => h)⟩
      exact hn9 _ (Wc.ret (hr0 _ _ [.sl h1.n 0 (m' - 1) (some (m' - 1)) 1, .i .i64 0] rfl ⟨_, _, rfl, x0.trans x2, .inr ⟨h1.n, m' - 1, 6, cs, rfl, by omega, hl2, by omega, hg2, hcl2, hic2⟩⟩))

end Go.Mx

/- The seat's calls: each answers with a closure that sees a list of its own. -/
namespace Go.Mx
open Go.Proofs
set_option maxRecDepth 100000
set_option maxHeartbeats 2000000

theorem IntRes.dat {h h' : Hp} {v : V} (H : IntRes h h' v) : v.cells = [v] ∧ v.one = true ∧ ∃ D : Nat → Option (List Lf), DatOk D h' ∧ (∀ b l, D b = some l → h.n ≤ b) ∧ ∀ r, LfOk (asReg D r) r false (.sl [.int .i64]) v := by
  rcases H with rfl | ⟨b, n, ty, cs, rfl, h1, h2, h3, h4, h5, h6⟩
  · exact ⟨rfl, rfl, fun _ => none, fun b l h => by (cases h), fun b l h => by (cases h), fun r => .inl rfl⟩
  · refine ⟨rfl, rfl, fun b' => if b' = b then some (repL n [.int .i64]) else none, fun b' l hb => ?_, fun b' l hb => ?_, fun r => ?_⟩
    · dsimp only at hb
      split at hb
      · rename_i e; subst e; cases hb
        refine ⟨h2, by rw [repL_length]; simp; omega, ty, cs, h4, by rw [repL_length, h5]; simp, fun j lf x hl hx r => ?_⟩
        have hj := (List.getElem?_eq_some_iff.1 hl).1
        rw [repL_length] at hj
        have := repL_get n [.int .i64] j 0 (by simpa using hj) (by simp)
        simp at this
        rw [this] at hl; cases hl
        exact h6 j x hx
      · cases hb
    · dsimp only at hb
      split at hb
      · rename_i e; subst e; exact h1
      · cases hb
    · refine .inr (.inr ⟨b, 0, n, some n, ⟨repL n [.int .i64], r, false, true⟩, n, rfl, by simp [asReg], rfl, rfl, Nat.le_refl _, by rw [repL_length]; simp, fun h => by (cases h), fun i hi j l hl => ?_⟩)
      rw [Nat.zero_add]
      exact (repL_get n _ i j hi (List.getElem?_eq_some_iff.1 hl).1).trans hl

def S.Tab (g : Nat) (ls : List Lf) : Prop := (g = 9 ∨ g = 13 ∨ g = 16 ∨ g = 19 ∨ g = 22) ∧ ls = [.sl [.int .i64]]
def S.ls : List Lf := [.int .i64, .int .i64, .int .i64, .sl [.int .i64], .int .i64]

theorem S.f7_ok {tb fc} (T : S.Ty tb) {call call' : Caller} {lf : Nat} (hc : ∀ args h, call' (.fn 7) args h = runF tb fc call lf Tryz.f7 args h)
    (hsub : ∀ (a b r : Int) (h : Hp), ∃ (v : V) (e : Int) (h' : Hp), call (.fn 8) [.i .i64 a, .i .i64 b, .i .i64 r] h = some (.ret (.tup [v, .i .i64 e]), h') ∧ Ext h h' ∧ IntRes h h' v) : CallsOk S.Tab call' 7 S.ls := by
  intro G r h yb rho hT hy
  obtain ⟨hylt, yty, yc, yrw, hyg, hyl, _, hyok⟩ := hT.blk yb _ hy
  simp only [S.ls, List.length_cons, List.length_nil] at hyl
  obtain ⟨x0, x1, x2, x3, x4, rfl⟩ : ∃ x0 x1 x2 x3 x4, yc = [x0, x1, x2, x3, x4] := by
    match yc, hyl with
    | [x0, x1, x2, x3, x4], _ => exact ⟨_, _, _, _, _, rfl⟩
  obtain ⟨n0, rfl, w0⟩ := hyok 0 _ _ rfl rfl
  obtain ⟨n1, rfl, w1⟩ := hyok 1 _ _ rfl rfl
  obtain ⟨n2, rfl, w2⟩ := hyok 2 _ _ rfl rfl
  have hx3 := hyok 3 _ _ rfl rfl
  obtain ⟨n4, rfl, w4⟩ := hyok 4 _ _ rfl rfl
  have xa := Ext.push h (.blk (2 * 22) [.nils] true)
  obtain ⟨v, e, h2, hcall, x2, hres⟩ := hsub n0 n1 n2 (h.push (.blk (2 * 22) [.nils] true))
  obtain ⟨hvc, hvo, D, hD, hDn, hDv⟩ := hres.dat
  have hn2 := x2.n
  simp only [Hp.n_push] at hn2
  have gbox : h2.get h.n = some (.blk 44 [.nils] true) := by rw [x2.old _ (by simp)]; simp [Hp.get_push]
  suffices H : Wf tb fc call lf Tryz.f7 [.p yb 0] h (fun w h' => w = .sl h2.n 0 1 (some 1) 1 ∧ h' = (h2.set h.n (.blk 44 [v] true)).push (.blk 72 [.f (.func 9) [] [.p h.n 0]] true)) by
    obtain ⟨w, h', h1, rfl, rfl⟩ := H
    have xx : Ext h (h2.set h.n (.blk 44 [v] true)) := (xa.trans x2).set (Nat.le_refl _) _
    have xf := xx.trans (Ext.push _ (.blk 72 [.f (.func 9) [] [.p h.n 0]] true))
    have hDb : ∀ b l, D b = some l → b ≠ h.n := fun b l hb => by have := hDn b l hb; simp at this; omega
    have hD4 : DatOk (boxD D h.n [.sl [.int .i64]]) ((h2.set h.n (.blk 44 [v] true)).push (.blk 72 [.f (.func 9) [] [.p h.n 0]] true)) := by
      refine hD.box (by simp) (fun b l hb => ?_) ?_ (by simp; omega) (by simp) (ty := 44) (vs := [v]) ?_ rfl ?_
      · have := (hD b l hb).1
        rw [Hp.get_push_ne _ _ (by simp; omega), Hp.get_set_ne _ _ (hDb b l hb)]
      · cases hd : D h.n with
        | none => rfl
        | some l => exact absurd rfl (hDb _ _ hd)
      · rw [Hp.get_push_ne _ _ (by simp; omega), Hp.get_set_self]
      · intro j lf x hl hx r
        match j with
        | 0 => cases hl; cases hx; exact hDv r
        | j + 1 => simp at hl
    have hGn : ∀ b, h.n ≤ b → G b = none := fun b hb => by
      cases hg : G b with
      | none => rfl
      | some t => have := (hT.blk b t hg).1; omega
    have hnew : ∀ b l, boxD D h.n [.sl [.int .i64]] b = some l → h.n ≤ b := fun b l hb => by
      unfold boxD at hb
      split at hb
      · omega
      · have := hDn b l hb; simp at this; omega
    refine ⟨_, _, addReg G (boxD D h.n [.sl [.int .i64]]) rho, 1, fun _ => ⟨9, h.n, [.sl [.int .i64]]⟩, by rw [hc]; exact h1, xf, (hT.ext xf).add hD4 (fun b l hb => hGn b (hnew b l hb)) rho, fun b hb => ?_, ⟨.inr ⟨h2.n, 72, [.f (.func 9) [] [.p h.n 0]], true, rfl, by simp, ?_, ?_, fun i hi => ?_⟩, fun i hi => ⟨⟨by simp, rfl⟩, ⟨by simp [wides, wide1], fun hh => by rw [flats_ss _ _ _ _ _ rfl]; simp⟩, ⟨[.sl [.int .i64]], rho, false, true⟩, by simp [addReg, boxD], by (simp; omega), fun j l hl => by simpa using hl⟩, by omega⟩, (fun b hb => by (simp only [blkOf, Option.some.injEq] at hb; omega)), fun b t hb hbt => ?_⟩
    · unfold addReg
      cases hd : boxD D h.n [.sl [.int .i64]] b with
      | none => rfl
      | some l => have := hnew b l hd; omega
    · unfold addReg
      cases hd : boxD D h.n [.sl [.int .i64]] h2.n with
      | none => exact hGn _ (by omega)
      | some l =>
        unfold boxD at hd
        split at hd
        · omega
        · have := (hD _ _ hd).1; omega
    · rw [show h2.n = (h2.set h.n (.blk 44 [v] true)).n from rfl]; exact Hp.get_push_self _ _
    · obtain rfl : i = 0 := by omega
      rfl
    · unfold addReg at hbt
      split at hbt
      · cases hbt; exact ⟨Nat.le_refl _, rfl⟩
      · rw [hGn b hb] at hbt; cases hbt
  have hge : (h2.set h.n (.blk 44 [v] true)).n = h2.n := rfl
  have hbs : ∀ hh : Hp, ∀ f : V, f.cells = [f] → f.one = true → buildSliceA tb hh 29 1 [(0, f)] = some (.sl hh.n 0 1 (some 1) 1, hh.push (.blk 72 [f] true)) := by
    intro hh f hf ho
    simp [buildSliceA, T.t29, T.t36, fillA, rep, TI.zero, hf, ho, setAll, cl_nilf]
  have hbs' := fun hh => hbs hh (.f (.func 9) [] [.p h.n 0]) rfl rfl
  have hyn : yb ≠ h.n := by omega
  refine Wf.intro (sz := 23) rfl rfl fun K hn0 hr0 => ?_
  repeat refine Wc.assoc ?_
  refine Wc.seq fun K1 hn1 hx1 => ?_
  refine Wc.rg ?_
  refine Wo.val rfl (by first | rfl | (simp only [MS, Nat.reduceBEq, Nat.reduceBNe, Nat.reduceEqDiff, reduceIte, if_true, if_false, reduceCtorEq, Nat.reduceAdd, Nat.reduceMul, Nat.reduceLeDiff, Nat.reduceLT, Nat.reduceDiv, Nat.reduceSub, cval, cv, TS T] <;> rfl)) rfl ?_
  refine Wo.nil ?_
  refine hn1 _ ?_
  repeat refine Wc.assoc ?_
  refine Wc.seq fun K2 hn2 hx2 => ?_
  refine Wc.drawn [.p 0 [6, 7, 8, 9, 10, 11, 12, 13, 14, 15, 16, 17, 5, 19, 20, 3] none, .p 1 [7, 8, 9, 10, 11, 12, 13, 14, 15, 16, 17, 5, 19, 20, 3] none, .p 2 [8, 9, 10, 11, 12, 13, 14, 15, 16, 17, 5, 19, 20, 3] none, .p 3 [9, 10, 11, 12, 13, 14, 15, 16, 17, 5, 19, 20, 3] none, .p 4 [6, 7, 8, 9, 10, 11, 12, 13, 14, 15, 16, 17, 5, 19, 20, 3] none, .p 5 [6, 7, 8, 9, 11, 12, 13, 14, 15, 16, 17, 5, 19, 20, 3] none, .p 6 [6, 7, 8, 9, 12, 13, 14, 15, 16, 17, 5, 19, 20, 3] none, .p 7 [6, 7, 8, 9, 13, 14, 15, 16, 17, 5, 19, 20, 3] none, .p 8 [6, 7, 8, 9, 10, 11, 12, 13, 14, 15, 16, 17, 5, 19, 20, 3] none, .p 9 [6, 7, 8, 9, 10, 11, 12, 13, 15, 16, 17, 5, 19, 20, 3] none, .p 10 [6, 7, 8, 9, 10, 11, 12, 13, 16, 17, 5, 19, 20, 3] none, .p 11 [6, 7, 8, 9, 10, 11, 12, 13, 17, 5, 19, 20, 3] none, .p 16 [6, 7, 8, 9, 10, 11, 12, 13, 14, 15, 16, 17, 18, 5, 19, 20, 3] none, .e 12 [18, 5, 19, 20, 3] none 4095, .p 13 [5, 19, 20, 3] none, .p 14 [19, 20, 3] none, .p 15 [19, 20, 3] none, .e 17 [20] none 98303, .e 18 [4] none 262143] (by kernel_rfl) ?_
  refine Wz.v rfl rfl rfl (by first | rfl | (simp only [MS, Nat.reduceBEq, Nat.reduceBNe, Nat.reduceEqDiff, reduceIte, if_true, if_false, reduceCtorEq, Nat.reduceAdd, Nat.reduceMul, Nat.reduceLeDiff, Nat.reduceLT, Nat.reduceDiv, Nat.reduceSub, evR, List.contains, List.elem, TS T, hyg, hyn] <;> rfl)) rfl ?_
  refine Wz.v rfl rfl rfl (by first | rfl | (simp only [MS, Nat.reduceBEq, Nat.reduceBNe, Nat.reduceEqDiff, reduceIte, if_true, if_false, reduceCtorEq, Nat.reduceAdd, Nat.reduceMul, Nat.reduceLeDiff, Nat.reduceLT, Nat.reduceDiv, Nat.reduceSub, okCheck, evR, List.contains, List.elem, TS T, hyg, hyn] <;> rfl)) rfl ?_
  refine Wz.v rfl rfl rfl (by simp only [MS, Nat.reduceBEq, Nat.reduceBNe, Nat.reduceEqDiff, reduceIte, if_true, if_false, reduceCtorEq, Nat.reduceAdd, Nat.reduceMul, Nat.reduceLeDiff, Nat.reduceLT, Nat.reduceDiv, Nat.reduceSub, evR, List.contains, List.elem, TS T, hyg, hyn] <;> rfl) rfl ?_
  refine Wz.ld rfl rfl rfl (by simp only [MS, Nat.reduceBEq, Nat.reduceBNe, Nat.reduceEqDiff, reduceIte, if_true, if_false, reduceCtorEq, Nat.reduceAdd, Nat.reduceMul, Nat.reduceLeDiff, Nat.reduceLT, Nat.reduceDiv, Nat.reduceSub, loadA, partV, evR, List.contains, List.elem, TS T, hyg, hyn] <;> rfl) rfl ?_
  refine Wz.v rfl rfl rfl (by first | rfl | (simp only [MS, Nat.reduceBEq, Nat.reduceBNe, Nat.reduceEqDiff, reduceIte, if_true, if_false, reduceCtorEq, Nat.reduceAdd, Nat.reduceMul, Nat.reduceLeDiff, Nat.reduceLT, Nat.reduceDiv, Nat.reduceSub, evR, List.contains, List.elem, TS T, hyg, hyn] <;> rfl)) rfl ?_
  refine Wz.v rfl rfl rfl (by first | rfl | (simp only [MS, Nat.reduceBEq, Nat.reduceBNe, Nat.reduceEqDiff, reduceIte, if_true, if_false, reduceCtorEq, Nat.reduceAdd, Nat.reduceMul, Nat.reduceLeDiff, Nat.reduceLT, Nat.reduceDiv, Nat.reduceSub, okCheck, evR, List.contains, List.elem, TS T, hyg, hyn] <;> rfl)) rfl ?_
  refine Wz.v rfl rfl rfl (by simp only [MS, Nat.reduceBEq, Nat.reduceBNe, Nat.reduceEqDiff, reduceIte, if_true, if_false, reduceCtorEq, Nat.reduceAdd, Nat.reduceMul, Nat.reduceLeDiff, Nat.reduceLT, Nat.reduceDiv, Nat.reduceSub, evR, List.contains, List.elem, TS T, hyg, hyn] <;> rfl) rfl ?_
  refine Wz.ld rfl rfl rfl (by simp only [MS, Nat.reduceBEq, Nat.reduceBNe, Nat.reduceEqDiff, reduceIte, if_true, if_false, reduceCtorEq, Nat.reduceAdd, Nat.reduceMul, Nat.reduceLeDiff, Nat.reduceLT, Nat.reduceDiv, Nat.reduceSub, loadA, partV, evR, List.contains, List.elem, TS T, hyg, hyn] <;> rfl) rfl ?_
  refine Wz.v rfl rfl rfl (by first | rfl | (simp only [MS, Nat.reduceBEq, Nat.reduceBNe, Nat.reduceEqDiff, reduceIte, if_true, if_false, reduceCtorEq, Nat.reduceAdd, Nat.reduceMul, Nat.reduceLeDiff, Nat.reduceLT, Nat.reduceDiv, Nat.reduceSub, evR, List.contains, List.elem, TS T, hyg, hyn] <;> rfl)) rfl ?_
  refine Wz.v rfl rfl rfl (by first | rfl | (simp only [MS, Nat.reduceBEq, Nat.reduceBNe, Nat.reduceEqDiff, reduceIte, if_true, if_false, reduceCtorEq, Nat.reduceAdd, Nat.reduceMul, Nat.reduceLeDiff, Nat.reduceLT, Nat.reduceDiv, Nat.reduceSub, okCheck, evR, List.contains, List.elem, TS T, hyg, hyn] <;> rfl)) rfl ?_
  refine Wz.v rfl rfl rfl (by simp only [MS, Nat.reduceBEq, Nat.reduceBNe, Nat.reduceEqDiff, reduceIte, if_true, if_false, reduceCtorEq, Nat.reduceAdd, Nat.reduceMul, Nat.reduceLeDiff, Nat.reduceLT, Nat.reduceDiv, Nat.reduceSub, evR, List.contains, List.elem, TS T, hyg, hyn] <;> rfl) rfl ?_
  refine Wz.ld rfl rfl rfl (by simp only [MS, Nat.reduceBEq, Nat.reduceBNe, Nat.reduceEqDiff, reduceIte, if_true, if_false, reduceCtorEq, Nat.reduceAdd, Nat.reduceMul, Nat.reduceLeDiff, Nat.reduceLT, Nat.reduceDiv, Nat.reduceSub, loadA, partV, evR, List.contains, List.elem, TS T, hyg, hyn] <;> rfl) rfl ?_
  refine Wz.al rfl rfl rfl T.t22 rfl (by repeat' first | exact ldsOk_nil | refine ldsOk_skip (by rfl) ?_ | refine ldsOk_cons (by simp only [MS, Nat.reduceBEq, Nat.reduceBNe, Nat.reduceEqDiff, reduceIte, if_true, if_false, reduceCtorEq, Nat.reduceAdd, Nat.reduceMul, Nat.reduceLeDiff, Nat.reduceLT, Nat.reduceDiv, Nat.reduceSub, evR, List.contains, List.elem, loadA, partV, TS T, hyg, hyn]) (by simp [vbeq, vbeqs, hyg, hyn]) ?_) ?_
  refine Wz.cl rfl rfl rfl rfl (by first | rfl | (simp only [MS, Nat.reduceBEq, Nat.reduceBNe, Nat.reduceEqDiff, reduceIte, if_true, if_false, reduceCtorEq, Nat.reduceAdd, Nat.reduceMul, Nat.reduceLeDiff, Nat.reduceLT, Nat.reduceDiv, Nat.reduceSub, cval, cv, evR, List.contains, List.elem, TS T, hyg, hyn] <;> rfl)) (by first | rfl | (simp only [MS, Nat.reduceBEq, Nat.reduceBNe, Nat.reduceEqDiff, reduceIte, if_true, if_false, reduceCtorEq, Nat.reduceAdd, Nat.reduceMul, Nat.reduceLeDiff, Nat.reduceLT, Nat.reduceDiv, Nat.reduceSub, cval, cv, evR, List.contains, List.elem, TS T, hyg, hyn] <;> rfl)) (fun _ => rfl) ?_
  refine ⟨_, h2, hcall, ?_, ?_, ?_⟩
  · repeat' first | exact ldsOk_nil | refine ldsOk_skip (by rfl) ?_
  · repeat' first | exact alsOk_nil | refine alsOk_skip (by rfl) ?_ | refine alsOk_cons (by simp [gbox, TI.zero, V.cells]) (by simp [TI.zero, V.cells, vbeqs, vbeq]) ?_
  refine Wz.v rfl rfl rfl (by first | rfl | (simp only [MS, Nat.reduceBEq, Nat.reduceBNe, Nat.reduceEqDiff, reduceIte, if_true, if_false, reduceCtorEq, Nat.reduceAdd, Nat.reduceMul, Nat.reduceLeDiff, Nat.reduceLT, Nat.reduceDiv, Nat.reduceSub, evR, List.contains, List.elem, TS T, hyg, hyn, gbox, hvc, hvo, and_self, true_and] <;> rfl)) rfl ?_
  refine Wz.v rfl rfl rfl (by first | rfl | (simp only [MS, Nat.reduceBEq, Nat.reduceBNe, Nat.reduceEqDiff, reduceIte, if_true, if_false, reduceCtorEq, Nat.reduceAdd, Nat.reduceMul, Nat.reduceLeDiff, Nat.reduceLT, Nat.reduceDiv, Nat.reduceSub, evR, List.contains, List.elem, TS T, hyg, hyn, gbox, hvc, hvo, and_self, true_and] <;> rfl)) rfl ?_
  refine Wz.v rfl rfl rfl (by first | rfl | (simp only [MS, Nat.reduceBEq, Nat.reduceBNe, Nat.reduceEqDiff, reduceIte, if_true, if_false, reduceCtorEq, Nat.reduceAdd, Nat.reduceMul, Nat.reduceLeDiff, Nat.reduceLT, Nat.reduceDiv, Nat.reduceSub, evR, List.contains, List.elem, TS T, hyg, hyn, gbox, hvc, hvo, and_self, true_and] <;> rfl)) rfl ?_
  refine Wz.e rfl rfl (by simp only [MS, Nat.reduceBEq, Nat.reduceBNe, Nat.reduceEqDiff, reduceIte, if_true, if_false, reduceCtorEq, Nat.reduceAdd, Nat.reduceMul, Nat.reduceLeDiff, Nat.reduceLT, Nat.reduceDiv, Nat.reduceSub, storeA, setAll, TI.zero, cval, cv, evR, List.contains, List.elem, TS T, hyg, hyn, gbox, hvc, hvo, and_self, true_and] <;> rfl) rfl (by repeat' first | exact ldsOk_nil | refine ldsOk_skip (by rfl) ?_ | refine ldsOk_cons (by simp only [MS, Nat.reduceBEq, Nat.reduceBNe, Nat.reduceEqDiff, reduceIte, if_true, if_false, reduceCtorEq, Nat.reduceAdd, Nat.reduceMul, Nat.reduceLeDiff, Nat.reduceLT, Nat.reduceDiv, Nat.reduceSub, evR, List.contains, List.elem, loadA, partV, TS T, hyg, hyn, gbox, hvc, hvo, and_self, true_and]) (by simp [vbeq, vbeqs, hyg, hyn, gbox, hvc, hvo, and_self, true_and]) ?_) (by repeat' first | exact alsOk_nil | refine alsOk_skip (by rfl) ?_ | refine alsOk_cons (by simp only [MS, Nat.reduceBEq, Nat.reduceBNe, Nat.reduceEqDiff, reduceIte, if_true, if_false, reduceCtorEq, Nat.reduceAdd, Nat.reduceMul, Nat.reduceLeDiff, Nat.reduceLT, Nat.reduceDiv, Nat.reduceSub, evR, List.contains, List.elem, loadA, partV, TS T, hyg, hyn, gbox, hvc, hvo, and_self, true_and]) (by simp [vbeq, vbeqs]) ?_) ?_
  refine Wz.e rfl rfl (by first | rfl | (simp only [MS, Nat.reduceBEq, Nat.reduceBNe, Nat.reduceEqDiff, reduceIte, if_true, if_false, reduceCtorEq, Nat.reduceAdd, Nat.reduceMul, Nat.reduceLeDiff, Nat.reduceLT, Nat.reduceDiv, Nat.reduceSub, cval, cv, evR, List.contains, List.elem, TS T, hyg, hyn, gbox, hvc, hvo, and_self, true_and] <;> rfl)) rfl (by repeat' first | exact ldsOk_nil | refine ldsOk_skip (by rfl) ?_ | refine ldsOk_cons (by simp only [MS, Nat.reduceBEq, Nat.reduceBNe, Nat.reduceEqDiff, reduceIte, if_true, if_false, reduceCtorEq, Nat.reduceAdd, Nat.reduceMul, Nat.reduceLeDiff, Nat.reduceLT, Nat.reduceDiv, Nat.reduceSub, evR, List.contains, List.elem, loadA, partV, TS T, hyg, hyn, gbox, hvc, hvo, and_self, true_and]) (by simp [vbeq, vbeqs, hyg, hyn, gbox, hvc, hvo, and_self, true_and]) ?_) (by repeat' first | exact alsOk_nil | refine alsOk_skip (by rfl) ?_ | refine alsOk_cons (by simp only [MS, Nat.reduceBEq, Nat.reduceBNe, Nat.reduceEqDiff, reduceIte, if_true, if_false, reduceCtorEq, Nat.reduceAdd, Nat.reduceMul, Nat.reduceLeDiff, Nat.reduceLT, Nat.reduceDiv, Nat.reduceSub, evR, List.contains, List.elem, loadA, partV, TS T, hyg, hyn, gbox, hvc, hvo, and_self, true_and]) (by simp [vbeq, vbeqs]) ?_) ?_
  refine Wz.nil ?_
  refine hn2 _ ?_
  refine Wc.seq fun K3 hn3 hx3 => ?_
  refine Wc.rg ?_
  refine Wo.val rfl (by first | rfl | (simp only [MS, Nat.reduceBEq, Nat.reduceBNe, Nat.reduceEqDiff, reduceIte, if_true, if_false, reduceCtorEq, Nat.reduceAdd, Nat.reduceMul, Nat.reduceLeDiff, Nat.reduceLT, Nat.reduceDiv, Nat.reduceSub, TS T, hbs', hge] <;> rfl)) rfl ?_
  refine Wo.val rfl (by simp only [MS, Nat.reduceBEq, Nat.reduceBNe, Nat.reduceEqDiff, reduceIte, if_true, if_false, reduceCtorEq, Nat.reduceAdd, Nat.reduceMul, Nat.reduceLeDiff, Nat.reduceLT, Nat.reduceDiv, Nat.reduceSub, partsA, cval, cv, TS T, hbs', hge] <;> rfl) rfl ?_
  refine Wo.val rfl (by first | rfl | (simp only [MS, Nat.reduceBEq, Nat.reduceBNe, Nat.reduceEqDiff, reduceIte, if_true, if_false, reduceCtorEq, Nat.reduceAdd, Nat.reduceMul, Nat.reduceLeDiff, Nat.reduceLT, Nat.reduceDiv, Nat.reduceSub, cval, cv, TS T, hbs', hge] <;> rfl)) rfl ?_
  refine Wo.nil ?_
  exact hn3 _ (Wc.ret (hr0 _ _ [_] rfl ⟨rfl, rfl⟩))

theorem S.f11_ok {tb fc} (T : S.Ty tb) {call call' : Caller} {lf : Nat} (hc : ∀ args h, call' (.fn 11) args h = runF tb fc call lf Tryz.f11 args h)
    (hsub : ∀ (a b r : Int) (h : Hp), ∃ (v : V) (e : Int) (h' : Hp), call (.fn 12) [.i .i64 a, .i .i64 b, .i .i64 r] h = some (.ret (.tup [v, .i .i64 e]), h') ∧ Ext h h' ∧ IntRes h h' v) : CallsOk S.Tab call' 11 S.ls := by
  intro G r h yb rho hT hy
  obtain ⟨hylt, yty, yc, yrw, hyg, hyl, _, hyok⟩ := hT.blk yb _ hy
  simp only [S.ls, List.length_cons, List.length_nil] at hyl
  obtain ⟨x0, x1, x2, x3, x4, rfl⟩ : ∃ x0 x1 x2 x3 x4, yc = [x0, x1, x2, x3, x4] := by
    match yc, hyl with
    | [x0, x1, x2, x3, x4], _ => exact ⟨_, _, _, _, _, rfl⟩
  obtain ⟨n0, rfl, w0⟩ := hyok 0 _ _ rfl rfl
  obtain ⟨n1, rfl, w1⟩ := hyok 1 _ _ rfl rfl
  obtain ⟨n2, rfl, w2⟩ := hyok 2 _ _ rfl rfl
  have hx3 := hyok 3 _ _ rfl rfl
  obtain ⟨n4, rfl, w4⟩ := hyok 4 _ _ rfl rfl
  have xa := Ext.push h (.blk (2 * 22) [.nils] true)
  obtain ⟨v, e, h2, hcall, x2, hres⟩ := hsub n0 n1 n2 (h.push (.blk (2 * 22) [.nils] true))
  obtain ⟨hvc, hvo, D, hD, hDn, hDv⟩ := hres.dat
  have hn2 := x2.n
  simp only [Hp.n_push] at hn2
  have gbox : h2.get h.n = some (.blk 44 [.nils] true) := by rw [x2.old _ (by simp)]; simp [Hp.get_push]
  suffices H : Wf tb fc call lf Tryz.f11 [.p yb 0] h (fun w h' => w = .sl h2.n 0 1 (some 1) 1 ∧ h' = (h2.set h.n (.blk 44 [v] true)).push (.blk 72 [.f (.func 13) [] [.p h.n 0]] true)) by
    obtain ⟨w, h', h1, rfl, rfl⟩ := H
    have xx : Ext h (h2.set h.n (.blk 44 [v] true)) := (xa.trans x2).set (Nat.le_refl _) _
    have xf := xx.trans (Ext.push _ (.blk 72 [.f (.func 13) [] [.p h.n 0]] true))
    have hDb : ∀ b l, D b = some l → b ≠ h.n := fun b l hb => by have := hDn b l hb; simp at this; omega
    have hD4 : DatOk (boxD D h.n [.sl [.int .i64]]) ((h2.set h.n (.blk 44 [v] true)).push (.blk 72 [.f (.func 13) [] [.p h.n 0]] true)) := by
      refine hD.box (by simp) (fun b l hb => ?_) ?_ (by simp; omega) (by simp) (ty := 44) (vs := [v]) ?_ rfl ?_
      · have := (hD b l hb).1
        rw [Hp.get_push_ne _ _ (by simp; omega), Hp.get_set_ne _ _ (hDb b l hb)]
      · cases hd : D h.n with
        | none => rfl
        | some l => exact absurd rfl (hDb _ _ hd)
      · rw [Hp.get_push_ne _ _ (by simp; omega), Hp.get_set_self]
      · intro j lf x hl hx r
        match j with
        | 0 => cases hl; cases hx; exact hDv r
        | j + 1 => simp at hl
    have hGn : ∀ b, h.n ≤ b → G b = none := fun b hb => by
      cases hg : G b with
      | none => rfl
      | some t => have := (hT.blk b t hg).1; omega
    have hnew : ∀ b l, boxD D h.n [.sl [.int .i64]] b = some l → h.n ≤ b := fun b l hb => by
      unfold boxD at hb
      split at hb
      · omega
      · have := hDn b l hb; simp at this; omega
    refine ⟨_, _, addReg G (boxD D h.n [.sl [.int .i64]]) rho, 1, fun _ => ⟨13, h.n, [.sl [.int .i64]]⟩, by rw [hc]; exact h1, xf, (hT.ext xf).add hD4 (fun b l hb => hGn b (hnew b l hb)) rho, fun b hb => ?_, ⟨.inr ⟨h2.n, 72, [.f (.func 13) [] [.p h.n 0]], true, rfl, by simp, ?_, ?_, fun i hi => ?_⟩, fun i hi => ⟨⟨by simp, rfl⟩, ⟨by simp [wides, wide1], fun hh => by rw [flats_ss _ _ _ _ _ rfl]; simp⟩, ⟨[.sl [.int .i64]], rho, false, true⟩, by simp [addReg, boxD], by (simp; omega), fun j l hl => by simpa using hl⟩, by omega⟩, (fun b hb => by (simp only [blkOf, Option.some.injEq] at hb; omega)), fun b t hb hbt => ?_⟩
    · unfold addReg
      cases hd : boxD D h.n [.sl [.int .i64]] b with
      | none => rfl
      | some l => have := hnew b l hd; omega
    · unfold addReg
      cases hd : boxD D h.n [.sl [.int .i64]] h2.n with
      | none => exact hGn _ (by omega)
      | some l =>
        unfold boxD at hd
        split at hd
        · omega
        · have := (hD _ _ hd).1; omega
    · rw [show h2.n = (h2.set h.n (.blk 44 [v] true)).n from rfl]; exact Hp.get_push_self _ _
    · obtain rfl : i = 0 := by omega
      rfl
    · unfold addReg at hbt
      split at hbt
      · cases hbt; exact ⟨Nat.le_refl _, rfl⟩
      · rw [hGn b hb] at hbt; cases hbt
  have hge : (h2.set h.n (.blk 44 [v] true)).n = h2.n := rfl
  have hbs : ∀ hh : Hp, ∀ f : V, f.cells = [f] → f.one = true → buildSliceA tb hh 29 1 [(0, f)] = some (.sl hh.n 0 1 (some 1) 1, hh.push (.blk 72 [f] true)) := by
    intro hh f hf ho
    simp [buildSliceA, T.t29, T.t36, fillA, rep, TI.zero, hf, ho, setAll, cl_nilf]
  have hbs' := fun hh => hbs hh (.f (.func 13) [] [.p h.n 0]) rfl rfl
  have hyn : yb ≠ h.n := by omega
  refine Wf.intro (sz := 23) rfl rfl fun K hn0 hr0 => ?_
  repeat refine Wc.assoc ?_
  refine Wc.seq fun K1 hn1 hx1 => ?_
  refine Wc.rg ?_
  refine Wo.val rfl (by first | rfl | (simp only [MS, Nat.reduceBEq, Nat.reduceBNe, Nat.reduceEqDiff, reduceIte, if_true, if_false, reduceCtorEq, Nat.reduceAdd, Nat.reduceMul, Nat.reduceLeDiff, Nat.reduceLT, Nat.reduceDiv, Nat.reduceSub, cval, cv, TS T] <;> rfl)) rfl ?_
  refine Wo.nil ?_
  refine hn1 _ ?_
  repeat refine Wc.assoc ?_
  refine Wc.seq fun K2 hn2 hx2 => ?_
  refine Wc.drawn [.p 0 [6, 7, 8, 9, 10, 11, 12, 13, 14, 15, 16, 17, 5, 19, 20, 3] none, .p 1 [7, 8, 9, 10, 11, 12, 13, 14, 15, 16, 17, 5, 19, 20, 3] none, .p 2 [8, 9, 10, 11, 12, 13, 14, 15, 16, 17, 5, 19, 20, 3] none, .p 3 [9, 10, 11, 12, 13, 14, 15, 16, 17, 5, 19, 20, 3] none, .p 4 [6, 7, 8, 9, 10, 11, 12, 13, 14, 15, 16, 17, 5, 19, 20, 3] none, .p 5 [6, 7, 8, 9, 11, 12, 13, 14, 15, 16, 17, 5, 19, 20, 3] none, .p 6 [6, 7, 8, 9, 12, 13, 14, 15, 16, 17, 5, 19, 20, 3] none, .p 7 [6, 7, 8, 9, 13, 14, 15, 16, 17, 5, 19, 20, 3] none, .p 8 [6, 7, 8, 9, 10, 11, 12, 13, 14, 15, 16, 17, 5, 19, 20, 3] none, .p 9 [6, 7, 8, 9, 10, 11, 12, 13, 15, 16, 17, 5, 19, 20, 3] none, .p 10 [6, 7, 8, 9, 10, 11, 12, 13, 16, 17, 5, 19, 20, 3] none, .p 11 [6, 7, 8, 9, 10, 11, 12, 13, 17, 5, 19, 20, 3] none, .p 16 [6, 7, 8, 9, 10, 11, 12, 13, 14, 15, 16, 17, 18, 5, 19, 20, 3] none, .e 12 [18, 5, 19, 20, 3] none 4095, .p 13 [5, 19, 20, 3] none, .p 14 [19, 20, 3] none, .p 15 [19, 20, 3] none, .e 17 [20] none 98303, .e 18 [4] none 262143] (by kernel_rfl) ?_
  refine Wz.v rfl rfl rfl (by first | rfl | (simp only [MS, Nat.reduceBEq, Nat.reduceBNe, Nat.reduceEqDiff, reduceIte, if_true, if_false, reduceCtorEq, Nat.reduceAdd, Nat.reduceMul, Nat.reduceLeDiff, Nat.reduceLT, Nat.reduceDiv, Nat.reduceSub, evR, List.contains, List.elem, TS T, hyg, hyn] <;> rfl)) rfl ?_
  refine Wz.v rfl rfl rfl (by first | rfl | (simp only [MS, Nat.reduceBEq, Nat.reduceBNe, Nat.reduceEqDiff, reduceIte, if_true, if_false, reduceCtorEq, Nat.reduceAdd, Nat.reduceMul, Nat.reduceLeDiff, Nat.reduceLT, Nat.reduceDiv, Nat.reduceSub, okCheck, evR, List.contains, List.elem, TS T, hyg, hyn] <;> rfl)) rfl ?_
  refine Wz.v rfl rfl rfl (by simp only [MS, Nat.reduceBEq, Nat.reduceBNe, Nat.reduceEqDiff, reduceIte, if_true, if_false, reduceCtorEq, Nat.reduceAdd, Nat.reduceMul, Nat.reduceLeDiff, Nat.reduceLT, Nat.reduceDiv, Nat.reduceSub, evR, List.contains, List.elem, TS T, hyg, hyn] <;> rfl) rfl ?_
  refine Wz.ld rfl rfl rfl (by simp only [MS, Nat.reduceBEq, Nat.reduceBNe, Nat.reduceEqDiff, reduceIte, if_true, if_false, reduceCtorEq, Nat.reduceAdd, Nat.reduceMul, Nat.reduceLeDiff, Nat.reduceLT, Nat.reduceDiv, Nat.reduceSub, loadA, partV, evR, List.contains, List.elem, TS T, hyg, hyn] <;> rfl) rfl ?_
  refine Wz.v rfl rfl rfl (by first | rfl | (simp only [MS, Nat.reduceBEq, Nat.reduceBNe, Nat.reduceEqDiff, reduceIte, if_true, if_false, reduceCtorEq, Nat.reduceAdd, Nat.reduceMul, Nat.reduceLeDiff, Nat.reduceLT, Nat.reduceDiv, Nat.reduceSub, evR, List.contains, List.elem, TS T, hyg, hyn] <;> rfl)) rfl ?_
  refine Wz.v rfl rfl rfl (by first | rfl | (simp only [MS, Nat.reduceBEq, Nat.reduceBNe, Nat.reduceEqDiff, reduceIte, if_true, if_false, reduceCtorEq, Nat.reduceAdd, Nat.reduceMul, Nat.reduceLeDiff, Nat.reduceLT, Nat.reduceDiv, Nat.reduceSub, okCheck, evR, List.contains, List.elem, TS T, hyg, hyn] <;> rfl)) rfl ?_
  refine Wz.v rfl rfl rfl (by simp only [MS, Nat.reduceBEq, Nat.reduceBNe, Nat.reduceEqDiff, reduceIte, if_true, if_false, reduceCtorEq, Nat.reduceAdd, Nat.reduceMul, Nat.reduceLeDiff, Nat.reduceLT, Nat.reduceDiv, Nat.reduceSub, evR, List.contains, List.elem, TS T, hyg, hyn] <;> rfl) rfl ?_
  refine Wz.ld rfl rfl rfl (by simp only [MS, Nat.reduceBEq, Nat.reduceBNe, Nat.reduceEqDiff, reduceIte, if_true, if_false, reduceCtorEq, Nat.reduceAdd, Nat.reduceMul, Nat.reduceLeDiff, Nat.reduceLT, Nat.reduceDiv, Nat.reduceSub, loadA, partV, evR, List.contains, List.elem, TS T, hyg, hyn] <;> rfl) rfl ?_
  refine Wz.v rfl rfl rfl (by first | rfl | (simp only [MS, Nat.reduceBEq, Nat.reduceBNe, Nat.reduceEqDiff, reduceIte, if_true, if_false, reduceCtorEq, Nat.reduceAdd, Nat.reduceMul, Nat.reduceLeDiff, Nat.reduceLT, Nat.reduceDiv, Nat.reduceSub, evR, List.contains, List.elem, TS T, hyg, hyn] <;> rfl)) rfl ?_
  refine Wz.v rfl rfl rfl (by first | rfl | (simp only [MS, Nat.reduceBEq, Nat.reduceBNe, Nat.reduceEqDiff, reduceIte, if_true, if_false, reduceCtorEq, Nat.reduceAdd, Nat.reduceMul, Nat.reduceLeDiff, Nat.reduceLT, Nat.reduceDiv, Nat.reduceSub, okCheck, evR, List.contains, List.elem, TS T, hyg, hyn] <;> rfl)) rfl ?_
  refine Wz.v rfl rfl rfl (by simp only [MS, Nat.reduceBEq, Nat.reduceBNe, Nat.reduceEqDiff, reduceIte, if_true, if_false, reduceCtorEq, Nat.reduceAdd, Nat.reduceMul, Nat.reduceLeDiff, Nat.reduceLT, Nat.reduceDiv, Nat.reduceSub, evR, List.contains, List.elem, TS T, hyg, hyn] <;> rfl) rfl ?_
  refine Wz.ld rfl rfl rfl (by simp only [MS, Nat.reduceBEq, Nat.reduceBNe, Nat.reduceEqDiff, reduceIte, if_true, if_false, reduceCtorEq, Nat.reduceAdd, Nat.reduceMul, Nat.reduceLeDiff, Nat.reduceLT, Nat.reduceDiv, Nat.reduceSub, loadA, partV, evR, List.contains, List.elem, TS T, hyg, hyn] <;> rfl) rfl ?_
  refine Wz.al rfl rfl rfl T.t22 rfl (by repeat' first | exact ldsOk_nil | refine ldsOk_skip (by rfl) ?_ | refine ldsOk_cons (by simp only [MS, Nat.reduceBEq, Nat.reduceBNe, Nat.reduceEqDiff, reduceIte, if_true, if_false, reduceCtorEq, Nat.reduceAdd, Nat.reduceMul, Nat.reduceLeDiff, Nat.reduceLT, Nat.reduceDiv, Nat.reduceSub, evR, List.contains, List.elem, loadA, partV, TS T, hyg, hyn]) (by simp [vbeq, vbeqs, hyg, hyn]) ?_) ?_
  refine Wz.cl rfl rfl rfl rfl (by first | rfl | (simp only [MS, Nat.reduceBEq, Nat.reduceBNe, Nat.reduceEqDiff, reduceIte, if_true, if_false, reduceCtorEq, Nat.reduceAdd, Nat.reduceMul, Nat.reduceLeDiff, Nat.reduceLT, Nat.reduceDiv, Nat.reduceSub, cval, cv, evR, List.contains, List.elem, TS T, hyg, hyn] <;> rfl)) (by first | rfl | (simp only [MS, Nat.reduceBEq, Nat.reduceBNe, Nat.reduceEqDiff, reduceIte, if_true, if_false, reduceCtorEq, Nat.reduceAdd, Nat.reduceMul, Nat.reduceLeDiff, Nat.reduceLT, Nat.reduceDiv, Nat.reduceSub, cval, cv, evR, List.contains, List.elem, TS T, hyg, hyn] <;> rfl)) (fun _ => rfl) ?_
  refine ⟨_, h2, hcall, ?_, ?_, ?_⟩
  · repeat' first | exact ldsOk_nil | refine ldsOk_skip (by rfl) ?_
  · repeat' first | exact alsOk_nil | refine alsOk_skip (by rfl) ?_ | refine alsOk_cons (by simp [gbox, TI.zero, V.cells]) (by simp [TI.zero, V.cells, vbeqs, vbeq]) ?_
  refine Wz.v rfl rfl rfl (by first | rfl | (simp only [MS, Nat.reduceBEq, Nat.reduceBNe, Nat.reduceEqDiff, reduceIte, if_true, if_false, reduceCtorEq, Nat.reduceAdd, Nat.reduceMul, Nat.reduceLeDiff, Nat.reduceLT, Nat.reduceDiv, Nat.reduceSub, evR, List.contains, List.elem, TS T, hyg, hyn, gbox, hvc, hvo, and_self, true_and] <;> rfl)) rfl ?_
  refine Wz.v rfl rfl rfl (by first | rfl | (simp only [MS, Nat.reduceBEq, Nat.reduceBNe, Nat.reduceEqDiff, reduceIte, if_true, if_false, reduceCtorEq, Nat.reduceAdd, Nat.reduceMul, Nat.reduceLeDiff, Nat.reduceLT, Nat.reduceDiv, Nat.reduceSub, evR, List.contains, List.elem, TS T, hyg, hyn, gbox, hvc, hvo, and_self, true_and] <;> rfl)) rfl ?_
  refine Wz.v rfl rfl rfl (by first | rfl | (simp only [MS, Nat.reduceBEq, Nat.reduceBNe, Nat.reduceEqDiff, reduceIte, if_true, if_false, reduceCtorEq, Nat.reduceAdd, Nat.reduceMul, Nat.reduceLeDiff, Nat.reduceLT, Nat.reduceDiv, Nat.reduceSub, evR, List.contains, List.elem, TS T, hyg, hyn, gbox, hvc, hvo, and_self, true_and] <;> rfl)) rfl ?_
  refine Wz.e rfl rfl (by simp only [MS, Nat.reduceBEq, Nat.reduceBNe, Nat.reduceEqDiff, reduceIte, if_true, if_false, reduceCtorEq, Nat.reduceAdd, Nat.reduceMul, Nat.reduceLeDiff, Nat.reduceLT, Nat.reduceDiv, Nat.reduceSub, storeA, setAll, TI.zero, cval, cv, evR, List.contains, List.elem, TS T, hyg, hyn, gbox, hvc, hvo, and_self, true_and] <;> rfl) rfl (by repeat' first | exact ldsOk_nil | refine ldsOk_skip (by rfl) ?_ | refine ldsOk_cons (by simp only [MS, Nat.reduceBEq, Nat.reduceBNe, Nat.reduceEqDiff, reduceIte, if_true, if_false, reduceCtorEq, Nat.reduceAdd, Nat.reduceMul, Nat.reduceLeDiff, Nat.reduceLT, Nat.reduceDiv, Nat.reduceSub, evR, List.contains, List.elem, loadA, partV, TS T, hyg, hyn, gbox, hvc, hvo, and_self, true_and]) (by simp [vbeq, vbeqs, hyg, hyn, gbox, hvc, hvo, and_self, true_and]) ?_) (by repeat' first | exact alsOk_nil | refine alsOk_skip (by rfl) ?_ | refine alsOk_cons (by simp only [MS, Nat.reduceBEq, Nat.reduceBNe, Nat.reduceEqDiff, reduceIte, if_true, if_false, reduceCtorEq, Nat.reduceAdd, Nat.reduceMul, Nat.reduceLeDiff, Nat.reduceLT, Nat.reduceDiv, Nat.reduceSub, evR, List.contains, List.elem, loadA, partV, TS T, hyg, hyn, gbox, hvc, hvo, and_self, true_and]) (by simp [vbeq, vbeqs]) ?_) ?_
  refine Wz.e rfl rfl (by first | rfl | (simp only [MS, Nat.reduceBEq, Nat.reduceBNe, Nat.reduceEqDiff, reduceIte, if_true, if_false, reduceCtorEq, Nat.reduceAdd, Nat.reduceMul, Nat.reduceLeDiff, Nat.reduceLT, Nat.reduceDiv, Nat.reduceSub, cval, cv, evR, List.contains, List.elem, TS T, hyg, hyn, gbox, hvc, hvo, and_self, true_and] <;> rfl)) rfl (by repeat' first | exact ldsOk_nil | refine ldsOk_skip (by rfl) ?_ | refine ldsOk_cons (by simp only [MS, Nat.reduceBEq, Nat.reduceBNe, Nat.reduceEqDiff, reduceIte, if_true, if_false, reduceCtorEq, Nat.reduceAdd, Nat.reduceMul, Nat.reduceLeDiff, Nat.reduceLT, Nat.reduceDiv, Nat.reduceSub, evR, List.contains, List.elem, loadA, partV, TS T, hyg, hyn, gbox, hvc, hvo, and_self, true_and]) (by simp [vbeq, vbeqs, hyg, hyn, gbox, hvc, hvo, and_self, true_and]) ?_) (by repeat' first | exact alsOk_nil | refine alsOk_skip (by rfl) ?_ | refine alsOk_cons (by simp only [MS, Nat.reduceBEq, Nat.reduceBNe, Nat.reduceEqDiff, reduceIte, if_true, if_false, reduceCtorEq, Nat.reduceAdd, Nat.reduceMul, Nat.reduceLeDiff, Nat.reduceLT, Nat.reduceDiv, Nat.reduceSub, evR, List.contains, List.elem, loadA, partV, TS T, hyg, hyn, gbox, hvc, hvo, and_self, true_and]) (by simp [vbeq, vbeqs]) ?_) ?_
  refine Wz.nil ?_
  refine hn2 _ ?_
  refine Wc.seq fun K3 hn3 hx3 => ?_
  refine Wc.rg ?_
  refine Wo.val rfl (by first | rfl | (simp only [MS, Nat.reduceBEq, Nat.reduceBNe, Nat.reduceEqDiff, reduceIte, if_true, if_false, reduceCtorEq, Nat.reduceAdd, Nat.reduceMul, Nat.reduceLeDiff, Nat.reduceLT, Nat.reduceDiv, Nat.reduceSub, TS T, hbs', hge] <;> rfl)) rfl ?_
  refine Wo.val rfl (by simp only [MS, Nat.reduceBEq, Nat.reduceBNe, Nat.reduceEqDiff, reduceIte, if_true, if_false, reduceCtorEq, Nat.reduceAdd, Nat.reduceMul, Nat.reduceLeDiff, Nat.reduceLT, Nat.reduceDiv, Nat.reduceSub, partsA, cval, cv, TS T, hbs', hge] <;> rfl) rfl ?_
  refine Wo.val rfl (by first | rfl | (simp only [MS, Nat.reduceBEq, Nat.reduceBNe, Nat.reduceEqDiff, reduceIte, if_true, if_false, reduceCtorEq, Nat.reduceAdd, Nat.reduceMul, Nat.reduceLeDiff, Nat.reduceLT, Nat.reduceDiv, Nat.reduceSub, cval, cv, TS T, hbs', hge] <;> rfl)) rfl ?_
  refine Wo.nil ?_
  exact hn3 _ (Wc.ret (hr0 _ _ [_] rfl ⟨rfl, rfl⟩))

theorem S.f17_ok {tb fc} (T : S.Ty tb) {call call' : Caller} {lf : Nat} (hc : ∀ args h, call' (.fn 17) args h = runF tb fc call lf Tryz.f17 args h)
    (hsub : ∀ (a b : Int) (h : Hp), ∃ (v : V) (e : Int) (h' : Hp), call (.fn 18) [.i .i64 a, .i .i64 b] h = some (.ret (.tup [v, .i .i64 e]), h') ∧ Ext h h' ∧ IntRes h h' v) : CallsOk S.Tab call' 17 S.ls := by
  intro G r h yb rho hT hy
  obtain ⟨hylt, yty, yc, yrw, hyg, hyl, _, hyok⟩ := hT.blk yb _ hy
  simp only [S.ls, List.length_cons, List.length_nil] at hyl
  obtain ⟨x0, x1, x2, x3, x4, rfl⟩ : ∃ x0 x1 x2 x3 x4, yc = [x0, x1, x2, x3, x4] := by
    match yc, hyl with
    | [x0, x1, x2, x3, x4], _ => exact ⟨_, _, _, _, _, rfl⟩
  obtain ⟨n0, rfl, w0⟩ := hyok 0 _ _ rfl rfl
  obtain ⟨n1, rfl, w1⟩ := hyok 1 _ _ rfl rfl
  obtain ⟨n2, rfl, w2⟩ := hyok 2 _ _ rfl rfl
  have hx3 := hyok 3 _ _ rfl rfl
  obtain ⟨n4, rfl, w4⟩ := hyok 4 _ _ rfl rfl
  have xa := Ext.push h (.blk (2 * 22) [.nils] true)
  obtain ⟨v, e, h2, hcall, x2, hres⟩ := hsub n2 n4 (h.push (.blk (2 * 22) [.nils] true))
  obtain ⟨hvc, hvo, D, hD, hDn, hDv⟩ := hres.dat
  have hn2 := x2.n
  simp only [Hp.n_push] at hn2
  have gbox : h2.get h.n = some (.blk 44 [.nils] true) := by rw [x2.old _ (by simp)]; simp [Hp.get_push]
  suffices H : Wf tb fc call lf Tryz.f17 [.p yb 0] h (fun w h' => w = .sl h2.n 0 1 (some 1) 1 ∧ h' = (h2.set h.n (.blk 44 [v] true)).push (.blk 72 [.f (.func 19) [] [.p h.n 0]] true)) by
    obtain ⟨w, h', h1, rfl, rfl⟩ := H
    have xx : Ext h (h2.set h.n (.blk 44 [v] true)) := (xa.trans x2).set (Nat.le_refl _) _
    have xf := xx.trans (Ext.push _ (.blk 72 [.f (.func 19) [] [.p h.n 0]] true))
    have hDb : ∀ b l, D b = some l → b ≠ h.n := fun b l hb => by have := hDn b l hb; simp at this; omega
    have hD4 : DatOk (boxD D h.n [.sl [.int .i64]]) ((h2.set h.n (.blk 44 [v] true)).push (.blk 72 [.f (.func 19) [] [.p h.n 0]] true)) := by
      refine hD.box (by simp) (fun b l hb => ?_) ?_ (by simp; omega) (by simp) (ty := 44) (vs := [v]) ?_ rfl ?_
      · have := (hD b l hb).1
        rw [Hp.get_push_ne _ _ (by simp; omega), Hp.get_set_ne _ _ (hDb b l hb)]
      · cases hd : D h.n with
        | none => rfl
        | some l => exact absurd rfl (hDb _ _ hd)
      · rw [Hp.get_push_ne _ _ (by simp; omega), Hp.get_set_self]
      · intro j lf x hl hx r
        match j with
        | 0 => cases hl; cases hx; exact hDv r
        | j + 1 => simp at hl
    have hGn : ∀ b, h.n ≤ b → G b = none := fun b hb => by
      cases hg : G b with
      | none => rfl
      | some t => have := (hT.blk b t hg).1; omega
    have hnew : ∀ b l, boxD D h.n [.sl [.int .i64]] b = some l → h.n ≤ b := fun b l hb => by
      unfold boxD at hb
      split at hb
      · omega
      · have := hDn b l hb; simp at this; omega
    refine ⟨_, _, addReg G (boxD D h.n [.sl [.int .i64]]) rho, 1, fun _ => ⟨19, h.n, [.sl [.int .i64]]⟩, by rw [hc]; exact h1, xf, (hT.ext xf).add hD4 (fun b l hb => hGn b (hnew b l hb)) rho, fun b hb => ?_, ⟨.inr ⟨h2.n, 72, [.f (.func 19) [] [.p h.n 0]], true, rfl, by simp, ?_, ?_, fun i hi => ?_⟩, fun i hi => ⟨⟨by simp, rfl⟩, ⟨by simp [wides, wide1], fun hh => by rw [flats_ss _ _ _ _ _ rfl]; simp⟩, ⟨[.sl [.int .i64]], rho, false, true⟩, by simp [addReg, boxD], by (simp; omega), fun j l hl => by simpa using hl⟩, by omega⟩, (fun b hb => by (simp only [blkOf, Option.some.injEq] at hb; omega)), fun b t hb hbt => ?_⟩
    · unfold addReg
      cases hd : boxD D h.n [.sl [.int .i64]] b with
      | none => rfl
      | some l => have := hnew b l hd; omega
    · unfold addReg
      cases hd : boxD D h.n [.sl [.int .i64]] h2.n with
      | none => exact hGn _ (by omega)
      | some l =>
        unfold boxD at hd
        split at hd
        · omega
        · have := (hD _ _ hd).1; omega
    · rw [show h2.n = (h2.set h.n (.blk 44 [v] true)).n from rfl]; exact Hp.get_push_self _ _
    · obtain rfl : i = 0 := by omega
      rfl
    · unfold addReg at hbt
      split at hbt
      · cases hbt; exact ⟨Nat.le_refl _, rfl⟩
      · rw [hGn b hb] at hbt; cases hbt
  have hge : (h2.set h.n (.blk 44 [v] true)).n = h2.n := rfl
  have hbs : ∀ hh : Hp, ∀ f : V, f.cells = [f] → f.one = true → buildSliceA tb hh 29 1 [(0, f)] = some (.sl hh.n 0 1 (some 1) 1, hh.push (.blk 72 [f] true)) := by
    intro hh f hf ho
    simp [buildSliceA, T.t29, T.t36, fillA, rep, TI.zero, hf, ho, setAll, cl_nilf]
  have hbs' := fun hh => hbs hh (.f (.func 19) [] [.p h.n 0]) rfl rfl
  have hyn : yb ≠ h.n := by omega
  refine Wf.intro (sz := 19) rfl rfl fun K hn0 hr0 => ?_
  repeat refine Wc.assoc ?_
  refine Wc.seq fun K1 hn1 hx1 => ?_
  refine Wc.rg ?_
  refine Wo.val rfl (by first | rfl | (simp only [MS, Nat.reduceBEq, Nat.reduceBNe, Nat.reduceEqDiff, reduceIte, if_true, if_false, reduceCtorEq, Nat.reduceAdd, Nat.reduceMul, Nat.reduceLeDiff, Nat.reduceLT, Nat.reduceDiv, Nat.reduceSub, cval, cv, TS T] <;> rfl)) rfl ?_
  refine Wo.nil ?_
  refine hn1 _ ?_
  repeat refine Wc.assoc ?_
  refine Wc.seq fun K2 hn2 hx2 => ?_
  refine Wc.drawn [.p 0 [6, 7, 8, 9, 10, 11, 12, 13, 5, 15, 16, 3] none, .p 1 [7, 8, 9, 10, 11, 12, 13, 5, 15, 16, 3] none, .p 2 [8, 9, 10, 11, 12, 13, 5, 15, 16, 3] none, .p 3 [9, 10, 11, 12, 13, 5, 15, 16, 3] none, .p 4 [6, 7, 8, 9, 10, 11, 12, 13, 5, 15, 16, 3] none, .p 5 [6, 7, 8, 9, 11, 12, 13, 5, 15, 16, 3] none, .p 6 [6, 7, 8, 9, 12, 13, 5, 15, 16, 3] none, .p 7 [6, 7, 8, 9, 13, 5, 15, 16, 3] none, .p 12 [6, 7, 8, 9, 10, 11, 12, 13, 14, 5, 15, 16, 3] none, .e 8 [14, 5, 15, 16, 3] none 255, .p 9 [5, 15, 16, 3] none, .p 10 [15, 16, 3] none, .p 11 [15, 16, 3] none, .e 13 [16] none 6143, .e 14 [4] none 16383] (by kernel_rfl) ?_
  refine Wz.v rfl rfl rfl (by first | rfl | (simp only [MS, Nat.reduceBEq, Nat.reduceBNe, Nat.reduceEqDiff, reduceIte, if_true, if_false, reduceCtorEq, Nat.reduceAdd, Nat.reduceMul, Nat.reduceLeDiff, Nat.reduceLT, Nat.reduceDiv, Nat.reduceSub, evR, List.contains, List.elem, TS T, hyg, hyn] <;> rfl)) rfl ?_
  refine Wz.v rfl rfl rfl (by first | rfl | (simp only [MS, Nat.reduceBEq, Nat.reduceBNe, Nat.reduceEqDiff, reduceIte, if_true, if_false, reduceCtorEq, Nat.reduceAdd, Nat.reduceMul, Nat.reduceLeDiff, Nat.reduceLT, Nat.reduceDiv, Nat.reduceSub, okCheck, evR, List.contains, List.elem, TS T, hyg, hyn] <;> rfl)) rfl ?_
  refine Wz.v rfl rfl rfl (by simp only [MS, Nat.reduceBEq, Nat.reduceBNe, Nat.reduceEqDiff, reduceIte, if_true, if_false, reduceCtorEq, Nat.reduceAdd, Nat.reduceMul, Nat.reduceLeDiff, Nat.reduceLT, Nat.reduceDiv, Nat.reduceSub, evR, List.contains, List.elem, TS T, hyg, hyn] <;> rfl) rfl ?_
  refine Wz.ld rfl rfl rfl (by simp only [MS, Nat.reduceBEq, Nat.reduceBNe, Nat.reduceEqDiff, reduceIte, if_true, if_false, reduceCtorEq, Nat.reduceAdd, Nat.reduceMul, Nat.reduceLeDiff, Nat.reduceLT, Nat.reduceDiv, Nat.reduceSub, loadA, partV, evR, List.contains, List.elem, TS T, hyg, hyn] <;> rfl) rfl ?_
  refine Wz.v rfl rfl rfl (by first | rfl | (simp only [MS, Nat.reduceBEq, Nat.reduceBNe, Nat.reduceEqDiff, reduceIte, if_true, if_false, reduceCtorEq, Nat.reduceAdd, Nat.reduceMul, Nat.reduceLeDiff, Nat.reduceLT, Nat.reduceDiv, Nat.reduceSub, evR, List.contains, List.elem, TS T, hyg, hyn] <;> rfl)) rfl ?_
  refine Wz.v rfl rfl rfl (by first | rfl | (simp only [MS, Nat.reduceBEq, Nat.reduceBNe, Nat.reduceEqDiff, reduceIte, if_true, if_false, reduceCtorEq, Nat.reduceAdd, Nat.reduceMul, Nat.reduceLeDiff, Nat.reduceLT, Nat.reduceDiv, Nat.reduceSub, okCheck, evR, List.contains, List.elem, TS T, hyg, hyn] <;> rfl)) rfl ?_
  refine Wz.v rfl rfl rfl (by simp only [MS, Nat.reduceBEq, Nat.reduceBNe, Nat.reduceEqDiff, reduceIte, if_true, if_false, reduceCtorEq, Nat.reduceAdd, Nat.reduceMul, Nat.reduceLeDiff, Nat.reduceLT, Nat.reduceDiv, Nat.reduceSub, evR, List.contains, List.elem, TS T, hyg, hyn] <;> rfl) rfl ?_
  refine Wz.ld rfl rfl rfl (by simp only [MS, Nat.reduceBEq, Nat.reduceBNe, Nat.reduceEqDiff, reduceIte, if_true, if_false, reduceCtorEq, Nat.reduceAdd, Nat.reduceMul, Nat.reduceLeDiff, Nat.reduceLT, Nat.reduceDiv, Nat.reduceSub, loadA, partV, evR, List.contains, List.elem, TS T, hyg, hyn] <;> rfl) rfl ?_
  refine Wz.al rfl rfl rfl T.t22 rfl (by repeat' first | exact ldsOk_nil | refine ldsOk_skip (by rfl) ?_ | refine ldsOk_cons (by simp only [MS, Nat.reduceBEq, Nat.reduceBNe, Nat.reduceEqDiff, reduceIte, if_true, if_false, reduceCtorEq, Nat.reduceAdd, Nat.reduceMul, Nat.reduceLeDiff, Nat.reduceLT, Nat.reduceDiv, Nat.reduceSub, evR, List.contains, List.elem, loadA, partV, TS T, hyg, hyn]) (by simp [vbeq, vbeqs, hyg, hyn]) ?_) ?_
  refine Wz.cl rfl rfl rfl rfl (by first | rfl | (simp only [MS, Nat.reduceBEq, Nat.reduceBNe, Nat.reduceEqDiff, reduceIte, if_true, if_false, reduceCtorEq, Nat.reduceAdd, Nat.reduceMul, Nat.reduceLeDiff, Nat.reduceLT, Nat.reduceDiv, Nat.reduceSub, cval, cv, evR, List.contains, List.elem, TS T, hyg, hyn] <;> rfl)) (by first | rfl | (simp only [MS, Nat.reduceBEq, Nat.reduceBNe, Nat.reduceEqDiff, reduceIte, if_true, if_false, reduceCtorEq, Nat.reduceAdd, Nat.reduceMul, Nat.reduceLeDiff, Nat.reduceLT, Nat.reduceDiv, Nat.reduceSub, cval, cv, evR, List.contains, List.elem, TS T, hyg, hyn] <;> rfl)) (fun _ => rfl) ?_
  refine ⟨_, h2, hcall, ?_, ?_, ?_⟩
  · repeat' first | exact ldsOk_nil | refine ldsOk_skip (by rfl) ?_
  · repeat' first | exact alsOk_nil | refine alsOk_skip (by rfl) ?_ | refine alsOk_cons (by simp [gbox, TI.zero, V.cells]) (by simp [TI.zero, V.cells, vbeqs, vbeq]) ?_
  refine Wz.v rfl rfl rfl (by first | rfl | (simp only [MS, Nat.reduceBEq, Nat.reduceBNe, Nat.reduceEqDiff, reduceIte, if_true, if_false, reduceCtorEq, Nat.reduceAdd, Nat.reduceMul, Nat.reduceLeDiff, Nat.reduceLT, Nat.reduceDiv, Nat.reduceSub, evR, List.contains, List.elem, TS T, hyg, hyn, gbox, hvc, hvo, and_self, true_and] <;> rfl)) rfl ?_
  refine Wz.v rfl rfl rfl (by first | rfl | (simp only [MS, Nat.reduceBEq, Nat.reduceBNe, Nat.reduceEqDiff, reduceIte, if_true, if_false, reduceCtorEq, Nat.reduceAdd, Nat.reduceMul, Nat.reduceLeDiff, Nat.reduceLT, Nat.reduceDiv, Nat.reduceSub, evR, List.contains, List.elem, TS T, hyg, hyn, gbox, hvc, hvo, and_self, true_and] <;> rfl)) rfl ?_
  refine Wz.v rfl rfl rfl (by first | rfl | (simp only [MS, Nat.reduceBEq, Nat.reduceBNe, Nat.reduceEqDiff, reduceIte, if_true, if_false, reduceCtorEq, Nat.reduceAdd, Nat.reduceMul, Nat.reduceLeDiff, Nat.reduceLT, Nat.reduceDiv, Nat.reduceSub, evR, List.contains, List.elem, TS T, hyg, hyn, gbox, hvc, hvo, and_self, true_and] <;> rfl)) rfl ?_
  refine Wz.e rfl rfl (by simp only [MS, Nat.reduceBEq, Nat.reduceBNe, Nat.reduceEqDiff, reduceIte, if_true, if_false, reduceCtorEq, Nat.reduceAdd, Nat.reduceMul, Nat.reduceLeDiff, Nat.reduceLT, Nat.reduceDiv, Nat.reduceSub, storeA, setAll, TI.zero, cval, cv, evR, List.contains, List.elem, TS T, hyg, hyn, gbox, hvc, hvo, and_self, true_and] <;> rfl) rfl (by repeat' first | exact ldsOk_nil | refine ldsOk_skip (by rfl) ?_ | refine ldsOk_cons (by simp only [MS, Nat.reduceBEq, Nat.reduceBNe, Nat.reduceEqDiff, reduceIte, if_true, if_false, reduceCtorEq, Nat.reduceAdd, Nat.reduceMul, Nat.reduceLeDiff, Nat.reduceLT, Nat.reduceDiv, Nat.reduceSub, evR, List.contains, List.elem, loadA, partV, TS T, hyg, hyn, gbox, hvc, hvo, and_self, true_and]) (by simp [vbeq, vbeqs, hyg, hyn, gbox, hvc, hvo, and_self, true_and]) ?_) (by repeat' first | exact alsOk_nil | refine alsOk_skip (by rfl) ?_ | refine alsOk_cons (by simp only [MS, Nat.reduceBEq, Nat.reduceBNe, Nat.reduceEqDiff, reduceIte, if_true, if_false, reduceCtorEq, Nat.reduceAdd, Nat.reduceMul, Nat.reduceLeDiff, Nat.reduceLT, Nat.reduceDiv, Nat.reduceSub, evR, List.contains, List.elem, loadA, partV, TS T, hyg, hyn, gbox, hvc, hvo, and_self, true_and]) (by simp [vbeq, vbeqs]) ?_) ?_
  refine Wz.e rfl rfl (by first | rfl | (simp only [MS, Nat.reduceBEq, Nat.reduceBNe, Nat.reduceEqDiff, reduceIte, if_true, if_false, reduceCtorEq, Nat.reduceAdd, Nat.reduceMul, Nat.reduceLeDiff, Nat.reduceLT, Nat.reduceDiv, Nat.reduceSub, cval, cv, evR, List.contains, List.elem, TS T, hyg, hyn, gbox, hvc, hvo, and_self, true_and] <;> rfl)) rfl (by repeat' first | exact ldsOk_nil | refine ldsOk_skip (by rfl) ?_ | refine ldsOk_cons (by simp only [MS, Nat.reduceBEq, Nat.reduceBNe, Nat.reduceEqDiff, reduceIte, if_true, if_false, reduceCtorEq, Nat.reduceAdd, Nat.reduceMul, Nat.reduceLeDiff, Nat.reduceLT, Nat.reduceDiv, Nat.reduceSub, evR, List.contains, List.elem, loadA, partV, TS T, hyg, hyn, gbox, hvc, hvo, and_self, true_and]) (by simp [vbeq, vbeqs, hyg, hyn, gbox, hvc, hvo, and_self, true_and]) ?_) (by repeat' first | exact alsOk_nil | refine alsOk_skip (by rfl) ?_ | refine alsOk_cons (by simp only [MS, Nat.reduceBEq, Nat.reduceBNe, Nat.reduceEqDiff, reduceIte, if_true, if_false, reduceCtorEq, Nat.reduceAdd, Nat.reduceMul, Nat.reduceLeDiff, Nat.reduceLT, Nat.reduceDiv, Nat.reduceSub, evR, List.contains, List.elem, loadA, partV, TS T, hyg, hyn, gbox, hvc, hvo, and_self, true_and]) (by simp [vbeq, vbeqs]) ?_) ?_
  refine Wz.nil ?_
  refine hn2 _ ?_
  refine Wc.seq fun K3 hn3 hx3 => ?_
  refine Wc.rg ?_
  refine Wo.val rfl (by first | rfl | (simp only [MS, Nat.reduceBEq, Nat.reduceBNe, Nat.reduceEqDiff, reduceIte, if_true, if_false, reduceCtorEq, Nat.reduceAdd, Nat.reduceMul, Nat.reduceLeDiff, Nat.reduceLT, Nat.reduceDiv, Nat.reduceSub, TS T, hbs', hge] <;> rfl)) rfl ?_
  refine Wo.val rfl (by simp only [MS, Nat.reduceBEq, Nat.reduceBNe, Nat.reduceEqDiff, reduceIte, if_true, if_false, reduceCtorEq, Nat.reduceAdd, Nat.reduceMul, Nat.reduceLeDiff, Nat.reduceLT, Nat.reduceDiv, Nat.reduceSub, partsA, cval, cv, TS T, hbs', hge] <;> rfl) rfl ?_
  refine Wo.val rfl (by first | rfl | (simp only [MS, Nat.reduceBEq, Nat.reduceBNe, Nat.reduceEqDiff, reduceIte, if_true, if_false, reduceCtorEq, Nat.reduceAdd, Nat.reduceMul, Nat.reduceLeDiff, Nat.reduceLT, Nat.reduceDiv, Nat.reduceSub, cval, cv, TS T, hbs', hge] <;> rfl)) rfl ?_
  refine Wo.nil ?_
  exact hn3 _ (Wc.ret (hr0 _ _ [_] rfl ⟨rfl, rfl⟩))

theorem S.f20_ok {tb fc} (T : S.Ty tb) {call call' : Caller} {lf : Nat} (hc : ∀ args h, call' (.fn 20) args h = runF tb fc call lf Tryz.f20 args h)
    (hsub : ∀ (a b : Int) (h : Hp), ∃ (v : V) (e : Int) (h' : Hp), call (.fn 21) [.i .i64 a, .i .i64 b] h = some (.ret (.tup [v, .i .i64 e]), h') ∧ Ext h h' ∧ IntRes h h' v) : CallsOk S.Tab call' 20 S.ls := by
  intro G r h yb rho hT hy
  obtain ⟨hylt, yty, yc, yrw, hyg, hyl, _, hyok⟩ := hT.blk yb _ hy
  simp only [S.ls, List.length_cons, List.length_nil] at hyl
  obtain ⟨x0, x1, x2, x3, x4, rfl⟩ : ∃ x0 x1 x2 x3 x4, yc = [x0, x1, x2, x3, x4] := by
    match yc, hyl with
    | [x0, x1, x2, x3, x4], _ => exact ⟨_, _, _, _, _, rfl⟩
  obtain ⟨n0, rfl, w0⟩ := hyok 0 _ _ rfl rfl
  obtain ⟨n1, rfl, w1⟩ := hyok 1 _ _ rfl rfl
  obtain ⟨n2, rfl, w2⟩ := hyok 2 _ _ rfl rfl
  have hx3 := hyok 3 _ _ rfl rfl
  obtain ⟨n4, rfl, w4⟩ := hyok 4 _ _ rfl rfl
  have xa := Ext.push h (.blk (2 * 22) [.nils] true)
  obtain ⟨v, e, h2, hcall, x2, hres⟩ := hsub n2 n4 (h.push (.blk (2 * 22) [.nils] true))
  obtain ⟨hvc, hvo, D, hD, hDn, hDv⟩ := hres.dat
  have hn2 := x2.n
  simp only [Hp.n_push] at hn2
  have gbox : h2.get h.n = some (.blk 44 [.nils] true) := by rw [x2.old _ (by simp)]; simp [Hp.get_push]
  suffices H : Wf tb fc call lf Tryz.f20 [.p yb 0] h (fun w h' => w = .sl h2.n 0 1 (some 1) 1 ∧ h' = (h2.set h.n (.blk 44 [v] true)).push (.blk 72 [.f (.func 22) [] [.p h.n 0]] true)) by
    obtain ⟨w, h', h1, rfl, rfl⟩ := H
    have xx : Ext h (h2.set h.n (.blk 44 [v] true)) := (xa.trans x2).set (Nat.le_refl _) _
    have xf := xx.trans (Ext.push _ (.blk 72 [.f (.func 22) [] [.p h.n 0]] true))
    have hDb : ∀ b l, D b = some l → b ≠ h.n := fun b l hb => by have := hDn b l hb; simp at this; omega
    have hD4 : DatOk (boxD D h.n [.sl [.int .i64]]) ((h2.set h.n (.blk 44 [v] true)).push (.blk 72 [.f (.func 22) [] [.p h.n 0]] true)) := by
      refine hD.box (by simp) (fun b l hb => ?_) ?_ (by simp; omega) (by simp) (ty := 44) (vs := [v]) ?_ rfl ?_
      · have := (hD b l hb).1
        rw [Hp.get_push_ne _ _ (by simp; omega), Hp.get_set_ne _ _ (hDb b l hb)]
      · cases hd : D h.n with
        | none => rfl
        | some l => exact absurd rfl (hDb _ _ hd)
      · rw [Hp.get_push_ne _ _ (by simp; omega), Hp.get_set_self]
      · intro j lf x hl hx r
        match j with
        | 0 => cases hl; cases hx; exact hDv r
        | j + 1 => simp at hl
    have hGn : ∀ b, h.n ≤ b → G b = none := fun b hb => by
      cases hg : G b with
      | none => rfl
      | some t => have := (hT.blk b t hg).1; omega
    have hnew : ∀ b l, boxD D h.n [.sl [.int .i64]] b = some l → h.n ≤ b := fun b l hb => by
      unfold boxD at hb
      split at hb
      · omega
      · have := hDn b l hb; simp at this; omega
    refine ⟨_, _, addReg G (boxD D h.n [.sl [.int .i64]]) rho, 1, fun _ => ⟨22, h.n, [.sl [.int .i64]]⟩, by rw [hc]; exact h1, xf, (hT.ext xf).add hD4 (fun b l hb => hGn b (hnew b l hb)) rho, fun b hb => ?_, ⟨.inr ⟨h2.n, 72, [.f (.func 22) [] [.p h.n 0]], true, rfl, by simp, ?_, ?_, fun i hi => ?_⟩, fun i hi => ⟨⟨by simp, rfl⟩, ⟨by simp [wides, wide1], fun hh => by rw [flats_ss _ _ _ _ _ rfl]; simp⟩, ⟨[.sl [.int .i64]], rho, false, true⟩, by simp [addReg, boxD], by (simp; omega), fun j l hl => by simpa using hl⟩, by omega⟩, (fun b hb => by (simp only [blkOf, Option.some.injEq] at hb; omega)), fun b t hb hbt => ?_⟩
    · unfold addReg
      cases hd : boxD D h.n [.sl [.int .i64]] b with
      | none => rfl
      | some l => have := hnew b l hd; omega
    · unfold addReg
      cases hd : boxD D h.n [.sl [.int .i64]] h2.n with
      | none => exact hGn _ (by omega)
      | some l =>
        unfold boxD at hd
        split at hd
        · omega
        · have := (hD _ _ hd).1; omega
    · rw [show h2.n = (h2.set h.n (.blk 44 [v] true)).n from rfl]; exact Hp.get_push_self _ _
    · obtain rfl : i = 0 := by omega
      rfl
    · unfold addReg at hbt
      split at hbt
      · cases hbt; exact ⟨Nat.le_refl _, rfl⟩
      · rw [hGn b hb] at hbt; cases hbt
  have hge : (h2.set h.n (.blk 44 [v] true)).n = h2.n := rfl
  have hbs : ∀ hh : Hp, ∀ f : V, f.cells = [f] → f.one = true → buildSliceA tb hh 29 1 [(0, f)] = some (.sl hh.n 0 1 (some 1) 1, hh.push (.blk 72 [f] true)) := by
    intro hh f hf ho
    simp [buildSliceA, T.t29, T.t36, fillA, rep, TI.zero, hf, ho, setAll, cl_nilf]
  have hbs' := fun hh => hbs hh (.f (.func 22) [] [.p h.n 0]) rfl rfl
  have hyn : yb ≠ h.n := by omega
  refine Wf.intro (sz := 19) rfl rfl fun K hn0 hr0 => ?_
  repeat refine Wc.assoc ?_
  refine Wc.seq fun K1 hn1 hx1 => ?_
  refine Wc.rg ?_
  refine Wo.val rfl (by first | rfl | (simp only [MS, Nat.reduceBEq, Nat.reduceBNe, Nat.reduceEqDiff, reduceIte, if_true, if_false, reduceCtorEq, Nat.reduceAdd, Nat.reduceMul, Nat.reduceLeDiff, Nat.reduceLT, Nat.reduceDiv, Nat.reduceSub, cval, cv, TS T] <;> rfl)) rfl ?_
  refine Wo.nil ?_
  refine hn1 _ ?_
  repeat refine Wc.assoc ?_
  refine Wc.seq fun K2 hn2 hx2 => ?_
  refine Wc.drawn [.p 0 [6, 7, 8, 9, 10, 11, 12, 13, 5, 15, 16, 3] none, .p 1 [7, 8, 9, 10, 11, 12, 13, 5, 15, 16, 3] none, .p 2 [8, 9, 10, 11, 12, 13, 5, 15, 16, 3] none, .p 3 [9, 10, 11, 12, 13, 5, 15, 16, 3] none, .p 4 [6, 7, 8, 9, 10, 11, 12, 13, 5, 15, 16, 3] none, .p 5 [6, 7, 8, 9, 11, 12, 13, 5, 15, 16, 3] none, .p 6 [6, 7, 8, 9, 12, 13, 5, 15, 16, 3] none, .p 7 [6, 7, 8, 9, 13, 5, 15, 16, 3] none, .p 12 [6, 7, 8, 9, 10, 11, 12, 13, 14, 5, 15, 16, 3] none, .e 8 [14, 5, 15, 16, 3] none 255, .p 9 [5, 15, 16, 3] none, .p 10 [15, 16, 3] none, .p 11 [15, 16, 3] none, .e 13 [16] none 6143, .e 14 [4] none 16383] (by kernel_rfl) ?_
  refine Wz.v rfl rfl rfl (by first | rfl | (simp only [MS, Nat.reduceBEq, Nat.reduceBNe, Nat.reduceEqDiff, reduceIte, if_true, if_false, reduceCtorEq, Nat.reduceAdd, Nat.reduceMul, Nat.reduceLeDiff, Nat.reduceLT, Nat.reduceDiv, Nat.reduceSub, evR, List.contains, List.elem, TS T, hyg, hyn] <;> rfl)) rfl ?_
  refine Wz.v rfl rfl rfl (by first | rfl | (simp only [MS, Nat.reduceBEq, Nat.reduceBNe, Nat.reduceEqDiff, reduceIte, if_true, if_false, reduceCtorEq, Nat.reduceAdd, Nat.reduceMul, Nat.reduceLeDiff, Nat.reduceLT, Nat.reduceDiv, Nat.reduceSub, okCheck, evR, List.contains, List.elem, TS T, hyg, hyn] <;> rfl)) rfl ?_
  refine Wz.v rfl rfl rfl (by simp only [MS, Nat.reduceBEq, Nat.reduceBNe, Nat.reduceEqDiff, reduceIte, if_true, if_false, reduceCtorEq, Nat.reduceAdd, Nat.reduceMul, Nat.reduceLeDiff, Nat.reduceLT, Nat.reduceDiv, Nat.reduceSub, evR, List.contains, List.elem, TS T, hyg, hyn] <;> rfl) rfl ?_
  refine Wz.ld rfl rfl rfl (by simp only [MS, Nat.reduceBEq, Nat.reduceBNe, Nat.reduceEqDiff, reduceIte, if_true, if_false, reduceCtorEq, Nat.reduceAdd, Nat.reduceMul, Nat.reduceLeDiff, Nat.reduceLT, Nat.reduceDiv, Nat.reduceSub, loadA, partV, evR, List.contains, List.elem, TS T, hyg, hyn] <;> rfl) rfl ?_
  refine Wz.v rfl rfl rfl (by first | rfl | (simp only [MS, Nat.reduceBEq, Nat.reduceBNe, Nat.reduceEqDiff, reduceIte, if_true, if_false, reduceCtorEq, Nat.reduceAdd, Nat.reduceMul, Nat.reduceLeDiff, Nat.reduceLT, Nat.reduceDiv, Nat.reduceSub, evR, List.contains, List.elem, TS T, hyg, hyn] <;> rfl)) rfl ?_
  refine Wz.v rfl rfl rfl (by first | rfl | (simp only [MS, Nat.reduceBEq, Nat.reduceBNe, Nat.reduceEqDiff, reduceIte, if_true, if_false, reduceCtorEq, Nat.reduceAdd, Nat.reduceMul, Nat.reduceLeDiff, Nat.reduceLT, Nat.reduceDiv, Nat.reduceSub, okCheck, evR, List.contains, List.elem, TS T, hyg, hyn] <;> rfl)) rfl ?_
  refine Wz.v rfl rfl rfl (by simp only [MS, Nat.reduceBEq, Nat.reduceBNe, Nat.reduceEqDiff, reduceIte, if_true, if_false, reduceCtorEq, Nat.reduceAdd, Nat.reduceMul, Nat.reduceLeDiff, Nat.reduceLT, Nat.reduceDiv, Nat.reduceSub, evR, List.contains, List.elem, TS T, hyg, hyn] <;> rfl) rfl ?_
  refine Wz.ld rfl rfl rfl (by simp only [MS, Nat.reduceBEq, Nat.reduceBNe, Nat.reduceEqDiff, reduceIte, if_true, if_false, reduceCtorEq, Nat.reduceAdd, Nat.reduceMul, Nat.reduceLeDiff, Nat.reduceLT, Nat.reduceDiv, Nat.reduceSub, loadA, partV, evR, List.contains, List.elem, TS T, hyg, hyn] <;> rfl) rfl ?_
  refine Wz.al rfl rfl rfl T.t22 rfl (by repeat' first | exact ldsOk_nil | refine ldsOk_skip (by rfl) ?_ | refine ldsOk_cons (by simp only [MS, Nat.reduceBEq, Nat.reduceBNe, Nat.reduceEqDiff, reduceIte, if_true, if_false, reduceCtorEq, Nat.reduceAdd, Nat.reduceMul, Nat.reduceLeDiff, Nat.reduceLT, Nat.reduceDiv, Nat.reduceSub, evR, List.contains, List.elem, loadA, partV, TS T, hyg, hyn]) (by simp [vbeq, vbeqs, hyg, hyn]) ?_) ?_
  refine Wz.cl rfl rfl rfl rfl (by first | rfl | (simp only [MS, Nat.reduceBEq, Nat.reduceBNe, Nat.reduceEqDiff, reduceIte, if_true, if_false, reduceCtorEq, Nat.reduceAdd, Nat.reduceMul, Nat.reduceLeDiff, Nat.reduceLT, Nat.reduceDiv, Nat.reduceSub, cval, cv, evR, List.contains, List.elem, TS T, hyg, hyn] <;> rfl)) (by first | rfl | (simp only [MS, Nat.reduceBEq, Nat.reduceBNe, Nat.reduceEqDiff, reduceIte, if_true, if_false, reduceCtorEq, Nat.reduceAdd, Nat.reduceMul, Nat.reduceLeDiff, Nat.reduceLT, Nat.reduceDiv, Nat.reduceSub, cval, cv, evR, List.contains, List.elem, TS T, hyg, hyn] <;> rfl)) (fun _ => rfl) ?_
  refine ⟨_, h2, hcall, ?_, ?_, ?_⟩
  · repeat' first | exact ldsOk_nil | refine ldsOk_skip (by rfl) ?_
  · repeat' first | exact alsOk_nil | refine alsOk_skip (by rfl) ?_ | refine alsOk_cons (by simp [gbox, TI.zero, V.cells]) (by simp [TI.zero, V.cells, vbeqs, vbeq]) ?_
  refine Wz.v rfl rfl rfl (by first | rfl | (simp only [MS, Nat.reduceBEq, Nat.reduceBNe, Nat.reduceEqDiff, reduceIte, if_true, if_false, reduceCtorEq, Nat.reduceAdd, Nat.reduceMul, Nat.reduceLeDiff, Nat.reduceLT, Nat.reduceDiv, Nat.reduceSub, evR, List.contains, List.elem, TS T, hyg, hyn, gbox, hvc, hvo, and_self, true_and] <;> rfl)) rfl ?_
  refine Wz.v rfl rfl rfl (by first | rfl | (simp only [MS, Nat.reduceBEq, Nat.reduceBNe, Nat.reduceEqDiff, reduceIte, if_true, if_false, reduceCtorEq, Nat.reduceAdd, Nat.reduceMul, Nat.reduceLeDiff, Nat.reduceLT, Nat.reduceDiv, Nat.reduceSub, evR, List.contains, List.elem, TS T, hyg, hyn, gbox, hvc, hvo, and_self, true_and] <;> rfl)) rfl ?_
  refine Wz.v rfl rfl rfl (by first | rfl | (simp only [MS, Nat.reduceBEq, Nat.reduceBNe, Nat.reduceEqDiff, reduceIte, if_true, if_false, reduceCtorEq, Nat.reduceAdd, Nat.reduceMul, Nat.reduceLeDiff, Nat.reduceLT, Nat.reduceDiv, Nat.reduceSub, evR, List.contains, List.elem, TS T, hyg, hyn, gbox, hvc, hvo, and_self, true_and] <;> rfl)) rfl ?_
  refine Wz.e rfl rfl (by simp only [MS, Nat.reduceBEq, Nat.reduceBNe, Nat.reduceEqDiff, reduceIte, if_true, if_false, reduceCtorEq, Nat.reduceAdd, Nat.reduceMul, Nat.reduceLeDiff, Nat.reduceLT, Nat.reduceDiv, Nat.reduceSub, storeA, setAll, TI.zero, cval, cv, evR, List.contains, List.elem, TS T, hyg, hyn, gbox, hvc, hvo, and_self, true_and] <;> rfl) rfl (by repeat' first | exact ldsOk_nil | refine ldsOk_skip (by rfl) ?_ | refine ldsOk_cons (by simp only [MS, Nat.reduceBEq, Nat.reduceBNe, Nat.reduceEqDiff, reduceIte, if_true, if_false, reduceCtorEq, Nat.reduceAdd, Nat.reduceMul, Nat.reduceLeDiff, Nat.reduceLT, Nat.reduceDiv, Nat.reduceSub, evR, List.contains, List.elem, loadA, partV, TS T, hyg, hyn, gbox, hvc, hvo, and_self, true_and]) (by simp [vbeq, vbeqs, hyg, hyn, gbox, hvc, hvo, and_self, true_and]) ?_) (by repeat' first | exact alsOk_nil | refine alsOk_skip (by rfl) ?_ | refine alsOk_cons (by simp only [MS, Nat.reduceBEq, Nat.reduceBNe, Nat.reduceEqDiff, reduceIte, if_true, if_false, reduceCtorEq, Nat.reduceAdd, Nat.reduceMul, Nat.reduceLeDiff, Nat.reduceLT, Nat.reduceDiv, Nat.reduceSub, evR, List.contains, List.elem, loadA, partV, TS T, hyg, hyn, gbox, hvc, hvo, and_self, true_and]) (by simp [vbeq, vbeqs]) ?_) ?_
  refine Wz.e rfl rfl (by first | rfl | (simp only [MS, Nat.reduceBEq, Nat.reduceBNe, Nat.reduceEqDiff, reduceIte, if_true, if_false, reduceCtorEq, Nat.reduceAdd, Nat.reduceMul, Nat.reduceLeDiff, Nat.reduceLT, Nat.reduceDiv, Nat.reduceSub, cval, cv, evR, List.contains, List.elem, TS T, hyg, hyn, gbox, hvc, hvo, and_self, true_and] <;> rfl)) rfl (by repeat' first | exact ldsOk_nil | refine ldsOk_skip (by rfl) ?_ | refine ldsOk_cons (by simp only [MS, Nat.reduceBEq, Nat.reduceBNe, Nat.reduceEqDiff, reduceIte, if_true, if_false, reduceCtorEq, Nat.reduceAdd, Nat.reduceMul, Nat.reduceLeDiff, Nat.reduceLT, Nat.reduceDiv, Nat.reduceSub, evR, List.contains, List.elem, loadA, partV, TS T, hyg, hyn, gbox, hvc, hvo, and_self, true_and]) (by simp [vbeq, vbeqs, hyg, hyn, gbox, hvc, hvo, and_self, true_and]) ?_) (by repeat' first | exact alsOk_nil | refine alsOk_skip (by rfl) ?_ | refine alsOk_cons (by simp only [MS, Nat.reduceBEq, Nat.reduceBNe, Nat.reduceEqDiff, reduceIte, if_true, if_false, reduceCtorEq, Nat.reduceAdd, Nat.reduceMul, Nat.reduceLeDiff, Nat.reduceLT, Nat.reduceDiv, Nat.reduceSub, evR, List.contains, List.elem, loadA, partV, TS T, hyg, hyn, gbox, hvc, hvo, and_self, true_and]) (by simp [vbeq, vbeqs]) ?_) ?_
  refine Wz.nil ?_
  refine hn2 _ ?_
  refine Wc.seq fun K3 hn3 hx3 => ?_
  refine Wc.rg ?_
  refine Wo.val rfl (by first | rfl | (simp only [MS, Nat.reduceBEq, Nat.reduceBNe, Nat.reduceEqDiff, reduceIte, if_true, if_false, reduceCtorEq, Nat.reduceAdd, Nat.reduceMul, Nat.reduceLeDiff, Nat.reduceLT, Nat.reduceDiv, Nat.reduceSub, TS T, hbs', hge] <;> rfl)) rfl ?_
  refine Wo.val rfl (by simp only [MS, Nat.reduceBEq, Nat.reduceBNe, Nat.reduceEqDiff, reduceIte, if_true, if_false, reduceCtorEq, Nat.reduceAdd, Nat.reduceMul, Nat.reduceLeDiff, Nat.reduceLT, Nat.reduceDiv, Nat.reduceSub, partsA, cval, cv, TS T, hbs', hge] <;> rfl) rfl ?_
  refine Wo.val rfl (by first | rfl | (simp only [MS, Nat.reduceBEq, Nat.reduceBNe, Nat.reduceEqDiff, reduceIte, if_true, if_false, reduceCtorEq, Nat.reduceAdd, Nat.reduceMul, Nat.reduceLeDiff, Nat.reduceLT, Nat.reduceDiv, Nat.reduceSub, cval, cv, TS T, hbs', hge] <;> rfl)) rfl ?_
  refine Wo.nil ?_
  exact hn3 _ (Wc.ret (hr0 _ _ [_] rfl ⟨rfl, rfl⟩))
theorem S.f14_ok {tb fc} (T : S.Ty tb) {call call' : Caller} {lf : Nat} (hc : ∀ args h, call' (.fn 14) args h = runF tb fc call lf Tryz.f14 args h)
    (hsub : ∀ {G : Nat → Option BT} {rg : Nat} {rm : Bool} {h : Hp} {v : V}, TOk G h → LfOk G rg rm (.sl [.int .i64]) v → ∃ (w : V) (e : Int) (h' : Hp), call (.fn 15) [v] h = some (.ret (.tup [w, .i .i64 e]), h') ∧ Ext h h' ∧ IntRes h h' w) : CallsOk S.Tab call' 14 S.ls := by
  intro G r h yb rho hT hy
  obtain ⟨hylt, yty, yc, yrw, hyg, hyl, _, hyok⟩ := hT.blk yb _ hy
  simp only [S.ls, List.length_cons, List.length_nil] at hyl
  obtain ⟨x0, x1, x2, x3, x4, rfl⟩ : ∃ x0 x1 x2 x3 x4, yc = [x0, x1, x2, x3, x4] := by
    match yc, hyl with
    | [x0, x1, x2, x3, x4], _ => exact ⟨_, _, _, _, _, rfl⟩
  have hx3 := hyok 3 _ _ rfl rfl
  obtain ⟨v, e, h2, hcall, x2, hres⟩ := hsub hT hx3
  obtain ⟨hvc, hvo, D, hD, hDn, hDv⟩ := hres.dat
  have hn2 := x2.n
  suffices H : Wf tb fc call lf Tryz.f14 [.p yb 0] h (fun w h' => w = .sl (h2.n + 1) 0 1 (some 1) 1 ∧ h' = ((h2.push (.blk 44 [.nils] true)).set h2.n (.blk 44 [v] true)).push (.blk 72 [.f (.func 16) [] [.p h2.n 0]] true)) by
    obtain ⟨w, h', h1, rfl, rfl⟩ := H
    have xx : Ext h ((h2.push (.blk 44 [.nils] true)).set h2.n (.blk 44 [v] true)) := (x2.trans (Ext.push _ _)).set hn2 _
    have xf := xx.trans (Ext.push _ (.blk 72 [.f (.func 16) [] [.p h2.n 0]] true))
    have hDb : ∀ b l, D b = some l → b < h2.n := fun b l hb => (hD b l hb).1
    have hD4 : DatOk (boxD D h2.n [.sl [.int .i64]]) (((h2.push (.blk 44 [.nils] true)).set h2.n (.blk 44 [v] true)).push (.blk 72 [.f (.func 16) [] [.p h2.n 0]] true)) := by
      refine hD.box (by simp; omega) (fun b l hb => ?_) ?_ (by simp; omega) (by simp) (ty := 44) (vs := [v]) ?_ rfl ?_
      · have := hDb b l hb
        rw [Hp.get_push_ne _ _ (by simp; omega), Hp.get_set_ne _ _ (by omega), Hp.get_push_ne _ _ (by omega)]
      · cases hd : D h2.n with
        | none => rfl
        | some l => have := hDb _ _ hd; omega
      · rw [Hp.get_push_ne _ _ (by simp), Hp.get_set_self]
      · intro j lf x hl hx r
        match j with
        | 0 => cases hl; cases hx; exact hDv r
        | j + 1 => simp at hl
    have hGn : ∀ b, h.n ≤ b → G b = none := fun b hb => by
      cases hg : G b with
      | none => rfl
      | some t => have := (hT.blk b t hg).1; omega
    have hnew : ∀ b l, boxD D h2.n [.sl [.int .i64]] b = some l → h.n ≤ b := fun b l hb => by
      unfold boxD at hb
      split at hb
      · omega
      · exact hDn b l hb
    refine ⟨_, _, addReg G (boxD D h2.n [.sl [.int .i64]]) rho, 1, fun _ => ⟨16, h2.n, [.sl [.int .i64]]⟩, by rw [hc]; exact h1, xf, (hT.ext xf).add hD4 (fun b l hb => hGn b (hnew b l hb)) rho, fun b hb => ?_, ⟨.inr ⟨h2.n + 1, 72, [.f (.func 16) [] [.p h2.n 0]], true, rfl, by simp, ?_, ?_, fun i hi => ?_⟩, fun i hi => ⟨⟨by simp, rfl⟩, ⟨by simp [wides, wide1], fun hh => by rw [flats_ss _ _ _ _ _ rfl]; simp⟩, ⟨[.sl [.int .i64]], rho, false, true⟩, by simp [addReg, boxD], by (simp; omega), fun j l hl => by simpa using hl⟩, by omega⟩, (fun b hb => by (simp only [blkOf, Option.some.injEq] at hb; omega)), fun b t hb hbt => ?_⟩
    · unfold addReg
      cases hd : boxD D h2.n [.sl [.int .i64]] b with
      | none => rfl
      | some l => have := hnew b l hd; omega
    · unfold addReg
      cases hd : boxD D h2.n [.sl [.int .i64]] (h2.n + 1) with
      | none => exact hGn _ (by omega)
      | some l =>
        unfold boxD at hd
        split at hd
        · omega
        · have := (hD _ _ hd).1; omega
    · rw [show h2.n + 1 = ((h2.push (.blk 44 [.nils] true)).set h2.n (.blk 44 [v] true)).n from rfl]; exact Hp.get_push_self _ _
    · obtain rfl : i = 0 := by omega
      rfl
    · unfold addReg at hbt
      split at hbt
      · cases hbt; exact ⟨Nat.le_refl _, rfl⟩
      · rw [hGn b hb] at hbt; cases hbt
  have hbs' : ∀ hh : Hp, buildSliceA tb hh 29 1 [(0, .f (.func 16) [] [.p h2.n 0])] = some (.sl hh.n 0 1 (some 1) 1, hh.push (.blk 72 [.f (.func 16) [] [.p h2.n 0]] true)) := by
    intro hh
    simp [buildSliceA, T.t29, T.t36, fillA, rep, TI.zero, cl_f, on_f, setAll, cl_nilf]
  refine Wf.intro (sz := 15) rfl rfl fun K hn0 hr0 => ?_
  repeat refine Wc.assoc ?_
  refine Wc.seq fun K1 hn1 hx1 => ?_
  refine Wc.rg ?_
  refine Wo.val rfl (by first | rfl | (simp only [MS, Nat.reduceBEq, Nat.reduceBNe, Nat.reduceEqDiff, reduceIte, if_true, if_false, reduceCtorEq, Nat.reduceAdd, Nat.reduceMul, Nat.reduceLeDiff, Nat.reduceLT, Nat.reduceDiv, Nat.reduceSub, cval, cv, TS T] <;> rfl)) rfl ?_
  refine Wo.nil ?_
  refine hn1 _ ?_
  repeat refine Wc.assoc ?_
  refine Wc.seq fun K2 hn2 hx2 => ?_
  refine Wc.rg ?_
  refine Wo.val rfl (by first | rfl | (simp only [MS, Nat.reduceBEq, Nat.reduceBNe, Nat.reduceEqDiff, reduceIte, if_true, if_false, reduceCtorEq, Nat.reduceAdd, Nat.reduceMul, Nat.reduceLeDiff, Nat.reduceLT, Nat.reduceDiv, Nat.reduceSub, TS T, hyg] <;> rfl)) rfl ?_
  refine Wo.val rfl (by first | rfl | (simp only [MS, Nat.reduceBEq, Nat.reduceBNe, Nat.reduceEqDiff, reduceIte, if_true, if_false, reduceCtorEq, Nat.reduceAdd, Nat.reduceMul, Nat.reduceLeDiff, Nat.reduceLT, Nat.reduceDiv, Nat.reduceSub, okCheck, TS T, hyg] <;> rfl)) rfl ?_
  refine Wo.val rfl (by simp only [MS, Nat.reduceBEq, Nat.reduceBNe, Nat.reduceEqDiff, reduceIte, if_true, if_false, reduceCtorEq, Nat.reduceAdd, Nat.reduceMul, Nat.reduceLeDiff, Nat.reduceLT, Nat.reduceDiv, Nat.reduceSub, TS T, hyg] <;> rfl) rfl ?_
  refine Wo.val rfl (by simp only [MS, Nat.reduceBEq, Nat.reduceBNe, Nat.reduceEqDiff, reduceIte, if_true, if_false, reduceCtorEq, Nat.reduceAdd, Nat.reduceMul, Nat.reduceLeDiff, Nat.reduceLT, Nat.reduceDiv, Nat.reduceSub, loadA, partV, TS T, hyg] <;> rfl) rfl ?_
  refine Wo.cl rfl rfl rfl (by first | rfl | (simp only [MS, Nat.reduceBEq, Nat.reduceBNe, Nat.reduceEqDiff, reduceIte, if_true, if_false, reduceCtorEq, Nat.reduceAdd, Nat.reduceMul, Nat.reduceLeDiff, Nat.reduceLT, Nat.reduceDiv, Nat.reduceSub, cval, cv, TS T, hyg] <;> rfl)) (by first | rfl | (simp only [MS, Nat.reduceBEq, Nat.reduceBNe, Nat.reduceEqDiff, reduceIte, if_true, if_false, reduceCtorEq, Nat.reduceAdd, Nat.reduceMul, Nat.reduceLeDiff, Nat.reduceLT, Nat.reduceDiv, Nat.reduceSub, cval, cv, TS T, hyg] <;> rfl)) (fun _ => rfl) ?_
  refine ⟨_, h2, hcall, ?_⟩
  refine Wo.val rfl (by first | rfl | (simp only [MS, Nat.reduceBEq, Nat.reduceBNe, Nat.reduceEqDiff, reduceIte, if_true, if_false, reduceCtorEq, Nat.reduceAdd, Nat.reduceMul, Nat.reduceLeDiff, Nat.reduceLT, Nat.reduceDiv, Nat.reduceSub, TS T, hvc, hvo, and_self, true_and] <;> rfl)) rfl ?_
  refine Wo.val rfl (by first | rfl | (simp only [MS, Nat.reduceBEq, Nat.reduceBNe, Nat.reduceEqDiff, reduceIte, if_true, if_false, reduceCtorEq, Nat.reduceAdd, Nat.reduceMul, Nat.reduceLeDiff, Nat.reduceLT, Nat.reduceDiv, Nat.reduceSub, TS T, hvc, hvo, and_self, true_and] <;> rfl)) rfl ?_
  refine Wo.val rfl (by first | rfl | (simp only [MS, Nat.reduceBEq, Nat.reduceBNe, Nat.reduceEqDiff, reduceIte, if_true, if_false, reduceCtorEq, Nat.reduceAdd, Nat.reduceMul, Nat.reduceLeDiff, Nat.reduceLT, Nat.reduceDiv, Nat.reduceSub, TS T, hvc, hvo, and_self, true_and] <;> rfl)) rfl ?_
  refine Wo.val rfl (by simp only [MS, Nat.reduceBEq, Nat.reduceBNe, Nat.reduceEqDiff, reduceIte, if_true, if_false, reduceCtorEq, Nat.reduceAdd, Nat.reduceMul, Nat.reduceLeDiff, Nat.reduceLT, Nat.reduceDiv, Nat.reduceSub, TI.zero, TS T, hvc, hvo, and_self, true_and] <;> rfl) rfl ?_
  refine Wo.val rfl (by simp only [MS, Nat.reduceBEq, Nat.reduceBNe, Nat.reduceEqDiff, reduceIte, if_true, if_false, reduceCtorEq, Nat.reduceAdd, Nat.reduceMul, Nat.reduceLeDiff, Nat.reduceLT, Nat.reduceDiv, Nat.reduceSub, storeA, setAll, TI.zero, cval, cv, TS T, hvc, hvo, and_self, true_and] <;> rfl) rfl ?_
  refine Wo.val rfl (by first | rfl | (simp only [MS, Nat.reduceBEq, Nat.reduceBNe, Nat.reduceEqDiff, reduceIte, if_true, if_false, reduceCtorEq, Nat.reduceAdd, Nat.reduceMul, Nat.reduceLeDiff, Nat.reduceLT, Nat.reduceDiv, Nat.reduceSub, cval, cv, TS T, hvc, hvo, and_self, true_and] <;> rfl)) rfl ?_
  refine Wo.nil ?_
  refine hn2 _ ?_
  refine Wc.seq fun K3 hn3 hx3 => ?_
  refine Wc.rg ?_
  refine Wo.val rfl (by first | rfl | (simp only [MS, Nat.reduceBEq, Nat.reduceBNe, Nat.reduceEqDiff, reduceIte, if_true, if_false, reduceCtorEq, Nat.reduceAdd, Nat.reduceMul, Nat.reduceLeDiff, Nat.reduceLT, Nat.reduceDiv, Nat.reduceSub, TS T, hbs'] <;> rfl)) rfl ?_
  refine Wo.val rfl (by simp only [MS, Nat.reduceBEq, Nat.reduceBNe, Nat.reduceEqDiff, reduceIte, if_true, if_false, reduceCtorEq, Nat.reduceAdd, Nat.reduceMul, Nat.reduceLeDiff, Nat.reduceLT, Nat.reduceDiv, Nat.reduceSub, partsA, cval, cv, TS T, hbs'] <;> rfl) rfl ?_
  refine Wo.val rfl (by first | rfl | (simp only [MS, Nat.reduceBEq, Nat.reduceBNe, Nat.reduceEqDiff, reduceIte, if_true, if_false, reduceCtorEq, Nat.reduceAdd, Nat.reduceMul, Nat.reduceLeDiff, Nat.reduceLT, Nat.reduceDiv, Nat.reduceSub, cval, cv, TS T, hbs'] <;> rfl)) rfl ?_
  refine Wo.nil ?_
  exact hn3 _ (Wc.ret (hr0 _ _ [_] rfl ⟨rfl, rfl⟩))

end Go.Mx
