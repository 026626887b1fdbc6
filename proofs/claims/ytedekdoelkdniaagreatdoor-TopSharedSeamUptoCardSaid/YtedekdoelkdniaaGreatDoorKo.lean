/- The functions that see and copy. -/
import Derived.Test.YtedekdoelkdniaaGreatDoorKm
set_option linter.all false
--@T
namespace Go.Mx
open Go.Proofs
set_option maxRecDepth 100000
set_option maxHeartbeats 4000000
theorem S.f32_ok {tb fc} (T : S.Ty tb) {call call' : Caller} {lf : Nat} (hc : ∀ args h, call' (.fn 32) args h = runF tb fc call lf Tryz.f32 args h) : SeeOk 3 9 call' 32 [.int .i64] := by
  intro G h eb eo E xb xo t P hxb hl hlen
  obtain ⟨hxlt, xty, xc, xrw, hx, hxl, hxw, hxok⟩ := P.ok.blk xb t hxb
  obtain ⟨ty, cs, he, e0, e1, e2, e3, e4⟩ := P.eye.blk
  have hlt := P.eye.lt
  have hl0 := hl 0 _ rfl
  rw [Nat.add_zero] at hl0
  have hxo : xo < xc.length := by rw [hxl]; exact (List.getElem?_eq_some_iff.1 hl0).1
  obtain ⟨n, hn, hnw⟩ := hxok xo _ _ hl0 (List.getElem?_eq_getElem hxo)
  have x0 : xc[xo]? = some (.i .i64 n) := by rw [List.getElem?_eq_getElem hxo, hn]
  have hne : xb ≠ eb := fun e => by rw [e, P.geb] at hxb; cases hxb
  suffices H : Wf tb fc call lf Tryz.f32 [.p eb eo, .p xb xo] h (fun v h' => v = .tup [] ∧ ∃ E', Post1 3 9 G t.reg h h' eb eo E E' (wides [.int .i64]) ∧ (E.mark = false → (E'.ns, E'.ss) = flats h E.rm [.int .i64] ((cellsOf h xb).drop xo) (E.ns, E.ss))) by
    obtain ⟨v, h', h1, rfl, E', h2, h3⟩ := H
    exact ⟨h', E', by rw [hc]; exact h1, h2, h3⟩
  refine Wf.intro (sz := 33) rfl rfl fun K hn0 hr0 => ?_
  repeat refine Wc.assoc ?_
  refine Wc.seq fun K1 hn1 hx1 => ?_
  refine Wc.rg ?_
  refine Wo.val rfl (by first | rfl | (simp only [MS, Nat.reduceBEq, Nat.reduceBNe, Nat.reduceEqDiff, reduceIte, if_true, if_false, reduceCtorEq, Nat.reduceAdd, Nat.reduceMul, Nat.reduceLeDiff, Nat.reduceLT, Nat.reduceDiv, Nat.reduceSub, TS T, he, e2] <;> rfl)) rfl ?_
  refine Wo.val rfl (by first | rfl | (simp only [MS, Nat.reduceBEq, Nat.reduceBNe, Nat.reduceEqDiff, reduceIte, if_true, if_false, reduceCtorEq, Nat.reduceAdd, Nat.reduceMul, Nat.reduceLeDiff, Nat.reduceLT, Nat.reduceDiv, Nat.reduceSub, okCheck, TS T, he, e2] <;> rfl)) rfl ?_
  refine Wo.val rfl (by simp only [MS, Nat.reduceBEq, Nat.reduceBNe, Nat.reduceEqDiff, reduceIte, if_true, if_false, reduceCtorEq, Nat.reduceAdd, Nat.reduceMul, Nat.reduceLeDiff, Nat.reduceLT, Nat.reduceDiv, Nat.reduceSub, TS T, he, e2] <;> rfl) rfl ?_
  refine Wo.val rfl (by simp only [MS, Nat.reduceBEq, Nat.reduceBNe, Nat.reduceEqDiff, reduceIte, if_true, if_false, reduceCtorEq, Nat.reduceAdd, Nat.reduceMul, Nat.reduceLeDiff, Nat.reduceLT, Nat.reduceDiv, Nat.reduceSub, loadA, partV, TS T, he, e2] <;> rfl) rfl ?_
  refine Wo.nil ?_
  refine hn1 _ ?_
  refine Wc.seq fun K2 hn2 hx2 => ?_
  have tail : ∀ fr h1 E1 m, look fr 0 = some (.p eb eo) → look fr 1 = some (.p xb xo) → Pre 3 9 G t.reg t.rm h1 eb eo E1 → Post1 3 9 G t.reg h h1 eb eo E E1 0 → E1.ns = E.ns → E1.ss = E.ss → (∃ xc', h1.get xb = some (.blk xty xc' xrw) ∧ xc'[xo]? = some (.i .i64 m)) → (E.mark = false → m = n) → K2 .normal ⟨fr, [], h1⟩ := by
    intro fr h1 E1 m f0 f1 P1 S1 hns hss hxm hm
    refine hn2 _ ?_
    obtain ⟨xc', hx', x0'⟩ := hxm
    obtain ⟨ty1, cs1, he1, e10, e11, e12, e13, e14⟩ := P1.eye.blk
    have hlt1 := P1.eye.lt
    have hxlt1 := (P1.ok.blk xb t hxb).1
    have hbs := buildSlice_one T.n h1 (v := .i .i64 m) rfl
    obtain ⟨nv', h2, ha, hs2, hn2', hp2, ho2⟩ := SlAt.app (h := h1.push (.blk 6 [.i .i64 m] true)) T.n (x := .i .i64 m) (xb := h1.n) (xt := 6) (xw := true) (P1.eye.n.same (by simp) fun b hb => Hp.get_push_ne _ _ (by have := P1.eye.n.lt hb; omega)) (by simp) rfl (by have := S1.len; simp; rw [hns]; simp [wides, wide1] at hlen; omega)
    have hge : h2.get eb = some (.blk ty1 cs1 true) := by
      rw [ho2 eb (by simp; omega) (fun e => P1.eye.ne (.inl e)), Hp.get_push_ne _ _ (by omega)]; exact he1
    have hel : eo + 5 ≤ cs1.length := by
      have := (List.getElem?_eq_some_iff.1 e14).1; omega
    have hen : eb ≠ h1.n := by omega
    have hxn : xb ≠ h1.n := by omega
    have hvq := P1.eye.n.vbeq
    obtain ⟨hcl, hone⟩ := hs2.cl
    have hel1 : eo + 1 ≤ cs1.length := by omega
    have hgx : h2.get xb = some (.blk xty xc' xrw) := by
      rw [ho2 xb (by simp; omega) (fun e => by rw [P1.gpr xb (.inl e)] at hxb; cases hxb), Hp.get_push_ne _ _ hxn]; exact hx'
    refine Wc.drawn [.p 0 [21, 22, 23, 24, 25, 26, 27, 28, 29, 30, 31, 32] none, .p 1 [21, 22, 23, 24, 25, 26, 27, 28, 29, 31, 32] none, .p 2 [21, 23, 24, 25, 26, 27, 28, 29, 31, 32] none, .p 3 [21, 24, 25, 26, 27, 28, 29, 31, 32] none, .p 4 [21, 25, 26, 27, 28, 29, 31, 32] none, .p 5 [21, 22, 23, 24, 25, 26, 27, 28, 31, 32] none, .p 6 [21, 22, 23, 24, 25, 27, 28, 31, 32] none, .p 7 [21, 22, 23, 24, 25, 28, 31, 32] none, .e 8 [21, 22, 23, 24, 25, 29, 31, 32] none 224, .e 9 [21, 30, 31, 32] none 510, .p 10 [31, 32] none, .p 11 [32] none, .e 12 [] none 4095] (by kernel_rfl) ?_
    refine Wz.v rfl rfl rfl (by first | rfl | (simp only [MS, Nat.reduceBEq, Nat.reduceBNe, Nat.reduceEqDiff, reduceIte, if_true, if_false, reduceCtorEq, Nat.reduceAdd, Nat.reduceMul, Nat.reduceLeDiff, Nat.reduceLT, Nat.reduceDiv, Nat.reduceSub, evR, List.contains, List.elem, TS T, he1, e10, e11, e12, hx', x0', f0, f1, hbs, ha, hge, hen, hxn, hvq, hgx, hcl, hone, hel1, and_self, true_and] <;> rfl)) rfl ?_
    refine Wz.v rfl rfl rfl (by first | rfl | (simp only [MS, Nat.reduceBEq, Nat.reduceBNe, Nat.reduceEqDiff, reduceIte, if_true, if_false, reduceCtorEq, Nat.reduceAdd, Nat.reduceMul, Nat.reduceLeDiff, Nat.reduceLT, Nat.reduceDiv, Nat.reduceSub, evR, List.contains, List.elem, TS T, he1, e10, e11, e12, hx', x0', f0, f1, hbs, ha, hge, hen, hxn, hvq, hgx, hcl, hone, hel1, and_self, true_and] <;> rfl)) rfl ?_
    refine Wz.v rfl rfl rfl (by first | rfl | (simp only [MS, Nat.reduceBEq, Nat.reduceBNe, Nat.reduceEqDiff, reduceIte, if_true, if_false, reduceCtorEq, Nat.reduceAdd, Nat.reduceMul, Nat.reduceLeDiff, Nat.reduceLT, Nat.reduceDiv, Nat.reduceSub, okCheck, evR, List.contains, List.elem, TS T, he1, e10, e11, e12, hx', x0', f0, f1, hbs, ha, hge, hen, hxn, hvq, hgx, hcl, hone, hel1, and_self, true_and] <;> rfl)) rfl ?_
    refine Wz.v rfl rfl rfl (by simp only [MS, Nat.reduceBEq, Nat.reduceBNe, Nat.reduceEqDiff, reduceIte, if_true, if_false, reduceCtorEq, Nat.reduceAdd, Nat.reduceMul, Nat.reduceLeDiff, Nat.reduceLT, Nat.reduceDiv, Nat.reduceSub, evR, List.contains, List.elem, TS T, he1, e10, e11, e12, hx', x0', f0, f1, hbs, ha, hge, hen, hxn, hvq, hgx, hcl, hone, hel1, and_self, true_and] <;> rfl) rfl ?_
    refine Wz.ld rfl rfl rfl (by simp only [MS, Nat.reduceBEq, Nat.reduceBNe, Nat.reduceEqDiff, reduceIte, if_true, if_false, reduceCtorEq, Nat.reduceAdd, Nat.reduceMul, Nat.reduceLeDiff, Nat.reduceLT, Nat.reduceDiv, Nat.reduceSub, loadA, partV, evR, List.contains, List.elem, TS T, he1, e10, e11, e12, hx', x0', f0, f1, hbs, ha, hge, hen, hxn, hvq, hgx, hcl, hone, hel1, and_self, true_and] <;> rfl) rfl ?_
    refine Wz.v rfl rfl rfl (by first | rfl | (simp only [MS, Nat.reduceBEq, Nat.reduceBNe, Nat.reduceEqDiff, reduceIte, if_true, if_false, reduceCtorEq, Nat.reduceAdd, Nat.reduceMul, Nat.reduceLeDiff, Nat.reduceLT, Nat.reduceDiv, Nat.reduceSub, evR, List.contains, List.elem, TS T, he1, e10, e11, e12, hx', x0', f0, f1, hbs, ha, hge, hen, hxn, hvq, hgx, hcl, hone, hel1, and_self, true_and] <;> rfl)) rfl ?_
    refine Wz.v rfl rfl rfl (by first | rfl | (simp only [MS, Nat.reduceBEq, Nat.reduceBNe, Nat.reduceEqDiff, reduceIte, if_true, if_false, reduceCtorEq, Nat.reduceAdd, Nat.reduceMul, Nat.reduceLeDiff, Nat.reduceLT, Nat.reduceDiv, Nat.reduceSub, okCheck, evR, List.contains, List.elem, TS T, he1, e10, e11, e12, hx', x0', f0, f1, hbs, ha, hge, hen, hxn, hvq, hgx, hcl, hone, hel1, and_self, true_and] <;> rfl)) rfl ?_
    refine Wz.ld rfl rfl rfl (by simp only [MS, Nat.reduceBEq, Nat.reduceBNe, Nat.reduceEqDiff, reduceIte, if_true, if_false, reduceCtorEq, Nat.reduceAdd, Nat.reduceMul, Nat.reduceLeDiff, Nat.reduceLT, Nat.reduceDiv, Nat.reduceSub, loadA, partV, evR, List.contains, List.elem, TS T, he1, e10, e11, e12, hx', x0', f0, f1, hbs, ha, hge, hen, hxn, hvq, hgx, hcl, hone, hel1, and_self, true_and] <;> rfl) rfl ?_
    refine Wz.e rfl rfl (by simp only [MS, Nat.reduceBEq, Nat.reduceBNe, Nat.reduceEqDiff, reduceIte, if_true, if_false, reduceCtorEq, Nat.reduceAdd, Nat.reduceMul, Nat.reduceLeDiff, Nat.reduceLT, Nat.reduceDiv, Nat.reduceSub, partsA, cval, cv, evR, List.contains, List.elem, TS T, he1, e10, e11, e12, hx', x0', f0, f1, hbs, ha, hge, hen, hxn, hvq, hgx, hcl, hone, hel1, and_self, true_and] <;> rfl) rfl (by repeat' first | exact ldsOk_nil | refine ldsOk_skip (by rfl) ?_ | refine ldsOk_cons (by simp only [MS, Nat.reduceBEq, Nat.reduceBNe, Nat.reduceEqDiff, reduceIte, if_true, if_false, reduceCtorEq, Nat.reduceAdd, Nat.reduceMul, Nat.reduceLeDiff, Nat.reduceLT, Nat.reduceDiv, Nat.reduceSub, evR, List.contains, List.elem, loadA, partV, TS T, he1, e10, e11, e12, hx', x0', f0, f1, hbs, ha, hge, hen, hxn, hvq, hgx, hcl, hone, hel1, and_self, true_and]) (by simp [vbeq, vbeqs, he1, e10, e11, e12, hx', x0', f0, f1, hbs, ha, hge, hen, hxn, hvq, hgx, hcl, hone, hel1, and_self, true_and]) ?_) (by repeat' first | exact alsOk_nil | refine alsOk_skip (by rfl) ?_ | refine alsOk_cons (by simp only [MS, Nat.reduceBEq, Nat.reduceBNe, Nat.reduceEqDiff, reduceIte, if_true, if_false, reduceCtorEq, Nat.reduceAdd, Nat.reduceMul, Nat.reduceLeDiff, Nat.reduceLT, Nat.reduceDiv, Nat.reduceSub, evR, List.contains, List.elem, loadA, partV, TS T, he1, e10, e11, e12, hx', x0', f0, f1, hbs, ha, hge, hen, hxn, hvq, hgx, hcl, hone, hel1, and_self, true_and]) (by simp [vbeq, vbeqs]) ?_) ?_
    refine Wz.e rfl rfl (by simp only [MS, Nat.reduceBEq, Nat.reduceBNe, Nat.reduceEqDiff, reduceIte, if_true, if_false, reduceCtorEq, Nat.reduceAdd, Nat.reduceMul, Nat.reduceLeDiff, Nat.reduceLT, Nat.reduceDiv, Nat.reduceSub, bltA, intsA, intsA.go, cval, cv, evR, List.contains, List.elem, TS T, he1, e10, e11, e12, hx', x0', f0, f1, hbs, ha, hge, hen, hxn, hvq, hgx, hcl, hone, hel1, and_self, true_and] <;> rfl) rfl (by repeat' first | exact ldsOk_nil | refine ldsOk_skip (by rfl) ?_ | refine ldsOk_cons (by simp only [MS, Nat.reduceBEq, Nat.reduceBNe, Nat.reduceEqDiff, reduceIte, if_true, if_false, reduceCtorEq, Nat.reduceAdd, Nat.reduceMul, Nat.reduceLeDiff, Nat.reduceLT, Nat.reduceDiv, Nat.reduceSub, evR, List.contains, List.elem, loadA, partV, TS T, he1, e10, e11, e12, hx', x0', f0, f1, hbs, ha, hge, hen, hxn, hvq, hgx, hcl, hone, hel1, and_self, true_and]) (by simp [vbeq, vbeqs, he1, e10, e11, e12, hx', x0', f0, f1, hbs, ha, hge, hen, hxn, hvq, hgx, hcl, hone, hel1, and_self, true_and]) ?_) (by repeat' first | exact alsOk_nil | refine alsOk_skip (by rfl) ?_ | refine alsOk_cons (by simp only [MS, Nat.reduceBEq, Nat.reduceBNe, Nat.reduceEqDiff, reduceIte, if_true, if_false, reduceCtorEq, Nat.reduceAdd, Nat.reduceMul, Nat.reduceLeDiff, Nat.reduceLT, Nat.reduceDiv, Nat.reduceSub, evR, List.contains, List.elem, loadA, partV, TS T, he1, e10, e11, e12, hx', x0', f0, f1, hbs, ha, hge, hen, hxn, hvq, hgx, hcl, hone, hel1, and_self, true_and]) (by simp [vbeq, vbeqs]) ?_) ?_
    refine Wz.v rfl rfl rfl (by first | rfl | (simp only [MS, Nat.reduceBEq, Nat.reduceBNe, Nat.reduceEqDiff, reduceIte, if_true, if_false, reduceCtorEq, Nat.reduceAdd, Nat.reduceMul, Nat.reduceLeDiff, Nat.reduceLT, Nat.reduceDiv, Nat.reduceSub, okCheck, evR, List.contains, List.elem, TS T, he1, e10, e11, e12, hx', x0', f0, f1, hbs, ha, hge, hen, hxn, hvq, hgx, hcl, hone, hel1, and_self, true_and] <;> rfl)) rfl ?_
    refine Wz.v rfl rfl rfl (by simp only [MS, Nat.reduceBEq, Nat.reduceBNe, Nat.reduceEqDiff, reduceIte, if_true, if_false, reduceCtorEq, Nat.reduceAdd, Nat.reduceMul, Nat.reduceLeDiff, Nat.reduceLT, Nat.reduceDiv, Nat.reduceSub, evR, List.contains, List.elem, TS T, he1, e10, e11, e12, hx', x0', f0, f1, hbs, ha, hge, hen, hxn, hvq, hgx, hcl, hone, hel1, and_self, true_and] <;> rfl) rfl ?_
    refine Wz.e rfl rfl (by simp only [MS, Nat.reduceBEq, Nat.reduceBNe, Nat.reduceEqDiff, reduceIte, if_true, if_false, reduceCtorEq, Nat.reduceAdd, Nat.reduceMul, Nat.reduceLeDiff, Nat.reduceLT, Nat.reduceDiv, Nat.reduceSub, storeA, setAll, TI.zero, cval, cv, evR, List.contains, List.elem, TS T, he1, e10, e11, e12, hx', x0', f0, f1, hbs, ha, hge, hen, hxn, hvq, hgx, hcl, hone, hel1, and_self, true_and] <;> rfl) rfl (by repeat' first | exact ldsOk_nil | refine ldsOk_skip (by rfl) ?_ | refine ldsOk_cons (by simp only [MS, Nat.reduceBEq, Nat.reduceBNe, Nat.reduceEqDiff, reduceIte, if_true, if_false, reduceCtorEq, Nat.reduceAdd, Nat.reduceMul, Nat.reduceLeDiff, Nat.reduceLT, Nat.reduceDiv, Nat.reduceSub, evR, List.contains, List.elem, loadA, partV, TS T, he1, e10, e11, e12, hx', x0', f0, f1, hbs, ha, hge, hen, hxn, hvq, hgx, hcl, hone, hel1, and_self, true_and]) (by simp [vbeq, vbeqs, he1, e10, e11, e12, hx', x0', f0, f1, hbs, ha, hge, hen, hxn, hvq, hgx, hcl, hone, hel1, and_self, true_and]) ?_) (by repeat' first | exact alsOk_nil | refine alsOk_skip (by rfl) ?_ | refine alsOk_cons (by simp only [MS, Nat.reduceBEq, Nat.reduceBNe, Nat.reduceEqDiff, reduceIte, if_true, if_false, reduceCtorEq, Nat.reduceAdd, Nat.reduceMul, Nat.reduceLeDiff, Nat.reduceLT, Nat.reduceDiv, Nat.reduceSub, evR, List.contains, List.elem, loadA, partV, TS T, he1, e10, e11, e12, hx', x0', f0, f1, hbs, ha, hge, hen, hxn, hvq, hgx, hcl, hone, hel1, and_self, true_and]) (by simp [vbeq, vbeqs]) ?_) ?_
    refine Wz.nil ?_
    have hnum := (Post1.num P1 he1 (n := m) (by simpa using hs2) (by simp at hn2'; omega) (fun b hb => by have := hp2 b hb; simp at this; omega) (fun b hb hne => by rw [ho2 b (by simp; omega) hne, Hp.get_push_ne _ _ (by omega)]) e10)
    have h01 : wides [Lf.int IntKind.i64] = 0 + 1 := rfl
    refine hn0 _ _ [] rfl ⟨rfl, _, (by rw [h01]; exact S1.trans hlt hnum.1), fun hmk => ?_⟩
    have hcx : (cellsOf h xb).drop xo = (.i .i64 n) :: (xc.drop (xo + 1)) := by
      simp only [cellsOf, hx]; rw [List.drop_eq_getElem_cons hxo, hn]
    rw [hcx, hm hmk]
    simp only [flats, flat1, hnw, hns, hss]
  refine Wc.cond (t := E.mark) rfl (fun hm => ?_) fun hm => ?_
  · refine Wc.seq fun K3 hn3 hx3 => ?_
    have hel : eo + 5 ≤ cs.length := by
      have := (List.getElem?_eq_some_iff.1 e4).1; omega
    have hel3 : eo + 3 + 1 ≤ cs.length := by omega
    have hel3' : eo + 3 < cs.length := by omega
    have hxrw : xrw = true := hxw.wr (P.mark hm xb t hxb rfl)
    subst hxrw
    have hxo1 : xo + 1 ≤ xc.length := hxo
    have S1 := Post1.count P he (IntKind.i64.wrap (E.at_ + 1))
    have P1 := P.next S1
    refine Wc.rg ?_
    refine Wo.val rfl (by first | rfl | (simp only [MS, Nat.reduceBEq, Nat.reduceBNe, Nat.reduceEqDiff, reduceIte, if_true, if_false, reduceCtorEq, Nat.reduceAdd, Nat.reduceMul, Nat.reduceLeDiff, Nat.reduceLT, Nat.reduceDiv, Nat.reduceSub, TS T, he, e2, e3, hel3, and_self, true_and] <;> rfl)) rfl ?_
    refine Wo.val rfl (by first | rfl | (simp only [MS, Nat.reduceBEq, Nat.reduceBNe, Nat.reduceEqDiff, reduceIte, if_true, if_false, reduceCtorEq, Nat.reduceAdd, Nat.reduceMul, Nat.reduceLeDiff, Nat.reduceLT, Nat.reduceDiv, Nat.reduceSub, okCheck, TS T, he, e2, e3, hel3, and_self, true_and] <;> rfl)) rfl ?_
    refine Wo.val rfl (by simp only [MS, Nat.reduceBEq, Nat.reduceBNe, Nat.reduceEqDiff, reduceIte, if_true, if_false, reduceCtorEq, Nat.reduceAdd, Nat.reduceMul, Nat.reduceLeDiff, Nat.reduceLT, Nat.reduceDiv, Nat.reduceSub, TS T, he, e2, e3, hel3, and_self, true_and] <;> rfl) rfl ?_
    refine Wo.val rfl (by simp only [MS, Nat.reduceBEq, Nat.reduceBNe, Nat.reduceEqDiff, reduceIte, if_true, if_false, reduceCtorEq, Nat.reduceAdd, Nat.reduceMul, Nat.reduceLeDiff, Nat.reduceLT, Nat.reduceDiv, Nat.reduceSub, loadA, partV, TS T, he, e2, e3, hel3, and_self, true_and] <;> rfl) rfl ?_
    refine Wo.val rfl (by simp only [MS, Nat.reduceBEq, Nat.reduceBNe, Nat.reduceEqDiff, reduceIte, if_true, if_false, reduceCtorEq, Nat.reduceAdd, Nat.reduceMul, Nat.reduceLeDiff, Nat.reduceLT, Nat.reduceDiv, Nat.reduceSub, binA, arithA, strA, isC, cval, cv, TS T, he, e2, e3, hel3, and_self, true_and] <;> rfl) rfl ?_
    refine Wo.val rfl (by first | rfl | (simp only [MS, Nat.reduceBEq, Nat.reduceBNe, Nat.reduceEqDiff, reduceIte, if_true, if_false, reduceCtorEq, Nat.reduceAdd, Nat.reduceMul, Nat.reduceLeDiff, Nat.reduceLT, Nat.reduceDiv, Nat.reduceSub, okCheck, TS T, he, e2, e3, hel3, and_self, true_and] <;> rfl)) rfl ?_
    refine Wo.val rfl (by simp only [MS, Nat.reduceBEq, Nat.reduceBNe, Nat.reduceEqDiff, reduceIte, if_true, if_false, reduceCtorEq, Nat.reduceAdd, Nat.reduceMul, Nat.reduceLeDiff, Nat.reduceLT, Nat.reduceDiv, Nat.reduceSub, TS T, he, e2, e3, hel3, and_self, true_and] <;> rfl) rfl ?_
    refine Wo.val rfl (by simp only [MS, Nat.reduceBEq, Nat.reduceBNe, Nat.reduceEqDiff, reduceIte, if_true, if_false, reduceCtorEq, Nat.reduceAdd, Nat.reduceMul, Nat.reduceLeDiff, Nat.reduceLT, Nat.reduceDiv, Nat.reduceSub, storeA, setAll, TI.zero, cval, cv, TS T, he, e2, e3, hel3, and_self, true_and] <;> rfl) rfl ?_
    refine Wo.nil ?_
    refine hn3 _ ?_
    refine Wc.rg ?_
    refine Wo.val rfl (by first | rfl | (simp only [MS, Nat.reduceBEq, Nat.reduceBNe, Nat.reduceEqDiff, reduceIte, if_true, if_false, reduceCtorEq, Nat.reduceAdd, Nat.reduceMul, Nat.reduceLeDiff, Nat.reduceLT, Nat.reduceDiv, Nat.reduceSub, TS T, he, e2, e3, hx, hne, hxo1, hel3', List.getElem?_set_self, and_self, true_and] <;> rfl)) rfl ?_
    refine Wo.val rfl (by first | rfl | (simp only [MS, Nat.reduceBEq, Nat.reduceBNe, Nat.reduceEqDiff, reduceIte, if_true, if_false, reduceCtorEq, Nat.reduceAdd, Nat.reduceMul, Nat.reduceLeDiff, Nat.reduceLT, Nat.reduceDiv, Nat.reduceSub, TS T, he, e2, e3, hx, hne, hxo1, hel3', List.getElem?_set_self, and_self, true_and] <;> rfl)) rfl ?_
    refine Wo.val rfl (by first | rfl | (simp only [MS, Nat.reduceBEq, Nat.reduceBNe, Nat.reduceEqDiff, reduceIte, if_true, if_false, reduceCtorEq, Nat.reduceAdd, Nat.reduceMul, Nat.reduceLeDiff, Nat.reduceLT, Nat.reduceDiv, Nat.reduceSub, okCheck, TS T, he, e2, e3, hx, hne, hxo1, hel3', List.getElem?_set_self, and_self, true_and] <;> rfl)) rfl ?_
    refine Wo.val rfl (by simp only [MS, Nat.reduceBEq, Nat.reduceBNe, Nat.reduceEqDiff, reduceIte, if_true, if_false, reduceCtorEq, Nat.reduceAdd, Nat.reduceMul, Nat.reduceLeDiff, Nat.reduceLT, Nat.reduceDiv, Nat.reduceSub, TS T, he, e2, e3, hx, hne, hxo1, hel3', List.getElem?_set_self, and_self, true_and] <;> rfl) rfl ?_
    refine Wo.val rfl (by simp only [MS, Nat.reduceBEq, Nat.reduceBNe, Nat.reduceEqDiff, reduceIte, if_true, if_false, reduceCtorEq, Nat.reduceAdd, Nat.reduceMul, Nat.reduceLeDiff, Nat.reduceLT, Nat.reduceDiv, Nat.reduceSub, loadA, partV, TS T, he, e2, e3, hx, hne, hxo1, hel3', List.getElem?_set_self, and_self, true_and] <;> rfl) rfl ?_
    refine Wo.val rfl (by first | rfl | (simp only [MS, Nat.reduceBEq, Nat.reduceBNe, Nat.reduceEqDiff, reduceIte, if_true, if_false, reduceCtorEq, Nat.reduceAdd, Nat.reduceMul, Nat.reduceLeDiff, Nat.reduceLT, Nat.reduceDiv, Nat.reduceSub, okCheck, TS T, he, e2, e3, hx, hne, hxo1, hel3', List.getElem?_set_self, and_self, true_and] <;> rfl)) rfl ?_
    refine Wo.val rfl (by simp only [MS, Nat.reduceBEq, Nat.reduceBNe, Nat.reduceEqDiff, reduceIte, if_true, if_false, reduceCtorEq, Nat.reduceAdd, Nat.reduceMul, Nat.reduceLeDiff, Nat.reduceLT, Nat.reduceDiv, Nat.reduceSub, storeA, setAll, TI.zero, cval, cv, TS T, he, e2, e3, hx, hne, hxo1, hel3', List.getElem?_set_self, and_self, true_and] <;> rfl) rfl ?_
    refine Wo.nil ?_
    have hx1 : (h.set eb (.blk ty (cs.set (eo + 3) (.i .i64 (IntKind.i64.wrap (E.at_ + 1)))) true)).get xb = some (.blk xty xc true) := by rw [Hp.get_set_ne _ _ hne]; exact hx
    have S2 := Post1.write P1 hm hxb rfl hx1 hl0 (v := .i .i64 (IntKind.i64.wrap (E.at_ + 1))) ⟨_, rfl, wrap_wrap _ _⟩
    refine tail _ _ _ (IntKind.i64.wrap (E.at_ + 1)) rfl rfl (P1.next S2) (S1.trans hlt S2) rfl rfl ⟨_, Hp.get_set_self _ _ _, by simp [hxo]⟩ fun h => by rw [hm] at h; cases h
  · refine Wc.skip (tail _ _ E n rfl rfl P ⟨.refl P.eye, P.ok, by omega⟩ rfl rfl ⟨xc, hx, x0⟩ fun _ => rfl)
theorem S.f31_ok {tb fc} (T : S.Ty tb) {call call' : Caller} {lf : Nat} (hc : ∀ args h, call' (.fn 31) args h = runF tb fc call lf Tryz.f31 args h) (h32 : SeeOk 3 9 call 32 [.int .i64]) :
    SeeOk 3 9 call' 31 [.int .i64, .int .i64, .int .i64, .int .i64] := by
  intro G h eb eo E xb xo t P hxb hl hlen
  have hxlen := (List.getElem?_eq_some_iff.1 (hl 3 _ rfl)).1
  suffices H : Wf tb fc call lf Tryz.f31 [.p eb eo, .p xb xo] h (fun v h' => v = .tup [] ∧ ∃ E', Seen2 3 9 G t h eb eo E xb xo [.int .i64, .int .i64, .int .i64, .int .i64] h' E') by
    obtain ⟨v, h', h1, rfl, E', h2⟩ := H
    exact ⟨h', E', by rw [hc]; exact h1, h2.fin⟩
  refine Wf.intro (sz := 24) rfl rfl fun K hn0 hr0 => ?_
  repeat refine Wc.assoc ?_
  have S0 := Seen2.start (xb := xb) (xo := xo) P (by omega)
  refine Wc.seq fun K1 hn1 hx1 => ?_
  refine Wc.rg ?_
  refine Wo.val rfl (by first | rfl | (simp only [MS, Nat.reduceBEq, Nat.reduceBNe, Nat.reduceEqDiff, reduceIte, if_true, if_false, reduceCtorEq, Nat.reduceAdd, Nat.reduceMul, Nat.reduceLeDiff, Nat.reduceLT, Nat.reduceDiv, Nat.reduceSub, TS T] <;> rfl)) rfl ?_
  refine Wo.val rfl (by first | rfl | (simp only [MS, Nat.reduceBEq, Nat.reduceBNe, Nat.reduceEqDiff, reduceIte, if_true, if_false, reduceCtorEq, Nat.reduceAdd, Nat.reduceMul, Nat.reduceLeDiff, Nat.reduceLT, Nat.reduceDiv, Nat.reduceSub, TS T] <;> rfl)) rfl ?_
  refine Wo.val rfl (by first | rfl | (simp only [MS, Nat.reduceBEq, Nat.reduceBNe, Nat.reduceEqDiff, reduceIte, if_true, if_false, reduceCtorEq, Nat.reduceAdd, Nat.reduceMul, Nat.reduceLeDiff, Nat.reduceLT, Nat.reduceDiv, Nat.reduceSub, okCheck, TS T] <;> rfl)) rfl ?_
  refine Wo.val rfl (by simp only [MS, Nat.reduceBEq, Nat.reduceBNe, Nat.reduceEqDiff, reduceIte, if_true, if_false, reduceCtorEq, Nat.reduceAdd, Nat.reduceMul, Nat.reduceLeDiff, Nat.reduceLT, Nat.reduceDiv, Nat.reduceSub, TS T] <;> rfl) rfl ?_
  refine Wo.cl rfl rfl rfl (by first | rfl | (simp only [MS, Nat.reduceBEq, Nat.reduceBNe, Nat.reduceEqDiff, reduceIte, if_true, if_false, reduceCtorEq, Nat.reduceAdd, Nat.reduceMul, Nat.reduceLeDiff, Nat.reduceLT, Nat.reduceDiv, Nat.reduceSub, cval, cv, TS T] <;> rfl)) (by first | rfl | (simp only [MS, Nat.reduceBEq, Nat.reduceBNe, Nat.reduceEqDiff, reduceIte, if_true, if_false, reduceCtorEq, Nat.reduceAdd, Nat.reduceMul, Nat.reduceLeDiff, Nat.reduceLT, Nat.reduceDiv, Nat.reduceSub, cval, cv, TS T] <;> rfl)) (fun _ => rfl) ?_
  obtain ⟨h1, E1, hc1, S1⟩ := S0.step (xo) (by simp) h32 hxb (sub_of hl rfl) (by simp only [wides, wide1, List.cons_append, List.nil_append] at hlen ⊢; omega)
  refine ⟨_, h1, hc1, Wo.nil ?_⟩
  refine hn1 _ ?_
  repeat refine Wc.assoc ?_
  refine Wc.seq fun K2 hn2 hx2 => ?_
  refine Wc.rg ?_
  refine Wo.val rfl (by first | rfl | (simp only [MS, Nat.reduceBEq, Nat.reduceBNe, Nat.reduceEqDiff, reduceIte, if_true, if_false, reduceCtorEq, Nat.reduceAdd, Nat.reduceMul, Nat.reduceLeDiff, Nat.reduceLT, Nat.reduceDiv, Nat.reduceSub, TS T] <;> rfl)) rfl ?_
  refine Wo.val rfl (by first | rfl | (simp only [MS, Nat.reduceBEq, Nat.reduceBNe, Nat.reduceEqDiff, reduceIte, if_true, if_false, reduceCtorEq, Nat.reduceAdd, Nat.reduceMul, Nat.reduceLeDiff, Nat.reduceLT, Nat.reduceDiv, Nat.reduceSub, TS T] <;> rfl)) rfl ?_
  refine Wo.val rfl (by first | rfl | (simp only [MS, Nat.reduceBEq, Nat.reduceBNe, Nat.reduceEqDiff, reduceIte, if_true, if_false, reduceCtorEq, Nat.reduceAdd, Nat.reduceMul, Nat.reduceLeDiff, Nat.reduceLT, Nat.reduceDiv, Nat.reduceSub, okCheck, TS T] <;> rfl)) rfl ?_
  refine Wo.val rfl (by simp only [MS, Nat.reduceBEq, Nat.reduceBNe, Nat.reduceEqDiff, reduceIte, if_true, if_false, reduceCtorEq, Nat.reduceAdd, Nat.reduceMul, Nat.reduceLeDiff, Nat.reduceLT, Nat.reduceDiv, Nat.reduceSub, TS T] <;> rfl) rfl ?_
  refine Wo.cl rfl rfl rfl (by first | rfl | (simp only [MS, Nat.reduceBEq, Nat.reduceBNe, Nat.reduceEqDiff, reduceIte, if_true, if_false, reduceCtorEq, Nat.reduceAdd, Nat.reduceMul, Nat.reduceLeDiff, Nat.reduceLT, Nat.reduceDiv, Nat.reduceSub, cval, cv, TS T] <;> rfl)) (by first | rfl | (simp only [MS, Nat.reduceBEq, Nat.reduceBNe, Nat.reduceEqDiff, reduceIte, if_true, if_false, reduceCtorEq, Nat.reduceAdd, Nat.reduceMul, Nat.reduceLeDiff, Nat.reduceLT, Nat.reduceDiv, Nat.reduceSub, cval, cv, TS T] <;> rfl)) (fun _ => rfl) ?_
  obtain ⟨h2, E2, hc2, S2⟩ := S1.step (xo + 1) (by simp) h32 hxb (sub_of hl rfl) (by simp only [wides, wide1, List.cons_append, List.nil_append] at hlen ⊢; omega)
  refine ⟨_, h2, hc2, Wo.nil ?_⟩
  refine hn2 _ ?_
  repeat refine Wc.assoc ?_
  refine Wc.seq fun K3 hn3 hx3 => ?_
  refine Wc.rg ?_
  refine Wo.val rfl (by first | rfl | (simp only [MS, Nat.reduceBEq, Nat.reduceBNe, Nat.reduceEqDiff, reduceIte, if_true, if_false, reduceCtorEq, Nat.reduceAdd, Nat.reduceMul, Nat.reduceLeDiff, Nat.reduceLT, Nat.reduceDiv, Nat.reduceSub, TS T] <;> rfl)) rfl ?_
  refine Wo.val rfl (by first | rfl | (simp only [MS, Nat.reduceBEq, Nat.reduceBNe, Nat.reduceEqDiff, reduceIte, if_true, if_false, reduceCtorEq, Nat.reduceAdd, Nat.reduceMul, Nat.reduceLeDiff, Nat.reduceLT, Nat.reduceDiv, Nat.reduceSub, TS T] <;> rfl)) rfl ?_
  refine Wo.val rfl (by first | rfl | (simp only [MS, Nat.reduceBEq, Nat.reduceBNe, Nat.reduceEqDiff, reduceIte, if_true, if_false, reduceCtorEq, Nat.reduceAdd, Nat.reduceMul, Nat.reduceLeDiff, Nat.reduceLT, Nat.reduceDiv, Nat.reduceSub, okCheck, TS T] <;> rfl)) rfl ?_
  refine Wo.val rfl (by simp only [MS, Nat.reduceBEq, Nat.reduceBNe, Nat.reduceEqDiff, reduceIte, if_true, if_false, reduceCtorEq, Nat.reduceAdd, Nat.reduceMul, Nat.reduceLeDiff, Nat.reduceLT, Nat.reduceDiv, Nat.reduceSub, TS T] <;> rfl) rfl ?_
  refine Wo.cl rfl rfl rfl (by first | rfl | (simp only [MS, Nat.reduceBEq, Nat.reduceBNe, Nat.reduceEqDiff, reduceIte, if_true, if_false, reduceCtorEq, Nat.reduceAdd, Nat.reduceMul, Nat.reduceLeDiff, Nat.reduceLT, Nat.reduceDiv, Nat.reduceSub, cval, cv, TS T] <;> rfl)) (by first | rfl | (simp only [MS, Nat.reduceBEq, Nat.reduceBNe, Nat.reduceEqDiff, reduceIte, if_true, if_false, reduceCtorEq, Nat.reduceAdd, Nat.reduceMul, Nat.reduceLeDiff, Nat.reduceLT, Nat.reduceDiv, Nat.reduceSub, cval, cv, TS T] <;> rfl)) (fun _ => rfl) ?_
  obtain ⟨h3, E3, hc3, S3⟩ := S2.step (xo + 2) (by simp) h32 hxb (sub_of hl rfl) (by simp only [wides, wide1, List.cons_append, List.nil_append] at hlen ⊢; omega)
  refine ⟨_, h3, hc3, Wo.nil ?_⟩
  refine hn3 _ ?_
  repeat refine Wc.assoc ?_
  refine Wc.rg ?_
  refine Wo.val rfl (by first | rfl | (simp only [MS, Nat.reduceBEq, Nat.reduceBNe, Nat.reduceEqDiff, reduceIte, if_true, if_false, reduceCtorEq, Nat.reduceAdd, Nat.reduceMul, Nat.reduceLeDiff, Nat.reduceLT, Nat.reduceDiv, Nat.reduceSub, TS T] <;> rfl)) rfl ?_
  refine Wo.val rfl (by first | rfl | (simp only [MS, Nat.reduceBEq, Nat.reduceBNe, Nat.reduceEqDiff, reduceIte, if_true, if_false, reduceCtorEq, Nat.reduceAdd, Nat.reduceMul, Nat.reduceLeDiff, Nat.reduceLT, Nat.reduceDiv, Nat.reduceSub, TS T] <;> rfl)) rfl ?_
  refine Wo.val rfl (by first | rfl | (simp only [MS, Nat.reduceBEq, Nat.reduceBNe, Nat.reduceEqDiff, reduceIte, if_true, if_false, reduceCtorEq, Nat.reduceAdd, Nat.reduceMul, Nat.reduceLeDiff, Nat.reduceLT, Nat.reduceDiv, Nat.reduceSub, okCheck, TS T] <;> rfl)) rfl ?_
  refine Wo.val rfl (by simp only [MS, Nat.reduceBEq, Nat.reduceBNe, Nat.reduceEqDiff, reduceIte, if_true, if_false, reduceCtorEq, Nat.reduceAdd, Nat.reduceMul, Nat.reduceLeDiff, Nat.reduceLT, Nat.reduceDiv, Nat.reduceSub, TS T] <;> rfl) rfl ?_
  refine Wo.cl rfl rfl rfl (by first | rfl | (simp only [MS, Nat.reduceBEq, Nat.reduceBNe, Nat.reduceEqDiff, reduceIte, if_true, if_false, reduceCtorEq, Nat.reduceAdd, Nat.reduceMul, Nat.reduceLeDiff, Nat.reduceLT, Nat.reduceDiv, Nat.reduceSub, cval, cv, TS T] <;> rfl)) (by first | rfl | (simp only [MS, Nat.reduceBEq, Nat.reduceBNe, Nat.reduceEqDiff, reduceIte, if_true, if_false, reduceCtorEq, Nat.reduceAdd, Nat.reduceMul, Nat.reduceLeDiff, Nat.reduceLT, Nat.reduceDiv, Nat.reduceSub, cval, cv, TS T] <;> rfl)) (fun _ => rfl) ?_
  obtain ⟨h4, E4, hc4, S4⟩ := S3.step (xo + 3) (by simp) h32 hxb (sub_of hl rfl) (by simp only [wides, wide1, List.cons_append, List.nil_append] at hlen ⊢; omega)
  refine ⟨_, h4, hc4, Wo.nil ?_⟩
  exact hn0 _ _ [] rfl ⟨rfl, E4, S4⟩
theorem S.f34_ok {tb fc} (T : S.Ty tb) {call call' : Caller} {lf : Nat} (hlf : 2000000000000 ≤ lf) (hc : ∀ args h, call' (.fn 34) args h = runF tb fc call lf Tryz.f34 args h) {g1 : Nat} {e : List Lf} (hez : e.length = 1) (hone : SeeOk 3 9 call g1 e) : AllOk 3 9 call' 34 g1 e := by
  intro G h eb eo E v r rm P hv hlen
  have hlt := P.eye.lt
  suffices H : Wf tb fc call lf Tryz.f34 [.p eb eo, v, .f (.func g1) [] []] h (fun w h' => w = .tup [] ∧ ∃ E', Post1 3 9 G r h h' eb eo E E' (wide1 (.sl e)) ∧ (E.mark = false → (E'.ns, E'.ss) = flat1 h E.rm (.sl e) v (E.ns, E.ss))) by
    obtain ⟨v, h', h1, rfl, E', h2, h3⟩ := H
    exact ⟨h', E', by rw [hc]; exact h1, h2, h3⟩
  obtain ⟨n, hvn, v', m, F, hroom, hnoroom, R, hflat⟩ := rows_of (room := E.rm) ⟨⟨_, _, _, T.t24, rfl, T.t3, hez.symm⟩, by omega⟩ P.ok hv P.rm
  obtain ⟨ty, cs, he, e0, e1, e2, e3, e4⟩ := P.eye.blk
  have hbs := fun h => buildSlice_one T.n h (v := .i .i64 n) rfl
  obtain ⟨nv, h2, ha, hcl, hon, hn2, ho2, hP⟩ := push_num T.n P (n : Int) (by simp [wide1] at hlen; omega)
  obtain ⟨hge, hel1, _, S1, hgs⟩ := hP ty cs he
  have P1 := P.next S1
  refine Wf.intro (sz := 46) rfl rfl fun K hn0 hr0 => ?_
  repeat refine Wc.assoc ?_
  refine Wc.seq fun K1 hn1 hx1 => ?_
  refine Wc.rg ?_
  refine Wo.val rfl (by first | rfl | (simp only [MS, Nat.reduceBEq, Nat.reduceBNe, Nat.reduceEqDiff, reduceIte, if_true, if_false, reduceCtorEq, Nat.reduceAdd, Nat.reduceMul, Nat.reduceLeDiff, Nat.reduceLT, Nat.reduceDiv, Nat.reduceSub, TS T, he, e0, e4, hvn, hbs, ha, hge, hcl, hon, hel1, and_self, true_and] <;> rfl)) rfl ?_
  refine Wo.val rfl (by first | rfl | (simp only [MS, Nat.reduceBEq, Nat.reduceBNe, Nat.reduceEqDiff, reduceIte, if_true, if_false, reduceCtorEq, Nat.reduceAdd, Nat.reduceMul, Nat.reduceLeDiff, Nat.reduceLT, Nat.reduceDiv, Nat.reduceSub, TS T, he, e0, e4, hvn, hbs, ha, hge, hcl, hon, hel1, and_self, true_and] <;> rfl)) rfl ?_
  refine Wo.val rfl (by first | rfl | (simp only [MS, Nat.reduceBEq, Nat.reduceBNe, Nat.reduceEqDiff, reduceIte, if_true, if_false, reduceCtorEq, Nat.reduceAdd, Nat.reduceMul, Nat.reduceLeDiff, Nat.reduceLT, Nat.reduceDiv, Nat.reduceSub, okCheck, TS T, he, e0, e4, hvn, hbs, ha, hge, hcl, hon, hel1, and_self, true_and] <;> rfl)) rfl ?_
  refine Wo.val rfl (by simp only [MS, Nat.reduceBEq, Nat.reduceBNe, Nat.reduceEqDiff, reduceIte, if_true, if_false, reduceCtorEq, Nat.reduceAdd, Nat.reduceMul, Nat.reduceLeDiff, Nat.reduceLT, Nat.reduceDiv, Nat.reduceSub, TS T, he, e0, e4, hvn, hbs, ha, hge, hcl, hon, hel1, and_self, true_and] <;> rfl) rfl ?_
  refine Wo.val rfl (by simp only [MS, Nat.reduceBEq, Nat.reduceBNe, Nat.reduceEqDiff, reduceIte, if_true, if_false, reduceCtorEq, Nat.reduceAdd, Nat.reduceMul, Nat.reduceLeDiff, Nat.reduceLT, Nat.reduceDiv, Nat.reduceSub, loadA, partV, TS T, he, e0, e4, hvn, hbs, ha, hge, hcl, hon, hel1, and_self, true_and] <;> rfl) rfl ?_
  refine Wo.val rfl (by first | rfl | (simp only [MS, Nat.reduceBEq, Nat.reduceBNe, Nat.reduceEqDiff, reduceIte, if_true, if_false, reduceCtorEq, Nat.reduceAdd, Nat.reduceMul, Nat.reduceLeDiff, Nat.reduceLT, Nat.reduceDiv, Nat.reduceSub, TS T, he, e0, e4, hvn, hbs, ha, hge, hcl, hon, hel1, and_self, true_and] <;> rfl)) rfl ?_
  refine Wo.val rfl (by simp only [MS, Nat.reduceBEq, Nat.reduceBNe, Nat.reduceEqDiff, reduceIte, if_true, if_false, reduceCtorEq, Nat.reduceAdd, Nat.reduceMul, Nat.reduceLeDiff, Nat.reduceLT, Nat.reduceDiv, Nat.reduceSub, cval, cv, TS T, he, e0, e4, hvn, hbs, ha, hge, hcl, hon, hel1, and_self, true_and] <;> rfl) rfl ?_
  refine Wo.val rfl (by simp only [MS, Nat.reduceBEq, Nat.reduceBNe, Nat.reduceEqDiff, reduceIte, if_true, if_false, reduceCtorEq, Nat.reduceAdd, Nat.reduceMul, Nat.reduceLeDiff, Nat.reduceLT, Nat.reduceDiv, Nat.reduceSub, partsA, cval, cv, TS T, he, e0, e4, hvn, hbs, ha, hge, hcl, hon, hel1, and_self, true_and] <;> rfl) rfl ?_
  refine Wo.val rfl (by simp only [MS, Nat.reduceBEq, Nat.reduceBNe, Nat.reduceEqDiff, reduceIte, if_true, if_false, reduceCtorEq, Nat.reduceAdd, Nat.reduceMul, Nat.reduceLeDiff, Nat.reduceLT, Nat.reduceDiv, Nat.reduceSub, cval, cv, TS T, he, e0, e4, hvn, hbs, ha, hge, hcl, hon, hel1, and_self, true_and] <;> rfl) rfl ?_
  refine Wo.val rfl (by first | rfl | (simp only [MS, Nat.reduceBEq, Nat.reduceBNe, Nat.reduceEqDiff, reduceIte, if_true, if_false, reduceCtorEq, Nat.reduceAdd, Nat.reduceMul, Nat.reduceLeDiff, Nat.reduceLT, Nat.reduceDiv, Nat.reduceSub, okCheck, TS T, he, e0, e4, hvn, hbs, ha, hge, hcl, hon, hel1, and_self, true_and] <;> rfl)) rfl ?_
  refine Wo.val rfl (by simp only [MS, Nat.reduceBEq, Nat.reduceBNe, Nat.reduceEqDiff, reduceIte, if_true, if_false, reduceCtorEq, Nat.reduceAdd, Nat.reduceMul, Nat.reduceLeDiff, Nat.reduceLT, Nat.reduceDiv, Nat.reduceSub, TS T, he, e0, e4, hvn, hbs, ha, hge, hcl, hon, hel1, and_self, true_and] <;> rfl) rfl ?_
  refine Wo.val rfl (by simp only [MS, Nat.reduceBEq, Nat.reduceBNe, Nat.reduceEqDiff, reduceIte, if_true, if_false, reduceCtorEq, Nat.reduceAdd, Nat.reduceMul, Nat.reduceLeDiff, Nat.reduceLT, Nat.reduceDiv, Nat.reduceSub, storeA, setAll, TI.zero, cval, cv, TS T, he, e0, e4, hvn, hbs, ha, hge, hcl, hon, hel1, and_self, true_and] <;> rfl) rfl ?_
  refine Wo.nil ?_
  refine hn1 _ ?_
  repeat refine Wc.assoc ?_
  refine Wc.seq fun K2 hn2 hx2 => ?_
  generalize h2.set eb (Ob.blk ty (cs.set eo nv) true) = h1 at hgs S1 P1 ⊢
  obtain ⟨ty1, cs1, he1, e10, e11, e12, e13, e14⟩ := P1.eye.blk
  simp only at e10 e11 e12 e13 e14
  refine Wc.rg ?_
  refine Wo.val rfl (by first | rfl | (simp only [MS, Nat.reduceBEq, Nat.reduceBNe, Nat.reduceEqDiff, reduceIte, if_true, if_false, reduceCtorEq, Nat.reduceAdd, Nat.reduceMul, Nat.reduceLeDiff, Nat.reduceLT, Nat.reduceDiv, Nat.reduceSub, TS T, he1, e14] <;> rfl)) rfl ?_
  refine Wo.val rfl (by first | rfl | (simp only [MS, Nat.reduceBEq, Nat.reduceBNe, Nat.reduceEqDiff, reduceIte, if_true, if_false, reduceCtorEq, Nat.reduceAdd, Nat.reduceMul, Nat.reduceLeDiff, Nat.reduceLT, Nat.reduceDiv, Nat.reduceSub, okCheck, TS T, he1, e14] <;> rfl)) rfl ?_
  refine Wo.val rfl (by simp only [MS, Nat.reduceBEq, Nat.reduceBNe, Nat.reduceEqDiff, reduceIte, if_true, if_false, reduceCtorEq, Nat.reduceAdd, Nat.reduceMul, Nat.reduceLeDiff, Nat.reduceLT, Nat.reduceDiv, Nat.reduceSub, TS T, he1, e14] <;> rfl) rfl ?_
  refine Wo.val rfl (by simp only [MS, Nat.reduceBEq, Nat.reduceBNe, Nat.reduceEqDiff, reduceIte, if_true, if_false, reduceCtorEq, Nat.reduceAdd, Nat.reduceMul, Nat.reduceLeDiff, Nat.reduceLT, Nat.reduceDiv, Nat.reduceSub, loadA, partV, TS T, he1, e14] <;> rfl) rfl ?_
  refine Wo.nil ?_
  refine hn2 _ ?_
  repeat refine Wc.assoc ?_
  refine Wc.seq fun K3 hn3 hx3 => ?_
  have tail : ∀ fr, look fr 0 = some (.p eb eo) → look fr 1 = some v' → look fr 2 = some (.f (.func g1) [] []) → K3 .normal ⟨fr, [], h1⟩ := by
    intro fr f0 f1 f2
    refine hn3 _ ?_
    refine Wc.seq fun K4 hn4 hx4 => ?_
    refine Wc.rg ?_
    refine Wo.val rfl (by first | rfl | (simp only [MS, Nat.reduceBEq, Nat.reduceBNe, Nat.reduceEqDiff, reduceIte, if_true, if_false, reduceCtorEq, Nat.reduceAdd, Nat.reduceMul, Nat.reduceLeDiff, Nat.reduceLT, Nat.reduceDiv, Nat.reduceSub, cval, cv, TS T, f0] <;> rfl)) rfl ?_
    refine Wo.nil ?_
    refine hn4 _ ?_
    refine Wc.block fun K5 hb5 hx5 => ?_
    refine Wc.loop (fun k s => ∃ i fr hi Ei, s = ⟨fr, [], hi⟩ ∧ i + k = m ∧ look fr 0 = some (.p eb eo) ∧ look fr 1 = some v' ∧ look fr 2 = some (.f (.func g1) [] []) ∧ look fr 6 = some (.i .i64 (i : Nat)) ∧
      Post1 3 9 G r h hi eb eo E Ei (1 + wides e) ∧ Pre 3 9 G r rm hi eb eo Ei ∧ (E.mark = false → (∀ b t, G b = some t → hi.get b = h.get b) ∧ flat1 h E.rm (.sl e) v (E.ns, E.ss) = sweep F k i (Ei.ns, Ei.ss))) m (by have := R.small; omega) ⟨0, _, h1, _, rfl, by omega, by simp [look, f0], by simp [look, f1], by simp [look, f2], rfl, ⟨S1.saw, S1.ok, by have := S1.len; omega⟩, P1, fun hm => ⟨hgs, hflat _⟩⟩ ?_
    rintro k _ ⟨i, fr, hi, Ei, rfl, hik, f0, f1, f2, f6, Si, Pi, hfl⟩ KL hnL hxL
    obtain ⟨tyi, csi, hei, ei0, ei1, ei2, ei3, ei4⟩ := Pi.eye.blk
    have hln : bltA tb .len #[24] [Ei.nv] = some (.i .i64 Ei.ns.length) := by
      rcases Pi.eye.n with ⟨hq, hq2⟩ | ⟨b, ty, hq, _⟩
      · rw [hq]; have : Ei.ns = [] := by simpa using hq2
        simp [bltA, T.t24, this]
      · rw [hq]; simp [bltA, T.t24]
    have hRl := R.len
    repeat refine Wc.assoc ?_
    refine Wc.seq fun K6 hn6 hx6 => ?_
    have done : ∀ fr, (k = 0 ∨ ¬ Ei.ns.length < 200000) → K5 (.exit 0) ⟨fr, [], hi⟩ := by
      intro fr hk
      refine hb5 _ (hn0 _ _ [] rfl ⟨rfl, Ei, Si, fun hm => ?_⟩)
      rw [(hfl hm).2]
      rcases hk with rfl | hk
      · rfl
      · cases k with
        | zero => rfl
        | succ k => simp [sweep, hk]
    by_cases hlt : i < m
    · have hlt' : (i : Int) < (m : Int) := by omega
      refine Wc.rg ?_
      refine Wo.val rfl (by first | rfl | (simp only [MS, Nat.reduceBEq, Nat.reduceBNe, Nat.reduceEqDiff, reduceIte, if_true, if_false, reduceCtorEq, Nat.reduceAdd, Nat.reduceMul, Nat.reduceLeDiff, Nat.reduceLT, Nat.reduceDiv, Nat.reduceSub, TS T, f0, f1, f6, hei, ei0, hln, hRl, hlt'] <;> rfl)) rfl ?_
      refine Wo.val rfl (by first | rfl | (simp only [MS, Nat.reduceBEq, Nat.reduceBNe, Nat.reduceEqDiff, reduceIte, if_true, if_false, reduceCtorEq, Nat.reduceAdd, Nat.reduceMul, Nat.reduceLeDiff, Nat.reduceLT, Nat.reduceDiv, Nat.reduceSub, TS T, f0, f1, f6, hei, ei0, hln, hRl, hlt'] <;> rfl)) rfl ?_
      refine Wo.val rfl (by simp only [MS, Nat.reduceBEq, Nat.reduceBNe, Nat.reduceEqDiff, reduceIte, if_true, if_false, reduceCtorEq, Nat.reduceAdd, Nat.reduceMul, Nat.reduceLeDiff, Nat.reduceLT, Nat.reduceDiv, Nat.reduceSub, cval, cv, TS T, f0, f1, f6, hei, ei0, hln, hRl, hlt'] <;> rfl) rfl ?_
      refine Wo.val rfl (by simp only [MS, Nat.reduceBEq, Nat.reduceBNe, Nat.reduceEqDiff, reduceIte, if_true, if_false, reduceCtorEq, Nat.reduceAdd, Nat.reduceMul, Nat.reduceLeDiff, Nat.reduceLT, Nat.reduceDiv, Nat.reduceSub, binA, arithA, strA, isC, cval, cv, TS T, f0, f1, f6, hei, ei0, hln, hRl, hlt'] <;> rfl) rfl ?_
      refine Wo.val rfl (by first | rfl | (simp only [MS, Nat.reduceBEq, Nat.reduceBNe, Nat.reduceEqDiff, reduceIte, if_true, if_false, reduceCtorEq, Nat.reduceAdd, Nat.reduceMul, Nat.reduceLeDiff, Nat.reduceLT, Nat.reduceDiv, Nat.reduceSub, TS T, f0, f1, f6, hei, ei0, hln, hRl, hlt'] <;> rfl)) rfl ?_
      refine Wo.val (by first | rfl | (simp only [wantedA, wantedP, evR, List.contains, List.elem, MS, Nat.reduceBEq, Nat.reduceBNe, Nat.reduceEqDiff, reduceIte, if_true, if_false, reduceCtorEq, Nat.reduceAdd, Nat.reduceMul, Nat.reduceLeDiff, Nat.reduceLT, Nat.reduceDiv, Nat.reduceSub, f0, f1, f6, hei, ei0, hln, hRl, hlt'] <;> rfl)) (by first | rfl | (simp only [MS, Nat.reduceBEq, Nat.reduceBNe, Nat.reduceEqDiff, reduceIte, if_true, if_false, reduceCtorEq, Nat.reduceAdd, Nat.reduceMul, Nat.reduceLeDiff, Nat.reduceLT, Nat.reduceDiv, Nat.reduceSub, TS T, f0, f1, f6, hei, ei0, hln, hRl, hlt'] <;> rfl)) rfl ?_
      refine Wo.val (by first | rfl | (simp only [wantedA, wantedP, evR, List.contains, List.elem, MS, Nat.reduceBEq, Nat.reduceBNe, Nat.reduceEqDiff, reduceIte, if_true, if_false, reduceCtorEq, Nat.reduceAdd, Nat.reduceMul, Nat.reduceLeDiff, Nat.reduceLT, Nat.reduceDiv, Nat.reduceSub, f0, f1, f6, hei, ei0, hln, hRl, hlt'] <;> rfl)) (by first | rfl | (simp only [MS, Nat.reduceBEq, Nat.reduceBNe, Nat.reduceEqDiff, reduceIte, if_true, if_false, reduceCtorEq, Nat.reduceAdd, Nat.reduceMul, Nat.reduceLeDiff, Nat.reduceLT, Nat.reduceDiv, Nat.reduceSub, okCheck, TS T, f0, f1, f6, hei, ei0, hln, hRl, hlt'] <;> rfl)) rfl ?_
      refine Wo.val (by first | rfl | (simp only [wantedA, wantedP, evR, List.contains, List.elem, MS, Nat.reduceBEq, Nat.reduceBNe, Nat.reduceEqDiff, reduceIte, if_true, if_false, reduceCtorEq, Nat.reduceAdd, Nat.reduceMul, Nat.reduceLeDiff, Nat.reduceLT, Nat.reduceDiv, Nat.reduceSub, f0, f1, f6, hei, ei0, hln, hRl, hlt'] <;> rfl)) (by simp only [MS, Nat.reduceBEq, Nat.reduceBNe, Nat.reduceEqDiff, reduceIte, if_true, if_false, reduceCtorEq, Nat.reduceAdd, Nat.reduceMul, Nat.reduceLeDiff, Nat.reduceLT, Nat.reduceDiv, Nat.reduceSub, TS T, f0, f1, f6, hei, ei0, hln, hRl, hlt'] <;> rfl) rfl ?_
      refine Wo.val (by first | rfl | (simp only [wantedA, wantedP, evR, List.contains, List.elem, MS, Nat.reduceBEq, Nat.reduceBNe, Nat.reduceEqDiff, reduceIte, if_true, if_false, reduceCtorEq, Nat.reduceAdd, Nat.reduceMul, Nat.reduceLeDiff, Nat.reduceLT, Nat.reduceDiv, Nat.reduceSub, f0, f1, f6, hei, ei0, hln, hRl, hlt'] <;> rfl)) (by simp only [MS, Nat.reduceBEq, Nat.reduceBNe, Nat.reduceEqDiff, reduceIte, if_true, if_false, reduceCtorEq, Nat.reduceAdd, Nat.reduceMul, Nat.reduceLeDiff, Nat.reduceLT, Nat.reduceDiv, Nat.reduceSub, loadA, partV, TS T, f0, f1, f6, hei, ei0, hln, hRl, hlt'] <;> rfl) rfl ?_
      refine Wo.val (by first | rfl | (simp only [wantedA, wantedP, evR, List.contains, List.elem, MS, Nat.reduceBEq, Nat.reduceBNe, Nat.reduceEqDiff, reduceIte, if_true, if_false, reduceCtorEq, Nat.reduceAdd, Nat.reduceMul, Nat.reduceLeDiff, Nat.reduceLT, Nat.reduceDiv, Nat.reduceSub, f0, f1, f6, hei, ei0, hln, hRl, hlt'] <;> rfl)) (by simp only [MS, Nat.reduceBEq, Nat.reduceBNe, Nat.reduceEqDiff, reduceIte, if_true, if_false, reduceCtorEq, Nat.reduceAdd, Nat.reduceMul, Nat.reduceLeDiff, Nat.reduceLT, Nat.reduceDiv, Nat.reduceSub, cval, cv, TS T, f0, f1, f6, hei, ei0, hln, hRl, hlt'] <;> rfl) rfl ?_
      refine Wo.val (by first | rfl | (simp only [wantedA, wantedP, evR, List.contains, List.elem, MS, Nat.reduceBEq, Nat.reduceBNe, Nat.reduceEqDiff, reduceIte, if_true, if_false, reduceCtorEq, Nat.reduceAdd, Nat.reduceMul, Nat.reduceLeDiff, Nat.reduceLT, Nat.reduceDiv, Nat.reduceSub, f0, f1, f6, hei, ei0, hln, hRl, hlt'] <;> rfl)) (by simp only [MS, Nat.reduceBEq, Nat.reduceBNe, Nat.reduceEqDiff, reduceIte, if_true, if_false, reduceCtorEq, Nat.reduceAdd, Nat.reduceMul, Nat.reduceLeDiff, Nat.reduceLT, Nat.reduceDiv, Nat.reduceSub, binA, arithA, strA, isC, cval, cv, TS T, f0, f1, f6, hei, ei0, hln, hRl, hlt'] <;> rfl) rfl ?_
      refine Wo.val rfl (by first | rfl | (simp only [MS, Nat.reduceBEq, Nat.reduceBNe, Nat.reduceEqDiff, reduceIte, if_true, if_false, reduceCtorEq, Nat.reduceAdd, Nat.reduceMul, Nat.reduceLeDiff, Nat.reduceLT, Nat.reduceDiv, Nat.reduceSub, cval, cv, TS T, f0, f1, f6, hei, ei0, hln, hRl, hlt'] <;> rfl)) rfl ?_
      refine Wo.nil ?_
      refine hn6 _ ?_
      refine Wc.seq fun K7 hn7 hx7 => ?_
      refine Wc.cond (t := decide ((Ei.ns.length : Int) < 200000)) rfl (fun hd => ?_) fun hd => ?_
      · refine Wc.skip (hn7 _ ?_)
        have hd' : Ei.ns.length < 200000 := by have := of_decide_eq_true hd; omega
        refine Wc.seq fun K8 hn8 hx8 => ?_
        refine Wc.block fun K9 hb9 hx9 => ?_
        obtain ⟨b, o, t, hia, hGb, hreg, hrm, hsub, hF⟩ := R.row i hlt
        refine Wc.rg ?_
        refine Wo.val rfl (by first | rfl | (simp only [MS, Nat.reduceBEq, Nat.reduceBNe, Nat.reduceEqDiff, reduceIte, if_true, if_false, reduceCtorEq, Nat.reduceAdd, Nat.reduceMul, Nat.reduceLeDiff, Nat.reduceLT, Nat.reduceDiv, Nat.reduceSub, TS T, f0, f1, f2, f6, hia] <;> rfl)) rfl ?_
        refine Wo.val rfl (by first | rfl | (simp only [MS, Nat.reduceBEq, Nat.reduceBNe, Nat.reduceEqDiff, reduceIte, if_true, if_false, reduceCtorEq, Nat.reduceAdd, Nat.reduceMul, Nat.reduceLeDiff, Nat.reduceLT, Nat.reduceDiv, Nat.reduceSub, TS T, f0, f1, f2, f6, hia] <;> rfl)) rfl ?_
        refine Wo.val rfl (by first | rfl | (simp only [MS, Nat.reduceBEq, Nat.reduceBNe, Nat.reduceEqDiff, reduceIte, if_true, if_false, reduceCtorEq, Nat.reduceAdd, Nat.reduceMul, Nat.reduceLeDiff, Nat.reduceLT, Nat.reduceDiv, Nat.reduceSub, TS T, f0, f1, f2, f6, hia] <;> rfl)) rfl ?_
        refine Wo.val rfl (by first | rfl | (simp only [MS, Nat.reduceBEq, Nat.reduceBNe, Nat.reduceEqDiff, reduceIte, if_true, if_false, reduceCtorEq, Nat.reduceAdd, Nat.reduceMul, Nat.reduceLeDiff, Nat.reduceLT, Nat.reduceDiv, Nat.reduceSub, TS T, f0, f1, f2, f6, hia] <;> rfl)) rfl ?_
        refine Wo.val rfl (by simp only [MS, Nat.reduceBEq, Nat.reduceBNe, Nat.reduceEqDiff, reduceIte, if_true, if_false, reduceCtorEq, Nat.reduceAdd, Nat.reduceMul, Nat.reduceLeDiff, Nat.reduceLT, Nat.reduceDiv, Nat.reduceSub, cval, cv, TS T, f0, f1, f2, f6, hia] <;> rfl) rfl ?_
        refine Wo.cl rfl rfl rfl (by first | rfl | (simp only [MS, Nat.reduceBEq, Nat.reduceBNe, Nat.reduceEqDiff, reduceIte, if_true, if_false, reduceCtorEq, Nat.reduceAdd, Nat.reduceMul, Nat.reduceLeDiff, Nat.reduceLT, Nat.reduceDiv, Nat.reduceSub, cval, cv, TS T, f0, f1, f2, f6, hia] <;> rfl)) (by first | rfl | (simp only [MS, Nat.reduceBEq, Nat.reduceBNe, Nat.reduceEqDiff, reduceIte, if_true, if_false, reduceCtorEq, Nat.reduceAdd, Nat.reduceMul, Nat.reduceLeDiff, Nat.reduceLT, Nat.reduceDiv, Nat.reduceSub, cval, cv, TS T, f0, f1, f2, f6, hia] <;> rfl)) (fun _ => rfl) ?_
        obtain ⟨h', E', hcall, hpost, hseen⟩ := hone G hi eb eo Ei b o t (by rw [hreg, hrm]; exact Pi) hGb hsub (by simp [wide1] at hlen; omega)
        rw [hreg] at hpost
        refine ⟨_, h', hcall, ?_⟩
        refine Wo.nil ?_
        refine hx9 _ _ (by simp) (hn8 _ ?_)
        have hw : IntKind.i64.wrap ((i : Int) + 1) = ((i + 1 : Nat) : Int) := by
          have := R.small
          rw [wrap_i64] <;> omega
        refine Wc.rg ?_
        refine Wo.val rfl (by first | rfl | (simp only [MS, Nat.reduceBEq, Nat.reduceBNe, Nat.reduceEqDiff, reduceIte, if_true, if_false, reduceCtorEq, Nat.reduceAdd, Nat.reduceMul, Nat.reduceLeDiff, Nat.reduceLT, Nat.reduceDiv, Nat.reduceSub, TS T, f0, f1, f2, f6, hw] <;> rfl)) rfl ?_
        refine Wo.val rfl (by simp only [MS, Nat.reduceBEq, Nat.reduceBNe, Nat.reduceEqDiff, reduceIte, if_true, if_false, reduceCtorEq, Nat.reduceAdd, Nat.reduceMul, Nat.reduceLeDiff, Nat.reduceLT, Nat.reduceDiv, Nat.reduceSub, binA, arithA, strA, isC, cval, cv, TS T, f0, f1, f2, f6, hw] <;> rfl) rfl ?_
        refine Wo.val rfl (by first | rfl | (simp only [MS, Nat.reduceBEq, Nat.reduceBNe, Nat.reduceEqDiff, reduceIte, if_true, if_false, reduceCtorEq, Nat.reduceAdd, Nat.reduceMul, Nat.reduceLeDiff, Nat.reduceLT, Nat.reduceDiv, Nat.reduceSub, cval, cv, TS T, f0, f1, f2, f6, hw] <;> rfl)) rfl ?_
        refine Wo.nil ?_
        refine hnL _ (k - 1) (by omega) ⟨i + 1, _, h', E', rfl, by omega, by simp [look, f0], by simp [look, f1], by simp [look, f2], by simp [look], ⟨Si.saw.trans P.eye.lt hpost.saw, hpost.ok, by have := hpost.len; have := Si.len; omega⟩, Pi.next hpost, fun hm => ?_⟩
        have hmi : Ei.mark = false := by rw [Si.saw.mark]; exact hm
        obtain ⟨hg1, hf1⟩ := hfl hm
        have hg2 : ∀ b t, G b = some t → h'.get b = hi.get b := fun b t hb => Saw.gsame Pi hpost.saw hb (.inl hmi)
        refine ⟨fun b t hb => (hg2 b t hb).trans (hg1 b t hb), ?_⟩
        rw [hf1]
        obtain ⟨k, rfl⟩ : ∃ k', k = k' + 1 := ⟨k - 1, by omega⟩
        simp only [sweep, hd', if_true, Nat.add_sub_cancel]
        rw [hseen hmi, hF]
        have hrmi : Ei.rm = E.rm := Si.saw.rm
        rw [hrmi]
        have hch : cellsOf hi b = cellsOf h b := by simp only [cellsOf, hg1 b t hGb]
        rw [hch, flats_local (r := r) (rm := rm) P.ok (fun b t' hb _ => hg1 b t' hb) P.rm e ((cellsOf h b).drop o) (Ei.ns, Ei.ss) (fun j l v hl hv => by
          rw [List.getElem?_drop] at hv
          have := (P.ok.cells hGb).2 _ l v (hsub j l hl) hv
          rw [hreg, hrm] at this; exact this)]
      · refine Wc.exit (hx7 _ _ (by simp) (hxL _ _ (by simp) (done _ (.inr (by have := of_decide_eq_false hd; omega)))))
    · have hlt' : ¬ (i : Int) < (m : Int) := by omega
      refine Wc.rg ?_
      refine Wo.val rfl (by first | rfl | (simp only [MS, Nat.reduceBEq, Nat.reduceBNe, Nat.reduceEqDiff, reduceIte, if_true, if_false, reduceCtorEq, Nat.reduceAdd, Nat.reduceMul, Nat.reduceLeDiff, Nat.reduceLT, Nat.reduceDiv, Nat.reduceSub, TS T, f0, f1, f6, hei, ei0, hln, hRl, hlt'] <;> rfl)) rfl ?_
      refine Wo.val rfl (by first | rfl | (simp only [MS, Nat.reduceBEq, Nat.reduceBNe, Nat.reduceEqDiff, reduceIte, if_true, if_false, reduceCtorEq, Nat.reduceAdd, Nat.reduceMul, Nat.reduceLeDiff, Nat.reduceLT, Nat.reduceDiv, Nat.reduceSub, TS T, f0, f1, f6, hei, ei0, hln, hRl, hlt'] <;> rfl)) rfl ?_
      refine Wo.val rfl (by simp only [MS, Nat.reduceBEq, Nat.reduceBNe, Nat.reduceEqDiff, reduceIte, if_true, if_false, reduceCtorEq, Nat.reduceAdd, Nat.reduceMul, Nat.reduceLeDiff, Nat.reduceLT, Nat.reduceDiv, Nat.reduceSub, cval, cv, TS T, f0, f1, f6, hei, ei0, hln, hRl, hlt'] <;> rfl) rfl ?_
      refine Wo.val rfl (by simp only [MS, Nat.reduceBEq, Nat.reduceBNe, Nat.reduceEqDiff, reduceIte, if_true, if_false, reduceCtorEq, Nat.reduceAdd, Nat.reduceMul, Nat.reduceLeDiff, Nat.reduceLT, Nat.reduceDiv, Nat.reduceSub, binA, arithA, strA, isC, cval, cv, TS T, f0, f1, f6, hei, ei0, hln, hRl, hlt'] <;> rfl) rfl ?_
      refine Wo.val rfl (by first | rfl | (simp only [MS, Nat.reduceBEq, Nat.reduceBNe, Nat.reduceEqDiff, reduceIte, if_true, if_false, reduceCtorEq, Nat.reduceAdd, Nat.reduceMul, Nat.reduceLeDiff, Nat.reduceLT, Nat.reduceDiv, Nat.reduceSub, TS T, f0, f1, f6, hei, ei0, hln, hRl, hlt'] <;> rfl)) rfl ?_
      refine Wo.skip (by first | rfl | (simp only [wantedA, wantedP, evR, List.contains, List.elem, MS, Nat.reduceBEq, Nat.reduceBNe, Nat.reduceEqDiff, reduceIte, if_true, if_false, reduceCtorEq, Nat.reduceAdd, Nat.reduceMul, Nat.reduceLeDiff, Nat.reduceLT, Nat.reduceDiv, Nat.reduceSub, f0, f1, f6, hei, ei0, hln, hRl, hlt'] <;> rfl)) rfl ?_
      refine Wo.skip (by first | rfl | (simp only [wantedA, wantedP, evR, List.contains, List.elem, MS, Nat.reduceBEq, Nat.reduceBNe, Nat.reduceEqDiff, reduceIte, if_true, if_false, reduceCtorEq, Nat.reduceAdd, Nat.reduceMul, Nat.reduceLeDiff, Nat.reduceLT, Nat.reduceDiv, Nat.reduceSub, f0, f1, f6, hei, ei0, hln, hRl, hlt'] <;> rfl)) rfl ?_
      refine Wo.skip (by first | rfl | (simp only [wantedA, wantedP, evR, List.contains, List.elem, MS, Nat.reduceBEq, Nat.reduceBNe, Nat.reduceEqDiff, reduceIte, if_true, if_false, reduceCtorEq, Nat.reduceAdd, Nat.reduceMul, Nat.reduceLeDiff, Nat.reduceLT, Nat.reduceDiv, Nat.reduceSub, f0, f1, f6, hei, ei0, hln, hRl, hlt'] <;> rfl)) rfl ?_
      refine Wo.skip (by first | rfl | (simp only [wantedA, wantedP, evR, List.contains, List.elem, MS, Nat.reduceBEq, Nat.reduceBNe, Nat.reduceEqDiff, reduceIte, if_true, if_false, reduceCtorEq, Nat.reduceAdd, Nat.reduceMul, Nat.reduceLeDiff, Nat.reduceLT, Nat.reduceDiv, Nat.reduceSub, f0, f1, f6, hei, ei0, hln, hRl, hlt'] <;> rfl)) rfl ?_
      refine Wo.skip (by first | rfl | (simp only [wantedA, wantedP, evR, List.contains, List.elem, MS, Nat.reduceBEq, Nat.reduceBNe, Nat.reduceEqDiff, reduceIte, if_true, if_false, reduceCtorEq, Nat.reduceAdd, Nat.reduceMul, Nat.reduceLeDiff, Nat.reduceLT, Nat.reduceDiv, Nat.reduceSub, f0, f1, f6, hei, ei0, hln, hRl, hlt'] <;> rfl)) rfl ?_
      refine Wo.skip (by first | rfl | (simp only [wantedA, wantedP, evR, List.contains, List.elem, MS, Nat.reduceBEq, Nat.reduceBNe, Nat.reduceEqDiff, reduceIte, if_true, if_false, reduceCtorEq, Nat.reduceAdd, Nat.reduceMul, Nat.reduceLeDiff, Nat.reduceLT, Nat.reduceDiv, Nat.reduceSub, f0, f1, f6, hei, ei0, hln, hRl, hlt'] <;> rfl)) rfl ?_
      refine Wo.val rfl (by first | rfl | (simp only [MS, Nat.reduceBEq, Nat.reduceBNe, Nat.reduceEqDiff, reduceIte, if_true, if_false, reduceCtorEq, Nat.reduceAdd, Nat.reduceMul, Nat.reduceLeDiff, Nat.reduceLT, Nat.reduceDiv, Nat.reduceSub, cval, cv, TS T, f0, f1, f6, hei, ei0, hln, hRl, hlt'] <;> rfl)) rfl ?_
      refine Wo.nil ?_
      refine hn6 _ ?_
      refine Wc.seq fun K7 hn7 hx7 => ?_
      refine Wc.cond (t := false) rfl (fun h => by cases h) fun _ => ?_
      refine Wc.exit (hx7 _ _ (by simp) (hxL _ _ (by simp) (done _ (.inl (by omega)))))
  refine Wc.cond (t := E.rm) rfl (fun hm => ?_) fun hm => ?_
  · obtain ⟨k, hcap, hsl⟩ := hroom hm
    refine Wc.rg ?_
    refine Wo.val rfl (by first | rfl | (simp only [MS, Nat.reduceBEq, Nat.reduceBNe, Nat.reduceEqDiff, reduceIte, if_true, if_false, reduceCtorEq, Nat.reduceAdd, Nat.reduceMul, Nat.reduceLeDiff, Nat.reduceLT, Nat.reduceDiv, Nat.reduceSub, TS T, hcap, hsl] <;> rfl)) rfl ?_
    refine Wo.val rfl (by first | rfl | (simp only [MS, Nat.reduceBEq, Nat.reduceBNe, Nat.reduceEqDiff, reduceIte, if_true, if_false, reduceCtorEq, Nat.reduceAdd, Nat.reduceMul, Nat.reduceLeDiff, Nat.reduceLT, Nat.reduceDiv, Nat.reduceSub, TS T, hcap, hsl] <;> rfl)) rfl ?_
    refine Wo.val rfl (by simp only [MS, Nat.reduceBEq, Nat.reduceBNe, Nat.reduceEqDiff, reduceIte, if_true, if_false, reduceCtorEq, Nat.reduceAdd, Nat.reduceMul, Nat.reduceLeDiff, Nat.reduceLT, Nat.reduceDiv, Nat.reduceSub, cval, cv, TS T, hcap, hsl] <;> rfl) rfl ?_
    refine Wo.val rfl (by simp only [MS, Nat.reduceBEq, Nat.reduceBNe, Nat.reduceEqDiff, reduceIte, if_true, if_false, reduceCtorEq, Nat.reduceAdd, Nat.reduceMul, Nat.reduceLeDiff, Nat.reduceLT, Nat.reduceDiv, Nat.reduceSub, bnd, bnds, TS T, hcap, hsl] <;> rfl) rfl ?_
    refine Wo.val rfl (by first | rfl | (simp only [MS, Nat.reduceBEq, Nat.reduceBNe, Nat.reduceEqDiff, reduceIte, if_true, if_false, reduceCtorEq, Nat.reduceAdd, Nat.reduceMul, Nat.reduceLeDiff, Nat.reduceLT, Nat.reduceDiv, Nat.reduceSub, cval, cv, TS T, hcap, hsl] <;> rfl)) rfl ?_
    refine Wo.nil ?_
    exact tail _ rfl rfl rfl
  · refine Wc.skip (tail _ rfl (by rw [hnoroom hm]; rfl) rfl)
theorem S.f10_ok {tb fc} (T : S.Ty tb) {call call' : Caller} {lf : Nat} (hc : ∀ args h, call' (.fn 10) args h = runF tb fc call lf Tryz.f10 args h) (hall : AllOk 3 9 call 34 32 [.int .i64]) : SeeOk 3 9 call' 10 [.sl [.int .i64]] := by
  intro G h eb eo E xb xo t P hxb hl hlen
  obtain ⟨hxlt, xty, xc, xrw, hx, hxl, hxw, hxok⟩ := P.ok.blk xb t hxb
  have hl0 := hl 0 _ rfl
  rw [Nat.add_zero] at hl0
  have hxo : xo < xc.length := by rw [hxl]; exact (List.getElem?_eq_some_iff.1 hl0).1
  have x0 : xc[xo]? = some xc[xo] := List.getElem?_eq_getElem hxo
  have hv := hxok xo _ _ hl0 x0
  suffices H : Wf tb fc call lf Tryz.f10 [.p eb eo, .p xb xo] h (fun v h' => v = .tup [] ∧ ∃ E', Post1 3 9 G t.reg h h' eb eo E E' (wides [.sl [.int .i64]]) ∧ (E.mark = false → (E'.ns, E'.ss) = flats h E.rm [.sl [.int .i64]] ((cellsOf h xb).drop xo) (E.ns, E.ss))) by
    obtain ⟨v, h', h1, rfl, E', h2, h3⟩ := H
    exact ⟨h', E', by rw [hc]; exact h1, h2, h3⟩
  refine Wf.intro (sz := 9) rfl rfl fun K hn0 hr0 => ?_
  refine Wc.rg ?_
  refine Wo.val rfl (by first | rfl | (simp only [MS, Nat.reduceBEq, Nat.reduceBNe, Nat.reduceEqDiff, reduceIte, if_true, if_false, reduceCtorEq, Nat.reduceAdd, Nat.reduceMul, Nat.reduceLeDiff, Nat.reduceLT, Nat.reduceDiv, Nat.reduceSub, TS T, hx, x0] <;> rfl)) rfl ?_
  refine Wo.val rfl (by first | rfl | (simp only [MS, Nat.reduceBEq, Nat.reduceBNe, Nat.reduceEqDiff, reduceIte, if_true, if_false, reduceCtorEq, Nat.reduceAdd, Nat.reduceMul, Nat.reduceLeDiff, Nat.reduceLT, Nat.reduceDiv, Nat.reduceSub, TS T, hx, x0] <;> rfl)) rfl ?_
  refine Wo.val rfl (by first | rfl | (simp only [MS, Nat.reduceBEq, Nat.reduceBNe, Nat.reduceEqDiff, reduceIte, if_true, if_false, reduceCtorEq, Nat.reduceAdd, Nat.reduceMul, Nat.reduceLeDiff, Nat.reduceLT, Nat.reduceDiv, Nat.reduceSub, okCheck, TS T, hx, x0] <;> rfl)) rfl ?_
  refine Wo.val rfl (by simp only [MS, Nat.reduceBEq, Nat.reduceBNe, Nat.reduceEqDiff, reduceIte, if_true, if_false, reduceCtorEq, Nat.reduceAdd, Nat.reduceMul, Nat.reduceLeDiff, Nat.reduceLT, Nat.reduceDiv, Nat.reduceSub, loadA, partV, TS T, hx, x0] <;> rfl) rfl ?_
  refine Wo.cl rfl rfl rfl (by first | rfl | (simp only [MS, Nat.reduceBEq, Nat.reduceBNe, Nat.reduceEqDiff, reduceIte, if_true, if_false, reduceCtorEq, Nat.reduceAdd, Nat.reduceMul, Nat.reduceLeDiff, Nat.reduceLT, Nat.reduceDiv, Nat.reduceSub, cval, cv, TS T, hx, x0] <;> rfl)) (by first | rfl | (simp only [MS, Nat.reduceBEq, Nat.reduceBNe, Nat.reduceEqDiff, reduceIte, if_true, if_false, reduceCtorEq, Nat.reduceAdd, Nat.reduceMul, Nat.reduceLeDiff, Nat.reduceLT, Nat.reduceDiv, Nat.reduceSub, cval, cv, TS T, hx, x0] <;> rfl)) (fun _ => rfl) ?_
  obtain ⟨h', E', hcall, hpost, hseen⟩ := hall G h eb eo E xc[xo] t.reg t.rm P hv (by simpa [wides] using hlen)
  refine ⟨_, h', hcall, Wo.nil ?_⟩
  refine hn0 _ _ [] rfl ⟨rfl, E', by simpa [wides] using hpost, fun hm => ?_⟩
  rw [hseen hm]
  have hcx : (cellsOf h xb).drop xo = xc[xo] :: (xc.drop (xo + 1)) := by
    simp only [cellsOf, hx]; rw [List.drop_eq_getElem_cons hxo]
  rw [hcx]; simp only [flats]
theorem S.f36_ok {tb fc} (T : S.Ty tb) {call call' : Caller} {lf : Nat} (hlf : 2000000000000 ≤ lf) (hc : ∀ args h, call' (.fn 36) args h = runF tb fc call lf Tryz.f36 args h) (h32 : SeeOk 3 9 call 32 [.int .i64]) : SeeOk 3 9 call' 36 [.int .i64, .int .i64] := by
  intro G h eb eo E xb xo t P hxb hl hlen
  have hxlen := (List.getElem?_eq_some_iff.1 (hl 1 _ rfl)).1
  suffices H : Wf tb fc call lf Tryz.f36 [.p eb eo, .p xb xo] h (fun v h' => v = .tup [] ∧ ∃ E', Seen2 3 9 G t h eb eo E xb xo [.int .i64, .int .i64] h' E') by
    obtain ⟨v, h', h1, rfl, E', h2⟩ := H
    exact ⟨h', E', by rw [hc]; exact h1, h2.fin⟩
  refine Wf.intro (sz := 15) rfl rfl fun K hn0 hr0 => ?_
  repeat refine Wc.assoc ?_
  have S0 := Seen2.start (xb := xb) (xo := xo) P (by omega)
  refine Wc.seq fun K1 hn1 hx1 => ?_
  refine Wc.rg ?_
  refine Wo.val rfl (by first | rfl | (simp only [MS, Nat.reduceBEq, Nat.reduceBNe, Nat.reduceEqDiff, reduceIte, if_true, if_false, reduceCtorEq, Nat.reduceAdd, Nat.reduceMul, Nat.reduceLeDiff, Nat.reduceLT, Nat.reduceDiv, Nat.reduceSub, cval, cv, TS T] <;> rfl)) rfl ?_
  refine Wo.nil ?_
  refine hn1 _ ?_
  repeat refine Wc.assoc ?_
  refine Wc.block fun K2 hb2 hx2 => ?_
  refine Wc.loop (fun k s => ∃ (i : Nat) (fr : List (Nat × V)) (hi : Hp) (Ei : EyeS), s = ⟨fr, [], hi⟩ ∧ i + k = 2 ∧ Seen2 3 9 G t h eb eo E xb xo (List.replicate i (.int .i64)) hi Ei ∧ look fr 0 = some (.p eb eo) ∧ look fr 1 = some (.p xb xo) ∧ look fr 4 = some (.i .i64 (i : Nat))) 2 (by omega) ⟨0, _, h, E, rfl, by omega, S0, rfl, rfl, rfl⟩ ?_
  rintro k _ ⟨i, fr, hi, Ei, rfl, hik, Si, f0, f1, f4⟩ KL hnL hxL
  repeat refine Wc.assoc ?_
  refine Wc.seq fun K6 hn6 hx6 => ?_
  refine Wc.rg ?_
  refine Wo.val rfl (by first | rfl | (simp only [MS, Nat.reduceBEq, Nat.reduceBNe, Nat.reduceEqDiff, reduceIte, if_true, if_false, reduceCtorEq, Nat.reduceAdd, Nat.reduceMul, Nat.reduceLeDiff, Nat.reduceLT, Nat.reduceDiv, Nat.reduceSub, TS T, f4] <;> rfl)) rfl ?_
  refine Wo.val rfl (by simp only [MS, Nat.reduceBEq, Nat.reduceBNe, Nat.reduceEqDiff, reduceIte, if_true, if_false, reduceCtorEq, Nat.reduceAdd, Nat.reduceMul, Nat.reduceLeDiff, Nat.reduceLT, Nat.reduceDiv, Nat.reduceSub, binA, arithA, strA, isC, cval, cv, TS T, f4] <;> rfl) rfl ?_
  refine Wo.nil ?_
  refine hn6 _ ?_
  refine Wc.seq fun K7 hn7 hx7 => ?_
  refine Wc.cond (t := decide ((i : Int) < (2 : Int))) rfl (fun hd => ?_) fun hd => ?_
  · refine Wc.skip (hn7 _ ?_)
    have him : i < 2 := by have := of_decide_eq_true hd; omega
    have ix : indexAddrA tb 61 (.p xb xo) (.i .i64 i) = some (.p xb (xo + i)) := by
      simp [indexAddrA, T.t61, T.t3]; omega
    have hli : ∀ j l, [(.int .i64 : Lf)][j]? = some l → t.lfs[xo + (List.replicate i (.int .i64 : Lf)).length + j]? = some l := fun j l hj => by
      match j, hj with
      | 0, hj =>
        cases hj
        rw [List.length_replicate]
        refine hl i _ ?_
        match i, him with
        | 0, _ => rfl
        | 1, _ => rfl
      | j + 1, hj => simp at hj
    have hlw : max E.ns.length 200000 + wides (List.replicate i (.int .i64 : Lf) ++ [.int .i64]) ≤ 500000000000 := by
      refine Nat.le_trans ?_ hlen
      match i, him with
      | 0, _ => simp [wides, wide1]
      | 1, _ => simp [wides, wide1]
    refine Wc.seq fun K8 hn8 hx8 => ?_
    refine Wc.block fun K9 hb9 hx9 => ?_
    refine Wc.rg ?_
    refine Wo.val rfl (by first | rfl | (simp only [MS, Nat.reduceBEq, Nat.reduceBNe, Nat.reduceEqDiff, reduceIte, if_true, if_false, reduceCtorEq, Nat.reduceAdd, Nat.reduceMul, Nat.reduceLeDiff, Nat.reduceLT, Nat.reduceDiv, Nat.reduceSub, TS T, f0, f1, f4, ix] <;> rfl)) rfl ?_
    refine Wo.val rfl (by first | rfl | (simp only [MS, Nat.reduceBEq, Nat.reduceBNe, Nat.reduceEqDiff, reduceIte, if_true, if_false, reduceCtorEq, Nat.reduceAdd, Nat.reduceMul, Nat.reduceLeDiff, Nat.reduceLT, Nat.reduceDiv, Nat.reduceSub, TS T, f0, f1, f4, ix] <;> rfl)) rfl ?_
    refine Wo.val rfl (by first | rfl | (simp only [MS, Nat.reduceBEq, Nat.reduceBNe, Nat.reduceEqDiff, reduceIte, if_true, if_false, reduceCtorEq, Nat.reduceAdd, Nat.reduceMul, Nat.reduceLeDiff, Nat.reduceLT, Nat.reduceDiv, Nat.reduceSub, TS T, f0, f1, f4, ix] <;> rfl)) rfl ?_
    refine Wo.val rfl (by first | rfl | (simp only [MS, Nat.reduceBEq, Nat.reduceBNe, Nat.reduceEqDiff, reduceIte, if_true, if_false, reduceCtorEq, Nat.reduceAdd, Nat.reduceMul, Nat.reduceLeDiff, Nat.reduceLT, Nat.reduceDiv, Nat.reduceSub, okCheck, TS T, f0, f1, f4, ix] <;> rfl)) rfl ?_
    refine Wo.val rfl (by simp only [MS, Nat.reduceBEq, Nat.reduceBNe, Nat.reduceEqDiff, reduceIte, if_true, if_false, reduceCtorEq, Nat.reduceAdd, Nat.reduceMul, Nat.reduceLeDiff, Nat.reduceLT, Nat.reduceDiv, Nat.reduceSub, cval, cv, TS T, f0, f1, f4, ix] <;> rfl) rfl ?_
    refine Wo.cl rfl rfl rfl (by first | rfl | (simp only [MS, Nat.reduceBEq, Nat.reduceBNe, Nat.reduceEqDiff, reduceIte, if_true, if_false, reduceCtorEq, Nat.reduceAdd, Nat.reduceMul, Nat.reduceLeDiff, Nat.reduceLT, Nat.reduceDiv, Nat.reduceSub, cval, cv, TS T, f0, f1, f4, ix] <;> rfl)) (by first | rfl | (simp only [MS, Nat.reduceBEq, Nat.reduceBNe, Nat.reduceEqDiff, reduceIte, if_true, if_false, reduceCtorEq, Nat.reduceAdd, Nat.reduceMul, Nat.reduceLeDiff, Nat.reduceLT, Nat.reduceDiv, Nat.reduceSub, cval, cv, TS T, f0, f1, f4, ix] <;> rfl)) (fun _ => rfl) ?_
    obtain ⟨h1, E1, hc1, S1⟩ := Si.step (xo + i) (by simp) h32 hxb hli hlw
    refine ⟨_, h1, hc1, Wo.nil ?_⟩
    refine hx9 _ _ (by simp) (hn8 _ ?_)
    have hw := w64 (n := i) (by omega)
    refine Wc.rg ?_
    refine Wo.val rfl (by first | rfl | (simp only [MS, Nat.reduceBEq, Nat.reduceBNe, Nat.reduceEqDiff, reduceIte, if_true, if_false, reduceCtorEq, Nat.reduceAdd, Nat.reduceMul, Nat.reduceLeDiff, Nat.reduceLT, Nat.reduceDiv, Nat.reduceSub, TS T, f4, hw] <;> rfl)) rfl ?_
    refine Wo.val rfl (by simp only [MS, Nat.reduceBEq, Nat.reduceBNe, Nat.reduceEqDiff, reduceIte, if_true, if_false, reduceCtorEq, Nat.reduceAdd, Nat.reduceMul, Nat.reduceLeDiff, Nat.reduceLT, Nat.reduceDiv, Nat.reduceSub, binA, arithA, strA, isC, cval, cv, TS T, f4, hw] <;> rfl) rfl ?_
    refine Wo.val rfl (by first | rfl | (simp only [MS, Nat.reduceBEq, Nat.reduceBNe, Nat.reduceEqDiff, reduceIte, if_true, if_false, reduceCtorEq, Nat.reduceAdd, Nat.reduceMul, Nat.reduceLeDiff, Nat.reduceLT, Nat.reduceDiv, Nat.reduceSub, cval, cv, TS T, f4, hw] <;> rfl)) rfl ?_
    refine Wo.nil ?_
    exact hnL _ (k - 1) (by omega) ⟨i + 1, _, h1, E1, rfl, by omega, (by rw [List.replicate_succ']; exact S1), by simp [look, f0], by simp [look, f1], rfl⟩
  · have hiN : i = 2 := by have := of_decide_eq_false hd; omega
    subst hiN
    exact Wc.exit (hx7 _ _ (by simp) (hxL _ _ (by simp) (hb2 _ (hn0 _ _ [] rfl ⟨rfl, Ei, Si⟩))))
theorem S.f35_ok {tb fc} (T : S.Ty tb) {call call' : Caller} {lf : Nat} (hlf : 2000000000000 ≤ lf) (hc : ∀ args h, call' (.fn 35) args h = runF tb fc call lf Tryz.f35 args h) {g1 : Nat} {e : List Lf} (hez : e.length = 2) (hone : SeeOk 3 9 call g1 e) : AllOk 3 9 call' 35 g1 e := by
  intro G h eb eo E v r rm P hv hlen
  have hlt := P.eye.lt
  suffices H : Wf tb fc call lf Tryz.f35 [.p eb eo, v, .f (.func g1) [] []] h (fun w h' => w = .tup [] ∧ ∃ E', Post1 3 9 G r h h' eb eo E E' (wide1 (.sl e)) ∧ (E.mark = false → (E'.ns, E'.ss) = flat1 h E.rm (.sl e) v (E.ns, E.ss))) by
    obtain ⟨v, h', h1, rfl, E', h2, h3⟩ := H
    exact ⟨h', E', by rw [hc]; exact h1, h2, h3⟩
  obtain ⟨n, hvn, v', m, F, hroom, hnoroom, R, hflat⟩ := rows_of (room := E.rm) ⟨⟨_, _, _, T.t25, rfl, T.t61, hez.symm⟩, by omega⟩ P.ok hv P.rm
  obtain ⟨ty, cs, he, e0, e1, e2, e3, e4⟩ := P.eye.blk
  have hbs := fun h => buildSlice_one T.n h (v := .i .i64 n) rfl
  obtain ⟨nv, h2, ha, hcl, hon, hn2, ho2, hP⟩ := push_num T.n P (n : Int) (by simp [wide1] at hlen; omega)
  obtain ⟨hge, hel1, _, S1, hgs⟩ := hP ty cs he
  have P1 := P.next S1
  refine Wf.intro (sz := 46) rfl rfl fun K hn0 hr0 => ?_
  repeat refine Wc.assoc ?_
  refine Wc.seq fun K1 hn1 hx1 => ?_
  refine Wc.rg ?_
  refine Wo.val rfl (by first | rfl | (simp only [MS, Nat.reduceBEq, Nat.reduceBNe, Nat.reduceEqDiff, reduceIte, if_true, if_false, reduceCtorEq, Nat.reduceAdd, Nat.reduceMul, Nat.reduceLeDiff, Nat.reduceLT, Nat.reduceDiv, Nat.reduceSub, TS T, he, e0, e4, hvn, hbs, ha, hge, hcl, hon, hel1, and_self, true_and] <;> rfl)) rfl ?_
  refine Wo.val rfl (by first | rfl | (simp only [MS, Nat.reduceBEq, Nat.reduceBNe, Nat.reduceEqDiff, reduceIte, if_true, if_false, reduceCtorEq, Nat.reduceAdd, Nat.reduceMul, Nat.reduceLeDiff, Nat.reduceLT, Nat.reduceDiv, Nat.reduceSub, TS T, he, e0, e4, hvn, hbs, ha, hge, hcl, hon, hel1, and_self, true_and] <;> rfl)) rfl ?_
  refine Wo.val rfl (by first | rfl | (simp only [MS, Nat.reduceBEq, Nat.reduceBNe, Nat.reduceEqDiff, reduceIte, if_true, if_false, reduceCtorEq, Nat.reduceAdd, Nat.reduceMul, Nat.reduceLeDiff, Nat.reduceLT, Nat.reduceDiv, Nat.reduceSub, okCheck, TS T, he, e0, e4, hvn, hbs, ha, hge, hcl, hon, hel1, and_self, true_and] <;> rfl)) rfl ?_
  refine Wo.val rfl (by simp only [MS, Nat.reduceBEq, Nat.reduceBNe, Nat.reduceEqDiff, reduceIte, if_true, if_false, reduceCtorEq, Nat.reduceAdd, Nat.reduceMul, Nat.reduceLeDiff, Nat.reduceLT, Nat.reduceDiv, Nat.reduceSub, TS T, he, e0, e4, hvn, hbs, ha, hge, hcl, hon, hel1, and_self, true_and] <;> rfl) rfl ?_
  refine Wo.val rfl (by simp only [MS, Nat.reduceBEq, Nat.reduceBNe, Nat.reduceEqDiff, reduceIte, if_true, if_false, reduceCtorEq, Nat.reduceAdd, Nat.reduceMul, Nat.reduceLeDiff, Nat.reduceLT, Nat.reduceDiv, Nat.reduceSub, loadA, partV, TS T, he, e0, e4, hvn, hbs, ha, hge, hcl, hon, hel1, and_self, true_and] <;> rfl) rfl ?_
  refine Wo.val rfl (by first | rfl | (simp only [MS, Nat.reduceBEq, Nat.reduceBNe, Nat.reduceEqDiff, reduceIte, if_true, if_false, reduceCtorEq, Nat.reduceAdd, Nat.reduceMul, Nat.reduceLeDiff, Nat.reduceLT, Nat.reduceDiv, Nat.reduceSub, TS T, he, e0, e4, hvn, hbs, ha, hge, hcl, hon, hel1, and_self, true_and] <;> rfl)) rfl ?_
  refine Wo.val rfl (by simp only [MS, Nat.reduceBEq, Nat.reduceBNe, Nat.reduceEqDiff, reduceIte, if_true, if_false, reduceCtorEq, Nat.reduceAdd, Nat.reduceMul, Nat.reduceLeDiff, Nat.reduceLT, Nat.reduceDiv, Nat.reduceSub, cval, cv, TS T, he, e0, e4, hvn, hbs, ha, hge, hcl, hon, hel1, and_self, true_and] <;> rfl) rfl ?_
  refine Wo.val rfl (by simp only [MS, Nat.reduceBEq, Nat.reduceBNe, Nat.reduceEqDiff, reduceIte, if_true, if_false, reduceCtorEq, Nat.reduceAdd, Nat.reduceMul, Nat.reduceLeDiff, Nat.reduceLT, Nat.reduceDiv, Nat.reduceSub, partsA, cval, cv, TS T, he, e0, e4, hvn, hbs, ha, hge, hcl, hon, hel1, and_self, true_and] <;> rfl) rfl ?_
  refine Wo.val rfl (by simp only [MS, Nat.reduceBEq, Nat.reduceBNe, Nat.reduceEqDiff, reduceIte, if_true, if_false, reduceCtorEq, Nat.reduceAdd, Nat.reduceMul, Nat.reduceLeDiff, Nat.reduceLT, Nat.reduceDiv, Nat.reduceSub, cval, cv, TS T, he, e0, e4, hvn, hbs, ha, hge, hcl, hon, hel1, and_self, true_and] <;> rfl) rfl ?_
  refine Wo.val rfl (by first | rfl | (simp only [MS, Nat.reduceBEq, Nat.reduceBNe, Nat.reduceEqDiff, reduceIte, if_true, if_false, reduceCtorEq, Nat.reduceAdd, Nat.reduceMul, Nat.reduceLeDiff, Nat.reduceLT, Nat.reduceDiv, Nat.reduceSub, okCheck, TS T, he, e0, e4, hvn, hbs, ha, hge, hcl, hon, hel1, and_self, true_and] <;> rfl)) rfl ?_
  refine Wo.val rfl (by simp only [MS, Nat.reduceBEq, Nat.reduceBNe, Nat.reduceEqDiff, reduceIte, if_true, if_false, reduceCtorEq, Nat.reduceAdd, Nat.reduceMul, Nat.reduceLeDiff, Nat.reduceLT, Nat.reduceDiv, Nat.reduceSub, TS T, he, e0, e4, hvn, hbs, ha, hge, hcl, hon, hel1, and_self, true_and] <;> rfl) rfl ?_
  refine Wo.val rfl (by simp only [MS, Nat.reduceBEq, Nat.reduceBNe, Nat.reduceEqDiff, reduceIte, if_true, if_false, reduceCtorEq, Nat.reduceAdd, Nat.reduceMul, Nat.reduceLeDiff, Nat.reduceLT, Nat.reduceDiv, Nat.reduceSub, storeA, setAll, TI.zero, cval, cv, TS T, he, e0, e4, hvn, hbs, ha, hge, hcl, hon, hel1, and_self, true_and] <;> rfl) rfl ?_
  refine Wo.nil ?_
  refine hn1 _ ?_
  repeat refine Wc.assoc ?_
  refine Wc.seq fun K2 hn2 hx2 => ?_
  generalize h2.set eb (Ob.blk ty (cs.set eo nv) true) = h1 at hgs S1 P1 ⊢
  obtain ⟨ty1, cs1, he1, e10, e11, e12, e13, e14⟩ := P1.eye.blk
  simp only at e10 e11 e12 e13 e14
  refine Wc.rg ?_
  refine Wo.val rfl (by first | rfl | (simp only [MS, Nat.reduceBEq, Nat.reduceBNe, Nat.reduceEqDiff, reduceIte, if_true, if_false, reduceCtorEq, Nat.reduceAdd, Nat.reduceMul, Nat.reduceLeDiff, Nat.reduceLT, Nat.reduceDiv, Nat.reduceSub, TS T, he1, e14] <;> rfl)) rfl ?_
  refine Wo.val rfl (by first | rfl | (simp only [MS, Nat.reduceBEq, Nat.reduceBNe, Nat.reduceEqDiff, reduceIte, if_true, if_false, reduceCtorEq, Nat.reduceAdd, Nat.reduceMul, Nat.reduceLeDiff, Nat.reduceLT, Nat.reduceDiv, Nat.reduceSub, okCheck, TS T, he1, e14] <;> rfl)) rfl ?_
  refine Wo.val rfl (by simp only [MS, Nat.reduceBEq, Nat.reduceBNe, Nat.reduceEqDiff, reduceIte, if_true, if_false, reduceCtorEq, Nat.reduceAdd, Nat.reduceMul, Nat.reduceLeDiff, Nat.reduceLT, Nat.reduceDiv, Nat.reduceSub, TS T, he1, e14] <;> rfl) rfl ?_
  refine Wo.val rfl (by simp only [MS, Nat.reduceBEq, Nat.reduceBNe, Nat.reduceEqDiff, reduceIte, if_true, if_false, reduceCtorEq, Nat.reduceAdd, Nat.reduceMul, Nat.reduceLeDiff, Nat.reduceLT, Nat.reduceDiv, Nat.reduceSub, loadA, partV, TS T, he1, e14] <;> rfl) rfl ?_
  refine Wo.nil ?_
  refine hn2 _ ?_
  repeat refine Wc.assoc ?_
  refine Wc.seq fun K3 hn3 hx3 => ?_
  have tail : ∀ fr, look fr 0 = some (.p eb eo) → look fr 1 = some v' → look fr 2 = some (.f (.func g1) [] []) → K3 .normal ⟨fr, [], h1⟩ := by
    intro fr f0 f1 f2
    refine hn3 _ ?_
    refine Wc.seq fun K4 hn4 hx4 => ?_
    refine Wc.rg ?_
    refine Wo.val rfl (by first | rfl | (simp only [MS, Nat.reduceBEq, Nat.reduceBNe, Nat.reduceEqDiff, reduceIte, if_true, if_false, reduceCtorEq, Nat.reduceAdd, Nat.reduceMul, Nat.reduceLeDiff, Nat.reduceLT, Nat.reduceDiv, Nat.reduceSub, cval, cv, TS T, f0] <;> rfl)) rfl ?_
    refine Wo.nil ?_
    refine hn4 _ ?_
    refine Wc.block fun K5 hb5 hx5 => ?_
    refine Wc.loop (fun k s => ∃ i fr hi Ei, s = ⟨fr, [], hi⟩ ∧ i + k = m ∧ look fr 0 = some (.p eb eo) ∧ look fr 1 = some v' ∧ look fr 2 = some (.f (.func g1) [] []) ∧ look fr 6 = some (.i .i64 (i : Nat)) ∧
      Post1 3 9 G r h hi eb eo E Ei (1 + wides e) ∧ Pre 3 9 G r rm hi eb eo Ei ∧ (E.mark = false → (∀ b t, G b = some t → hi.get b = h.get b) ∧ flat1 h E.rm (.sl e) v (E.ns, E.ss) = sweep F k i (Ei.ns, Ei.ss))) m (by have := R.small; omega) ⟨0, _, h1, _, rfl, by omega, by simp [look, f0], by simp [look, f1], by simp [look, f2], rfl, ⟨S1.saw, S1.ok, by have := S1.len; omega⟩, P1, fun hm => ⟨hgs, hflat _⟩⟩ ?_
    rintro k _ ⟨i, fr, hi, Ei, rfl, hik, f0, f1, f2, f6, Si, Pi, hfl⟩ KL hnL hxL
    obtain ⟨tyi, csi, hei, ei0, ei1, ei2, ei3, ei4⟩ := Pi.eye.blk
    have hln : bltA tb .len #[24] [Ei.nv] = some (.i .i64 Ei.ns.length) := by
      rcases Pi.eye.n with ⟨hq, hq2⟩ | ⟨b, ty, hq, _⟩
      · rw [hq]; have : Ei.ns = [] := by simpa using hq2
        simp [bltA, T.t24, this]
      · rw [hq]; simp [bltA, T.t24]
    have hRl := R.len
    repeat refine Wc.assoc ?_
    refine Wc.seq fun K6 hn6 hx6 => ?_
    have done : ∀ fr, (k = 0 ∨ ¬ Ei.ns.length < 200000) → K5 (.exit 0) ⟨fr, [], hi⟩ := by
      intro fr hk
      refine hb5 _ (hn0 _ _ [] rfl ⟨rfl, Ei, Si, fun hm => ?_⟩)
      rw [(hfl hm).2]
      rcases hk with rfl | hk
      · rfl
      · cases k with
        | zero => rfl
        | succ k => simp [sweep, hk]
    by_cases hlt : i < m
    · have hlt' : (i : Int) < (m : Int) := by omega
      refine Wc.rg ?_
      refine Wo.val rfl (by first | rfl | (simp only [MS, Nat.reduceBEq, Nat.reduceBNe, Nat.reduceEqDiff, reduceIte, if_true, if_false, reduceCtorEq, Nat.reduceAdd, Nat.reduceMul, Nat.reduceLeDiff, Nat.reduceLT, Nat.reduceDiv, Nat.reduceSub, TS T, f0, f1, f6, hei, ei0, hln, hRl, hlt'] <;> rfl)) rfl ?_
      refine Wo.val rfl (by first | rfl | (simp only [MS, Nat.reduceBEq, Nat.reduceBNe, Nat.reduceEqDiff, reduceIte, if_true, if_false, reduceCtorEq, Nat.reduceAdd, Nat.reduceMul, Nat.reduceLeDiff, Nat.reduceLT, Nat.reduceDiv, Nat.reduceSub, TS T, f0, f1, f6, hei, ei0, hln, hRl, hlt'] <;> rfl)) rfl ?_
      refine Wo.val rfl (by simp only [MS, Nat.reduceBEq, Nat.reduceBNe, Nat.reduceEqDiff, reduceIte, if_true, if_false, reduceCtorEq, Nat.reduceAdd, Nat.reduceMul, Nat.reduceLeDiff, Nat.reduceLT, Nat.reduceDiv, Nat.reduceSub, cval, cv, TS T, f0, f1, f6, hei, ei0, hln, hRl, hlt'] <;> rfl) rfl ?_
      refine Wo.val rfl (by simp only [MS, Nat.reduceBEq, Nat.reduceBNe, Nat.reduceEqDiff, reduceIte, if_true, if_false, reduceCtorEq, Nat.reduceAdd, Nat.reduceMul, Nat.reduceLeDiff, Nat.reduceLT, Nat.reduceDiv, Nat.reduceSub, binA, arithA, strA, isC, cval, cv, TS T, f0, f1, f6, hei, ei0, hln, hRl, hlt'] <;> rfl) rfl ?_
      refine Wo.val rfl (by first | rfl | (simp only [MS, Nat.reduceBEq, Nat.reduceBNe, Nat.reduceEqDiff, reduceIte, if_true, if_false, reduceCtorEq, Nat.reduceAdd, Nat.reduceMul, Nat.reduceLeDiff, Nat.reduceLT, Nat.reduceDiv, Nat.reduceSub, TS T, f0, f1, f6, hei, ei0, hln, hRl, hlt'] <;> rfl)) rfl ?_
      refine Wo.val (by first | rfl | (simp only [wantedA, wantedP, evR, List.contains, List.elem, MS, Nat.reduceBEq, Nat.reduceBNe, Nat.reduceEqDiff, reduceIte, if_true, if_false, reduceCtorEq, Nat.reduceAdd, Nat.reduceMul, Nat.reduceLeDiff, Nat.reduceLT, Nat.reduceDiv, Nat.reduceSub, f0, f1, f6, hei, ei0, hln, hRl, hlt'] <;> rfl)) (by first | rfl | (simp only [MS, Nat.reduceBEq, Nat.reduceBNe, Nat.reduceEqDiff, reduceIte, if_true, if_false, reduceCtorEq, Nat.reduceAdd, Nat.reduceMul, Nat.reduceLeDiff, Nat.reduceLT, Nat.reduceDiv, Nat.reduceSub, TS T, f0, f1, f6, hei, ei0, hln, hRl, hlt'] <;> rfl)) rfl ?_
      refine Wo.val (by first | rfl | (simp only [wantedA, wantedP, evR, List.contains, List.elem, MS, Nat.reduceBEq, Nat.reduceBNe, Nat.reduceEqDiff, reduceIte, if_true, if_false, reduceCtorEq, Nat.reduceAdd, Nat.reduceMul, Nat.reduceLeDiff, Nat.reduceLT, Nat.reduceDiv, Nat.reduceSub, f0, f1, f6, hei, ei0, hln, hRl, hlt'] <;> rfl)) (by first | rfl | (simp only [MS, Nat.reduceBEq, Nat.reduceBNe, Nat.reduceEqDiff, reduceIte, if_true, if_false, reduceCtorEq, Nat.reduceAdd, Nat.reduceMul, Nat.reduceLeDiff, Nat.reduceLT, Nat.reduceDiv, Nat.reduceSub, okCheck, TS T, f0, f1, f6, hei, ei0, hln, hRl, hlt'] <;> rfl)) rfl ?_
      refine Wo.val (by first | rfl | (simp only [wantedA, wantedP, evR, List.contains, List.elem, MS, Nat.reduceBEq, Nat.reduceBNe, Nat.reduceEqDiff, reduceIte, if_true, if_false, reduceCtorEq, Nat.reduceAdd, Nat.reduceMul, Nat.reduceLeDiff, Nat.reduceLT, Nat.reduceDiv, Nat.reduceSub, f0, f1, f6, hei, ei0, hln, hRl, hlt'] <;> rfl)) (by simp only [MS, Nat.reduceBEq, Nat.reduceBNe, Nat.reduceEqDiff, reduceIte, if_true, if_false, reduceCtorEq, Nat.reduceAdd, Nat.reduceMul, Nat.reduceLeDiff, Nat.reduceLT, Nat.reduceDiv, Nat.reduceSub, TS T, f0, f1, f6, hei, ei0, hln, hRl, hlt'] <;> rfl) rfl ?_
      refine Wo.val (by first | rfl | (simp only [wantedA, wantedP, evR, List.contains, List.elem, MS, Nat.reduceBEq, Nat.reduceBNe, Nat.reduceEqDiff, reduceIte, if_true, if_false, reduceCtorEq, Nat.reduceAdd, Nat.reduceMul, Nat.reduceLeDiff, Nat.reduceLT, Nat.reduceDiv, Nat.reduceSub, f0, f1, f6, hei, ei0, hln, hRl, hlt'] <;> rfl)) (by simp only [MS, Nat.reduceBEq, Nat.reduceBNe, Nat.reduceEqDiff, reduceIte, if_true, if_false, reduceCtorEq, Nat.reduceAdd, Nat.reduceMul, Nat.reduceLeDiff, Nat.reduceLT, Nat.reduceDiv, Nat.reduceSub, loadA, partV, TS T, f0, f1, f6, hei, ei0, hln, hRl, hlt'] <;> rfl) rfl ?_
      refine Wo.val (by first | rfl | (simp only [wantedA, wantedP, evR, List.contains, List.elem, MS, Nat.reduceBEq, Nat.reduceBNe, Nat.reduceEqDiff, reduceIte, if_true, if_false, reduceCtorEq, Nat.reduceAdd, Nat.reduceMul, Nat.reduceLeDiff, Nat.reduceLT, Nat.reduceDiv, Nat.reduceSub, f0, f1, f6, hei, ei0, hln, hRl, hlt'] <;> rfl)) (by simp only [MS, Nat.reduceBEq, Nat.reduceBNe, Nat.reduceEqDiff, reduceIte, if_true, if_false, reduceCtorEq, Nat.reduceAdd, Nat.reduceMul, Nat.reduceLeDiff, Nat.reduceLT, Nat.reduceDiv, Nat.reduceSub, cval, cv, TS T, f0, f1, f6, hei, ei0, hln, hRl, hlt'] <;> rfl) rfl ?_
      refine Wo.val (by first | rfl | (simp only [wantedA, wantedP, evR, List.contains, List.elem, MS, Nat.reduceBEq, Nat.reduceBNe, Nat.reduceEqDiff, reduceIte, if_true, if_false, reduceCtorEq, Nat.reduceAdd, Nat.reduceMul, Nat.reduceLeDiff, Nat.reduceLT, Nat.reduceDiv, Nat.reduceSub, f0, f1, f6, hei, ei0, hln, hRl, hlt'] <;> rfl)) (by simp only [MS, Nat.reduceBEq, Nat.reduceBNe, Nat.reduceEqDiff, reduceIte, if_true, if_false, reduceCtorEq, Nat.reduceAdd, Nat.reduceMul, Nat.reduceLeDiff, Nat.reduceLT, Nat.reduceDiv, Nat.reduceSub, binA, arithA, strA, isC, cval, cv, TS T, f0, f1, f6, hei, ei0, hln, hRl, hlt'] <;> rfl) rfl ?_
      refine Wo.val rfl (by first | rfl | (simp only [MS, Nat.reduceBEq, Nat.reduceBNe, Nat.reduceEqDiff, reduceIte, if_true, if_false, reduceCtorEq, Nat.reduceAdd, Nat.reduceMul, Nat.reduceLeDiff, Nat.reduceLT, Nat.reduceDiv, Nat.reduceSub, cval, cv, TS T, f0, f1, f6, hei, ei0, hln, hRl, hlt'] <;> rfl)) rfl ?_
      refine Wo.nil ?_
      refine hn6 _ ?_
      refine Wc.seq fun K7 hn7 hx7 => ?_
      refine Wc.cond (t := decide ((Ei.ns.length : Int) < 200000)) rfl (fun hd => ?_) fun hd => ?_
      · refine Wc.skip (hn7 _ ?_)
        have hd' : Ei.ns.length < 200000 := by have := of_decide_eq_true hd; omega
        refine Wc.seq fun K8 hn8 hx8 => ?_
        refine Wc.block fun K9 hb9 hx9 => ?_
        obtain ⟨b, o, t, hia, hGb, hreg, hrm, hsub, hF⟩ := R.row i hlt
        refine Wc.rg ?_
        refine Wo.val rfl (by first | rfl | (simp only [MS, Nat.reduceBEq, Nat.reduceBNe, Nat.reduceEqDiff, reduceIte, if_true, if_false, reduceCtorEq, Nat.reduceAdd, Nat.reduceMul, Nat.reduceLeDiff, Nat.reduceLT, Nat.reduceDiv, Nat.reduceSub, TS T, f0, f1, f2, f6, hia] <;> rfl)) rfl ?_
        refine Wo.val rfl (by first | rfl | (simp only [MS, Nat.reduceBEq, Nat.reduceBNe, Nat.reduceEqDiff, reduceIte, if_true, if_false, reduceCtorEq, Nat.reduceAdd, Nat.reduceMul, Nat.reduceLeDiff, Nat.reduceLT, Nat.reduceDiv, Nat.reduceSub, TS T, f0, f1, f2, f6, hia] <;> rfl)) rfl ?_
        refine Wo.val rfl (by first | rfl | (simp only [MS, Nat.reduceBEq, Nat.reduceBNe, Nat.reduceEqDiff, reduceIte, if_true, if_false, reduceCtorEq, Nat.reduceAdd, Nat.reduceMul, Nat.reduceLeDiff, Nat.reduceLT, Nat.reduceDiv, Nat.reduceSub, TS T, f0, f1, f2, f6, hia] <;> rfl)) rfl ?_
        refine Wo.val rfl (by first | rfl | (simp only [MS, Nat.reduceBEq, Nat.reduceBNe, Nat.reduceEqDiff, reduceIte, if_true, if_false, reduceCtorEq, Nat.reduceAdd, Nat.reduceMul, Nat.reduceLeDiff, Nat.reduceLT, Nat.reduceDiv, Nat.reduceSub, TS T, f0, f1, f2, f6, hia] <;> rfl)) rfl ?_
        refine Wo.val rfl (by simp only [MS, Nat.reduceBEq, Nat.reduceBNe, Nat.reduceEqDiff, reduceIte, if_true, if_false, reduceCtorEq, Nat.reduceAdd, Nat.reduceMul, Nat.reduceLeDiff, Nat.reduceLT, Nat.reduceDiv, Nat.reduceSub, cval, cv, TS T, f0, f1, f2, f6, hia] <;> rfl) rfl ?_
        refine Wo.cl rfl rfl rfl (by first | rfl | (simp only [MS, Nat.reduceBEq, Nat.reduceBNe, Nat.reduceEqDiff, reduceIte, if_true, if_false, reduceCtorEq, Nat.reduceAdd, Nat.reduceMul, Nat.reduceLeDiff, Nat.reduceLT, Nat.reduceDiv, Nat.reduceSub, cval, cv, TS T, f0, f1, f2, f6, hia] <;> rfl)) (by first | rfl | (simp only [MS, Nat.reduceBEq, Nat.reduceBNe, Nat.reduceEqDiff, reduceIte, if_true, if_false, reduceCtorEq, Nat.reduceAdd, Nat.reduceMul, Nat.reduceLeDiff, Nat.reduceLT, Nat.reduceDiv, Nat.reduceSub, cval, cv, TS T, f0, f1, f2, f6, hia] <;> rfl)) (fun _ => rfl) ?_
        obtain ⟨h', E', hcall, hpost, hseen⟩ := hone G hi eb eo Ei b o t (by rw [hreg, hrm]; exact Pi) hGb hsub (by simp [wide1] at hlen; omega)
        rw [hreg] at hpost
        refine ⟨_, h', hcall, ?_⟩
        refine Wo.nil ?_
        refine hx9 _ _ (by simp) (hn8 _ ?_)
        have hw : IntKind.i64.wrap ((i : Int) + 1) = ((i + 1 : Nat) : Int) := by
          have := R.small
          rw [wrap_i64] <;> omega
        refine Wc.rg ?_
        refine Wo.val rfl (by first | rfl | (simp only [MS, Nat.reduceBEq, Nat.reduceBNe, Nat.reduceEqDiff, reduceIte, if_true, if_false, reduceCtorEq, Nat.reduceAdd, Nat.reduceMul, Nat.reduceLeDiff, Nat.reduceLT, Nat.reduceDiv, Nat.reduceSub, TS T, f0, f1, f2, f6, hw] <;> rfl)) rfl ?_
        refine Wo.val rfl (by simp only [MS, Nat.reduceBEq, Nat.reduceBNe, Nat.reduceEqDiff, reduceIte, if_true, if_false, reduceCtorEq, Nat.reduceAdd, Nat.reduceMul, Nat.reduceLeDiff, Nat.reduceLT, Nat.reduceDiv, Nat.reduceSub, binA, arithA, strA, isC, cval, cv, TS T, f0, f1, f2, f6, hw] <;> rfl) rfl ?_
        refine Wo.val rfl (by first | rfl | (simp only [MS, Nat.reduceBEq, Nat.reduceBNe, Nat.reduceEqDiff, reduceIte, if_true, if_false, reduceCtorEq, Nat.reduceAdd, Nat.reduceMul, Nat.reduceLeDiff, Nat.reduceLT, Nat.reduceDiv, Nat.reduceSub, cval, cv, TS T, f0, f1, f2, f6, hw] <;> rfl)) rfl ?_
        refine Wo.nil ?_
        refine hnL _ (k - 1) (by omega) ⟨i + 1, _, h', E', rfl, by omega, by simp [look, f0], by simp [look, f1], by simp [look, f2], by simp [look], ⟨Si.saw.trans P.eye.lt hpost.saw, hpost.ok, by have := hpost.len; have := Si.len; omega⟩, Pi.next hpost, fun hm => ?_⟩
        have hmi : Ei.mark = false := by rw [Si.saw.mark]; exact hm
        obtain ⟨hg1, hf1⟩ := hfl hm
        have hg2 : ∀ b t, G b = some t → h'.get b = hi.get b := fun b t hb => Saw.gsame Pi hpost.saw hb (.inl hmi)
        refine ⟨fun b t hb => (hg2 b t hb).trans (hg1 b t hb), ?_⟩
        rw [hf1]
        obtain ⟨k, rfl⟩ : ∃ k', k = k' + 1 := ⟨k - 1, by omega⟩
        simp only [sweep, hd', if_true, Nat.add_sub_cancel]
        rw [hseen hmi, hF]
        have hrmi : Ei.rm = E.rm := Si.saw.rm
        rw [hrmi]
        have hch : cellsOf hi b = cellsOf h b := by simp only [cellsOf, hg1 b t hGb]
        rw [hch, flats_local (r := r) (rm := rm) P.ok (fun b t' hb _ => hg1 b t' hb) P.rm e ((cellsOf h b).drop o) (Ei.ns, Ei.ss) (fun j l v hl hv => by
          rw [List.getElem?_drop] at hv
          have := (P.ok.cells hGb).2 _ l v (hsub j l hl) hv
          rw [hreg, hrm] at this; exact this)]
      · refine Wc.exit (hx7 _ _ (by simp) (hxL _ _ (by simp) (done _ (.inr (by have := of_decide_eq_false hd; omega)))))
    · have hlt' : ¬ (i : Int) < (m : Int) := by omega
      refine Wc.rg ?_
      refine Wo.val rfl (by first | rfl | (simp only [MS, Nat.reduceBEq, Nat.reduceBNe, Nat.reduceEqDiff, reduceIte, if_true, if_false, reduceCtorEq, Nat.reduceAdd, Nat.reduceMul, Nat.reduceLeDiff, Nat.reduceLT, Nat.reduceDiv, Nat.reduceSub, TS T, f0, f1, f6, hei, ei0, hln, hRl, hlt'] <;> rfl)) rfl ?_
      refine Wo.val rfl (by first | rfl | (simp only [MS, Nat.reduceBEq, Nat.reduceBNe, Nat.reduceEqDiff, reduceIte, if_true, if_false, reduceCtorEq, Nat.reduceAdd, Nat.reduceMul, Nat.reduceLeDiff, Nat.reduceLT, Nat.reduceDiv, Nat.reduceSub, TS T, f0, f1, f6, hei, ei0, hln, hRl, hlt'] <;> rfl)) rfl ?_
      refine Wo.val rfl (by simp only [MS, Nat.reduceBEq, Nat.reduceBNe, Nat.reduceEqDiff, reduceIte, if_true, if_false, reduceCtorEq, Nat.reduceAdd, Nat.reduceMul, Nat.reduceLeDiff, Nat.reduceLT, Nat.reduceDiv, Nat.reduceSub, cval, cv, TS T, f0, f1, f6, hei, ei0, hln, hRl, hlt'] <;> rfl) rfl ?_
      refine Wo.val rfl (by simp only [MS, Nat.reduceBEq, Nat.reduceBNe, Nat.reduceEqDiff, reduceIte, if_true, if_false, reduceCtorEq, Nat.reduceAdd, Nat.reduceMul, Nat.reduceLeDiff, Nat.reduceLT, Nat.reduceDiv, Nat.reduceSub, binA, arithA, strA, isC, cval, cv, TS T, f0, f1, f6, hei, ei0, hln, hRl, hlt'] <;> rfl) rfl ?_
      refine Wo.val rfl (by first | rfl | (simp only [MS, Nat.reduceBEq, Nat.reduceBNe, Nat.reduceEqDiff, reduceIte, if_true, if_false, reduceCtorEq, Nat.reduceAdd, Nat.reduceMul, Nat.reduceLeDiff, Nat.reduceLT, Nat.reduceDiv, Nat.reduceSub, TS T, f0, f1, f6, hei, ei0, hln, hRl, hlt'] <;> rfl)) rfl ?_
      refine Wo.skip (by first | rfl | (simp only [wantedA, wantedP, evR, List.contains, List.elem, MS, Nat.reduceBEq, Nat.reduceBNe, Nat.reduceEqDiff, reduceIte, if_true, if_false, reduceCtorEq, Nat.reduceAdd, Nat.reduceMul, Nat.reduceLeDiff, Nat.reduceLT, Nat.reduceDiv, Nat.reduceSub, f0, f1, f6, hei, ei0, hln, hRl, hlt'] <;> rfl)) rfl ?_
      refine Wo.skip (by first | rfl | (simp only [wantedA, wantedP, evR, List.contains, List.elem, MS, Nat.reduceBEq, Nat.reduceBNe, Nat.reduceEqDiff, reduceIte, if_true, if_false, reduceCtorEq, Nat.reduceAdd, Nat.reduceMul, Nat.reduceLeDiff, Nat.reduceLT, Nat.reduceDiv, Nat.reduceSub, f0, f1, f6, hei, ei0, hln, hRl, hlt'] <;> rfl)) rfl ?_
      refine Wo.skip (by first | rfl | (simp only [wantedA, wantedP, evR, List.contains, List.elem, MS, Nat.reduceBEq, Nat.reduceBNe, Nat.reduceEqDiff, reduceIte, if_true, if_false, reduceCtorEq, Nat.reduceAdd, Nat.reduceMul, Nat.reduceLeDiff, Nat.reduceLT, Nat.reduceDiv, Nat.reduceSub, f0, f1, f6, hei, ei0, hln, hRl, hlt'] <;> rfl)) rfl ?_
      refine Wo.skip (by first | rfl | (simp only [wantedA, wantedP, evR, List.contains, List.elem, MS, Nat.reduceBEq, Nat.reduceBNe, Nat.reduceEqDiff, reduceIte, if_true, if_false, reduceCtorEq, Nat.reduceAdd, Nat.reduceMul, Nat.reduceLeDiff, Nat.reduceLT, Nat.reduceDiv, Nat.reduceSub, f0, f1, f6, hei, ei0, hln, hRl, hlt'] <;> rfl)) rfl ?_
      refine Wo.skip (by first | rfl | (simp only [wantedA, wantedP, evR, List.contains, List.elem, MS, Nat.reduceBEq, Nat.reduceBNe, Nat.reduceEqDiff, reduceIte, if_true, if_false, reduceCtorEq, Nat.reduceAdd, Nat.reduceMul, Nat.reduceLeDiff, Nat.reduceLT, Nat.reduceDiv, Nat.reduceSub, f0, f1, f6, hei, ei0, hln, hRl, hlt'] <;> rfl)) rfl ?_
      refine Wo.skip (by first | rfl | (simp only [wantedA, wantedP, evR, List.contains, List.elem, MS, Nat.reduceBEq, Nat.reduceBNe, Nat.reduceEqDiff, reduceIte, if_true, if_false, reduceCtorEq, Nat.reduceAdd, Nat.reduceMul, Nat.reduceLeDiff, Nat.reduceLT, Nat.reduceDiv, Nat.reduceSub, f0, f1, f6, hei, ei0, hln, hRl, hlt'] <;> rfl)) rfl ?_
      refine Wo.val rfl (by first | rfl | (simp only [MS, Nat.reduceBEq, Nat.reduceBNe, Nat.reduceEqDiff, reduceIte, if_true, if_false, reduceCtorEq, Nat.reduceAdd, Nat.reduceMul, Nat.reduceLeDiff, Nat.reduceLT, Nat.reduceDiv, Nat.reduceSub, cval, cv, TS T, f0, f1, f6, hei, ei0, hln, hRl, hlt'] <;> rfl)) rfl ?_
      refine Wo.nil ?_
      refine hn6 _ ?_
      refine Wc.seq fun K7 hn7 hx7 => ?_
      refine Wc.cond (t := false) rfl (fun h => by cases h) fun _ => ?_
      refine Wc.exit (hx7 _ _ (by simp) (hxL _ _ (by simp) (done _ (.inl (by omega)))))
  refine Wc.cond (t := E.rm) rfl (fun hm => ?_) fun hm => ?_
  · obtain ⟨k, hcap, hsl⟩ := hroom hm
    refine Wc.rg ?_
    refine Wo.val rfl (by first | rfl | (simp only [MS, Nat.reduceBEq, Nat.reduceBNe, Nat.reduceEqDiff, reduceIte, if_true, if_false, reduceCtorEq, Nat.reduceAdd, Nat.reduceMul, Nat.reduceLeDiff, Nat.reduceLT, Nat.reduceDiv, Nat.reduceSub, TS T, hcap, hsl] <;> rfl)) rfl ?_
    refine Wo.val rfl (by first | rfl | (simp only [MS, Nat.reduceBEq, Nat.reduceBNe, Nat.reduceEqDiff, reduceIte, if_true, if_false, reduceCtorEq, Nat.reduceAdd, Nat.reduceMul, Nat.reduceLeDiff, Nat.reduceLT, Nat.reduceDiv, Nat.reduceSub, TS T, hcap, hsl] <;> rfl)) rfl ?_
    refine Wo.val rfl (by simp only [MS, Nat.reduceBEq, Nat.reduceBNe, Nat.reduceEqDiff, reduceIte, if_true, if_false, reduceCtorEq, Nat.reduceAdd, Nat.reduceMul, Nat.reduceLeDiff, Nat.reduceLT, Nat.reduceDiv, Nat.reduceSub, cval, cv, TS T, hcap, hsl] <;> rfl) rfl ?_
    refine Wo.val rfl (by simp only [MS, Nat.reduceBEq, Nat.reduceBNe, Nat.reduceEqDiff, reduceIte, if_true, if_false, reduceCtorEq, Nat.reduceAdd, Nat.reduceMul, Nat.reduceLeDiff, Nat.reduceLT, Nat.reduceDiv, Nat.reduceSub, bnd, bnds, TS T, hcap, hsl] <;> rfl) rfl ?_
    refine Wo.val rfl (by first | rfl | (simp only [MS, Nat.reduceBEq, Nat.reduceBNe, Nat.reduceEqDiff, reduceIte, if_true, if_false, reduceCtorEq, Nat.reduceAdd, Nat.reduceMul, Nat.reduceLeDiff, Nat.reduceLT, Nat.reduceDiv, Nat.reduceSub, cval, cv, TS T, hcap, hsl] <;> rfl)) rfl ?_
    refine Wo.nil ?_
    exact tail _ rfl rfl rfl
  · refine Wc.skip (tail _ rfl (by rw [hnoroom hm]; rfl) rfl)
theorem S.f14_ok {tb fc} (T : S.Ty tb) {call call' : Caller} {lf : Nat} (hc : ∀ args h, call' (.fn 14) args h = runF tb fc call lf Tryz.f14 args h) (hall : AllOk 3 9 call 35 36 [.int .i64, .int .i64]) : SeeOk 3 9 call' 14 [.sl [.int .i64, .int .i64]] := by
  intro G h eb eo E xb xo t P hxb hl hlen
  obtain ⟨hxlt, xty, xc, xrw, hx, hxl, hxw, hxok⟩ := P.ok.blk xb t hxb
  have hl0 := hl 0 _ rfl
  rw [Nat.add_zero] at hl0
  have hxo : xo < xc.length := by rw [hxl]; exact (List.getElem?_eq_some_iff.1 hl0).1
  have x0 : xc[xo]? = some xc[xo] := List.getElem?_eq_getElem hxo
  have hv := hxok xo _ _ hl0 x0
  suffices H : Wf tb fc call lf Tryz.f14 [.p eb eo, .p xb xo] h (fun v h' => v = .tup [] ∧ ∃ E', Post1 3 9 G t.reg h h' eb eo E E' (wides [.sl [.int .i64, .int .i64]]) ∧ (E.mark = false → (E'.ns, E'.ss) = flats h E.rm [.sl [.int .i64, .int .i64]] ((cellsOf h xb).drop xo) (E.ns, E.ss))) by
    obtain ⟨v, h', h1, rfl, E', h2, h3⟩ := H
    exact ⟨h', E', by rw [hc]; exact h1, h2, h3⟩
  refine Wf.intro (sz := 9) rfl rfl fun K hn0 hr0 => ?_
  refine Wc.rg ?_
  refine Wo.val rfl (by first | rfl | (simp only [MS, Nat.reduceBEq, Nat.reduceBNe, Nat.reduceEqDiff, reduceIte, if_true, if_false, reduceCtorEq, Nat.reduceAdd, Nat.reduceMul, Nat.reduceLeDiff, Nat.reduceLT, Nat.reduceDiv, Nat.reduceSub, TS T, hx, x0] <;> rfl)) rfl ?_
  refine Wo.val rfl (by first | rfl | (simp only [MS, Nat.reduceBEq, Nat.reduceBNe, Nat.reduceEqDiff, reduceIte, if_true, if_false, reduceCtorEq, Nat.reduceAdd, Nat.reduceMul, Nat.reduceLeDiff, Nat.reduceLT, Nat.reduceDiv, Nat.reduceSub, TS T, hx, x0] <;> rfl)) rfl ?_
  refine Wo.val rfl (by first | rfl | (simp only [MS, Nat.reduceBEq, Nat.reduceBNe, Nat.reduceEqDiff, reduceIte, if_true, if_false, reduceCtorEq, Nat.reduceAdd, Nat.reduceMul, Nat.reduceLeDiff, Nat.reduceLT, Nat.reduceDiv, Nat.reduceSub, okCheck, TS T, hx, x0] <;> rfl)) rfl ?_
  refine Wo.val rfl (by simp only [MS, Nat.reduceBEq, Nat.reduceBNe, Nat.reduceEqDiff, reduceIte, if_true, if_false, reduceCtorEq, Nat.reduceAdd, Nat.reduceMul, Nat.reduceLeDiff, Nat.reduceLT, Nat.reduceDiv, Nat.reduceSub, loadA, partV, TS T, hx, x0] <;> rfl) rfl ?_
  refine Wo.cl rfl rfl rfl (by first | rfl | (simp only [MS, Nat.reduceBEq, Nat.reduceBNe, Nat.reduceEqDiff, reduceIte, if_true, if_false, reduceCtorEq, Nat.reduceAdd, Nat.reduceMul, Nat.reduceLeDiff, Nat.reduceLT, Nat.reduceDiv, Nat.reduceSub, cval, cv, TS T, hx, x0] <;> rfl)) (by first | rfl | (simp only [MS, Nat.reduceBEq, Nat.reduceBNe, Nat.reduceEqDiff, reduceIte, if_true, if_false, reduceCtorEq, Nat.reduceAdd, Nat.reduceMul, Nat.reduceLeDiff, Nat.reduceLT, Nat.reduceDiv, Nat.reduceSub, cval, cv, TS T, hx, x0] <;> rfl)) (fun _ => rfl) ?_
  obtain ⟨h', E', hcall, hpost, hseen⟩ := hall G h eb eo E xc[xo] t.reg t.rm P hv (by simpa [wides] using hlen)
  refine ⟨_, h', hcall, Wo.nil ?_⟩
  refine hn0 _ _ [] rfl ⟨rfl, E', by simpa [wides] using hpost, fun hm => ?_⟩
  rw [hseen hm]
  have hcx : (cellsOf h xb).drop xo = xc[xo] :: (xc.drop (xo + 1)) := by
    simp only [cellsOf, hx]; rw [List.drop_eq_getElem_cons hxo]
  rw [hcx]; simp only [flats]
theorem S.f6_ok {tb fc} (T : S.Ty tb) {call call' : Caller} {lf : Nat} (hc : ∀ args h, call' (.fn 6) args h = runF tb fc call lf Tryz.f6 args h) (h10 : SeeOk 3 9 call 10 [.sl [.int .i64]]) (h14 : SeeOk 3 9 call 14 [.sl [.int .i64, .int .i64]]) (h31 : SeeOk 3 9 call 31 [.int .i64, .int .i64, .int .i64, .int .i64]) (h32 : SeeOk 3 9 call 32 [.int .i64]) :
    SeeOk 3 9 call' 6 [.int .i64, .int .i64, .int .i64, .int .i64, .int .i64, .int .i64, .int .i64, .int .i64, .sl [.int .i64], .sl [.int .i64], .sl [.int .i64, .int .i64]] := by
  intro G h eb eo E xb xo t P hxb hl hlen
  have hxlen := (List.getElem?_eq_some_iff.1 (hl 10 _ rfl)).1
  suffices H : Wf tb fc call lf Tryz.f6 [.p eb eo, .p xb xo] h (fun v h' => v = .tup [] ∧ ∃ E', Seen2 3 9 G t h eb eo E xb xo [.int .i64, .int .i64, .int .i64, .int .i64, .int .i64, .int .i64, .int .i64, .int .i64, .sl [.int .i64], .sl [.int .i64], .sl [.int .i64, .int .i64]] h' E') by
    obtain ⟨v, h', h1, rfl, E', h2⟩ := H
    exact ⟨h', E', by rw [hc]; exact h1, h2.fin⟩
  refine Wf.intro (sz := 44) rfl rfl fun K hn0 hr0 => ?_
  repeat refine Wc.assoc ?_
  have S0 := Seen2.start (xb := xb) (xo := xo) P (by omega)
  refine Wc.seq fun K1 hn1 hx1 => ?_
  refine Wc.rg ?_
  refine Wo.val rfl (by first | rfl | (simp only [MS, Nat.reduceBEq, Nat.reduceBNe, Nat.reduceEqDiff, reduceIte, if_true, if_false, reduceCtorEq, Nat.reduceAdd, Nat.reduceMul, Nat.reduceLeDiff, Nat.reduceLT, Nat.reduceDiv, Nat.reduceSub, TS T] <;> rfl)) rfl ?_
  refine Wo.val rfl (by first | rfl | (simp only [MS, Nat.reduceBEq, Nat.reduceBNe, Nat.reduceEqDiff, reduceIte, if_true, if_false, reduceCtorEq, Nat.reduceAdd, Nat.reduceMul, Nat.reduceLeDiff, Nat.reduceLT, Nat.reduceDiv, Nat.reduceSub, TS T] <;> rfl)) rfl ?_
  refine Wo.val rfl (by first | rfl | (simp only [MS, Nat.reduceBEq, Nat.reduceBNe, Nat.reduceEqDiff, reduceIte, if_true, if_false, reduceCtorEq, Nat.reduceAdd, Nat.reduceMul, Nat.reduceLeDiff, Nat.reduceLT, Nat.reduceDiv, Nat.reduceSub, okCheck, TS T] <;> rfl)) rfl ?_
  refine Wo.val rfl (by simp only [MS, Nat.reduceBEq, Nat.reduceBNe, Nat.reduceEqDiff, reduceIte, if_true, if_false, reduceCtorEq, Nat.reduceAdd, Nat.reduceMul, Nat.reduceLeDiff, Nat.reduceLT, Nat.reduceDiv, Nat.reduceSub, TS T] <;> rfl) rfl ?_
  refine Wo.cl rfl rfl rfl (by first | rfl | (simp only [MS, Nat.reduceBEq, Nat.reduceBNe, Nat.reduceEqDiff, reduceIte, if_true, if_false, reduceCtorEq, Nat.reduceAdd, Nat.reduceMul, Nat.reduceLeDiff, Nat.reduceLT, Nat.reduceDiv, Nat.reduceSub, cval, cv, TS T] <;> rfl)) (by first | rfl | (simp only [MS, Nat.reduceBEq, Nat.reduceBNe, Nat.reduceEqDiff, reduceIte, if_true, if_false, reduceCtorEq, Nat.reduceAdd, Nat.reduceMul, Nat.reduceLeDiff, Nat.reduceLT, Nat.reduceDiv, Nat.reduceSub, cval, cv, TS T] <;> rfl)) (fun _ => rfl) ?_
  obtain ⟨h1, E1, hc1, S1⟩ := S0.step (xo) (by simp) h31 hxb (sub_of hl rfl) (by simp only [wides, wide1, List.cons_append, List.nil_append] at hlen ⊢; omega)
  refine ⟨_, h1, hc1, Wo.nil ?_⟩
  refine hn1 _ ?_
  repeat refine Wc.assoc ?_
  refine Wc.seq fun K2 hn2 hx2 => ?_
  refine Wc.rg ?_
  refine Wo.val rfl (by first | rfl | (simp only [MS, Nat.reduceBEq, Nat.reduceBNe, Nat.reduceEqDiff, reduceIte, if_true, if_false, reduceCtorEq, Nat.reduceAdd, Nat.reduceMul, Nat.reduceLeDiff, Nat.reduceLT, Nat.reduceDiv, Nat.reduceSub, TS T] <;> rfl)) rfl ?_
  refine Wo.val rfl (by first | rfl | (simp only [MS, Nat.reduceBEq, Nat.reduceBNe, Nat.reduceEqDiff, reduceIte, if_true, if_false, reduceCtorEq, Nat.reduceAdd, Nat.reduceMul, Nat.reduceLeDiff, Nat.reduceLT, Nat.reduceDiv, Nat.reduceSub, TS T] <;> rfl)) rfl ?_
  refine Wo.val rfl (by first | rfl | (simp only [MS, Nat.reduceBEq, Nat.reduceBNe, Nat.reduceEqDiff, reduceIte, if_true, if_false, reduceCtorEq, Nat.reduceAdd, Nat.reduceMul, Nat.reduceLeDiff, Nat.reduceLT, Nat.reduceDiv, Nat.reduceSub, okCheck, TS T] <;> rfl)) rfl ?_
  refine Wo.val rfl (by simp only [MS, Nat.reduceBEq, Nat.reduceBNe, Nat.reduceEqDiff, reduceIte, if_true, if_false, reduceCtorEq, Nat.reduceAdd, Nat.reduceMul, Nat.reduceLeDiff, Nat.reduceLT, Nat.reduceDiv, Nat.reduceSub, TS T] <;> rfl) rfl ?_
  refine Wo.cl rfl rfl rfl (by first | rfl | (simp only [MS, Nat.reduceBEq, Nat.reduceBNe, Nat.reduceEqDiff, reduceIte, if_true, if_false, reduceCtorEq, Nat.reduceAdd, Nat.reduceMul, Nat.reduceLeDiff, Nat.reduceLT, Nat.reduceDiv, Nat.reduceSub, cval, cv, TS T] <;> rfl)) (by first | rfl | (simp only [MS, Nat.reduceBEq, Nat.reduceBNe, Nat.reduceEqDiff, reduceIte, if_true, if_false, reduceCtorEq, Nat.reduceAdd, Nat.reduceMul, Nat.reduceLeDiff, Nat.reduceLT, Nat.reduceDiv, Nat.reduceSub, cval, cv, TS T] <;> rfl)) (fun _ => rfl) ?_
  obtain ⟨h2, E2, hc2, S2⟩ := S1.step (xo + 4) (by simp) h32 hxb (sub_of hl rfl) (by simp only [wides, wide1, List.cons_append, List.nil_append] at hlen ⊢; omega)
  refine ⟨_, h2, hc2, Wo.nil ?_⟩
  refine hn2 _ ?_
  repeat refine Wc.assoc ?_
  refine Wc.seq fun K3 hn3 hx3 => ?_
  refine Wc.rg ?_
  refine Wo.val rfl (by first | rfl | (simp only [MS, Nat.reduceBEq, Nat.reduceBNe, Nat.reduceEqDiff, reduceIte, if_true, if_false, reduceCtorEq, Nat.reduceAdd, Nat.reduceMul, Nat.reduceLeDiff, Nat.reduceLT, Nat.reduceDiv, Nat.reduceSub, TS T] <;> rfl)) rfl ?_
  refine Wo.val rfl (by first | rfl | (simp only [MS, Nat.reduceBEq, Nat.reduceBNe, Nat.reduceEqDiff, reduceIte, if_true, if_false, reduceCtorEq, Nat.reduceAdd, Nat.reduceMul, Nat.reduceLeDiff, Nat.reduceLT, Nat.reduceDiv, Nat.reduceSub, TS T] <;> rfl)) rfl ?_
  refine Wo.val rfl (by first | rfl | (simp only [MS, Nat.reduceBEq, Nat.reduceBNe, Nat.reduceEqDiff, reduceIte, if_true, if_false, reduceCtorEq, Nat.reduceAdd, Nat.reduceMul, Nat.reduceLeDiff, Nat.reduceLT, Nat.reduceDiv, Nat.reduceSub, okCheck, TS T] <;> rfl)) rfl ?_
  refine Wo.val rfl (by simp only [MS, Nat.reduceBEq, Nat.reduceBNe, Nat.reduceEqDiff, reduceIte, if_true, if_false, reduceCtorEq, Nat.reduceAdd, Nat.reduceMul, Nat.reduceLeDiff, Nat.reduceLT, Nat.reduceDiv, Nat.reduceSub, TS T] <;> rfl) rfl ?_
  refine Wo.cl rfl rfl rfl (by first | rfl | (simp only [MS, Nat.reduceBEq, Nat.reduceBNe, Nat.reduceEqDiff, reduceIte, if_true, if_false, reduceCtorEq, Nat.reduceAdd, Nat.reduceMul, Nat.reduceLeDiff, Nat.reduceLT, Nat.reduceDiv, Nat.reduceSub, cval, cv, TS T] <;> rfl)) (by first | rfl | (simp only [MS, Nat.reduceBEq, Nat.reduceBNe, Nat.reduceEqDiff, reduceIte, if_true, if_false, reduceCtorEq, Nat.reduceAdd, Nat.reduceMul, Nat.reduceLeDiff, Nat.reduceLT, Nat.reduceDiv, Nat.reduceSub, cval, cv, TS T] <;> rfl)) (fun _ => rfl) ?_
  obtain ⟨h3, E3, hc3, S3⟩ := S2.step (xo + 5) (by simp) h32 hxb (sub_of hl rfl) (by simp only [wides, wide1, List.cons_append, List.nil_append] at hlen ⊢; omega)
  refine ⟨_, h3, hc3, Wo.nil ?_⟩
  refine hn3 _ ?_
  repeat refine Wc.assoc ?_
  refine Wc.seq fun K4 hn4 hx4 => ?_
  refine Wc.rg ?_
  refine Wo.val rfl (by first | rfl | (simp only [MS, Nat.reduceBEq, Nat.reduceBNe, Nat.reduceEqDiff, reduceIte, if_true, if_false, reduceCtorEq, Nat.reduceAdd, Nat.reduceMul, Nat.reduceLeDiff, Nat.reduceLT, Nat.reduceDiv, Nat.reduceSub, TS T] <;> rfl)) rfl ?_
  refine Wo.val rfl (by first | rfl | (simp only [MS, Nat.reduceBEq, Nat.reduceBNe, Nat.reduceEqDiff, reduceIte, if_true, if_false, reduceCtorEq, Nat.reduceAdd, Nat.reduceMul, Nat.reduceLeDiff, Nat.reduceLT, Nat.reduceDiv, Nat.reduceSub, TS T] <;> rfl)) rfl ?_
  refine Wo.val rfl (by first | rfl | (simp only [MS, Nat.reduceBEq, Nat.reduceBNe, Nat.reduceEqDiff, reduceIte, if_true, if_false, reduceCtorEq, Nat.reduceAdd, Nat.reduceMul, Nat.reduceLeDiff, Nat.reduceLT, Nat.reduceDiv, Nat.reduceSub, okCheck, TS T] <;> rfl)) rfl ?_
  refine Wo.val rfl (by simp only [MS, Nat.reduceBEq, Nat.reduceBNe, Nat.reduceEqDiff, reduceIte, if_true, if_false, reduceCtorEq, Nat.reduceAdd, Nat.reduceMul, Nat.reduceLeDiff, Nat.reduceLT, Nat.reduceDiv, Nat.reduceSub, TS T] <;> rfl) rfl ?_
  refine Wo.cl rfl rfl rfl (by first | rfl | (simp only [MS, Nat.reduceBEq, Nat.reduceBNe, Nat.reduceEqDiff, reduceIte, if_true, if_false, reduceCtorEq, Nat.reduceAdd, Nat.reduceMul, Nat.reduceLeDiff, Nat.reduceLT, Nat.reduceDiv, Nat.reduceSub, cval, cv, TS T] <;> rfl)) (by first | rfl | (simp only [MS, Nat.reduceBEq, Nat.reduceBNe, Nat.reduceEqDiff, reduceIte, if_true, if_false, reduceCtorEq, Nat.reduceAdd, Nat.reduceMul, Nat.reduceLeDiff, Nat.reduceLT, Nat.reduceDiv, Nat.reduceSub, cval, cv, TS T] <;> rfl)) (fun _ => rfl) ?_
  obtain ⟨h4, E4, hc4, S4⟩ := S3.step (xo + 6) (by simp) h32 hxb (sub_of hl rfl) (by simp only [wides, wide1, List.cons_append, List.nil_append] at hlen ⊢; omega)
  refine ⟨_, h4, hc4, Wo.nil ?_⟩
  refine hn4 _ ?_
  repeat refine Wc.assoc ?_
  refine Wc.seq fun K5 hn5 hx5 => ?_
  refine Wc.rg ?_
  refine Wo.val rfl (by first | rfl | (simp only [MS, Nat.reduceBEq, Nat.reduceBNe, Nat.reduceEqDiff, reduceIte, if_true, if_false, reduceCtorEq, Nat.reduceAdd, Nat.reduceMul, Nat.reduceLeDiff, Nat.reduceLT, Nat.reduceDiv, Nat.reduceSub, TS T] <;> rfl)) rfl ?_
  refine Wo.val rfl (by first | rfl | (simp only [MS, Nat.reduceBEq, Nat.reduceBNe, Nat.reduceEqDiff, reduceIte, if_true, if_false, reduceCtorEq, Nat.reduceAdd, Nat.reduceMul, Nat.reduceLeDiff, Nat.reduceLT, Nat.reduceDiv, Nat.reduceSub, TS T] <;> rfl)) rfl ?_
  refine Wo.val rfl (by first | rfl | (simp only [MS, Nat.reduceBEq, Nat.reduceBNe, Nat.reduceEqDiff, reduceIte, if_true, if_false, reduceCtorEq, Nat.reduceAdd, Nat.reduceMul, Nat.reduceLeDiff, Nat.reduceLT, Nat.reduceDiv, Nat.reduceSub, okCheck, TS T] <;> rfl)) rfl ?_
  refine Wo.val rfl (by simp only [MS, Nat.reduceBEq, Nat.reduceBNe, Nat.reduceEqDiff, reduceIte, if_true, if_false, reduceCtorEq, Nat.reduceAdd, Nat.reduceMul, Nat.reduceLeDiff, Nat.reduceLT, Nat.reduceDiv, Nat.reduceSub, TS T] <;> rfl) rfl ?_
  refine Wo.cl rfl rfl rfl (by first | rfl | (simp only [MS, Nat.reduceBEq, Nat.reduceBNe, Nat.reduceEqDiff, reduceIte, if_true, if_false, reduceCtorEq, Nat.reduceAdd, Nat.reduceMul, Nat.reduceLeDiff, Nat.reduceLT, Nat.reduceDiv, Nat.reduceSub, cval, cv, TS T] <;> rfl)) (by first | rfl | (simp only [MS, Nat.reduceBEq, Nat.reduceBNe, Nat.reduceEqDiff, reduceIte, if_true, if_false, reduceCtorEq, Nat.reduceAdd, Nat.reduceMul, Nat.reduceLeDiff, Nat.reduceLT, Nat.reduceDiv, Nat.reduceSub, cval, cv, TS T] <;> rfl)) (fun _ => rfl) ?_
  obtain ⟨h5, E5, hc5, S5⟩ := S4.step (xo + 7) (by simp) h32 hxb (sub_of hl rfl) (by simp only [wides, wide1, List.cons_append, List.nil_append] at hlen ⊢; omega)
  refine ⟨_, h5, hc5, Wo.nil ?_⟩
  refine hn5 _ ?_
  repeat refine Wc.assoc ?_
  refine Wc.seq fun K6 hn6 hx6 => ?_
  refine Wc.rg ?_
  refine Wo.val rfl (by first | rfl | (simp only [MS, Nat.reduceBEq, Nat.reduceBNe, Nat.reduceEqDiff, reduceIte, if_true, if_false, reduceCtorEq, Nat.reduceAdd, Nat.reduceMul, Nat.reduceLeDiff, Nat.reduceLT, Nat.reduceDiv, Nat.reduceSub, TS T] <;> rfl)) rfl ?_
  refine Wo.val rfl (by first | rfl | (simp only [MS, Nat.reduceBEq, Nat.reduceBNe, Nat.reduceEqDiff, reduceIte, if_true, if_false, reduceCtorEq, Nat.reduceAdd, Nat.reduceMul, Nat.reduceLeDiff, Nat.reduceLT, Nat.reduceDiv, Nat.reduceSub, TS T] <;> rfl)) rfl ?_
  refine Wo.val rfl (by first | rfl | (simp only [MS, Nat.reduceBEq, Nat.reduceBNe, Nat.reduceEqDiff, reduceIte, if_true, if_false, reduceCtorEq, Nat.reduceAdd, Nat.reduceMul, Nat.reduceLeDiff, Nat.reduceLT, Nat.reduceDiv, Nat.reduceSub, okCheck, TS T] <;> rfl)) rfl ?_
  refine Wo.val rfl (by simp only [MS, Nat.reduceBEq, Nat.reduceBNe, Nat.reduceEqDiff, reduceIte, if_true, if_false, reduceCtorEq, Nat.reduceAdd, Nat.reduceMul, Nat.reduceLeDiff, Nat.reduceLT, Nat.reduceDiv, Nat.reduceSub, TS T] <;> rfl) rfl ?_
  refine Wo.cl rfl rfl rfl (by first | rfl | (simp only [MS, Nat.reduceBEq, Nat.reduceBNe, Nat.reduceEqDiff, reduceIte, if_true, if_false, reduceCtorEq, Nat.reduceAdd, Nat.reduceMul, Nat.reduceLeDiff, Nat.reduceLT, Nat.reduceDiv, Nat.reduceSub, cval, cv, TS T] <;> rfl)) (by first | rfl | (simp only [MS, Nat.reduceBEq, Nat.reduceBNe, Nat.reduceEqDiff, reduceIte, if_true, if_false, reduceCtorEq, Nat.reduceAdd, Nat.reduceMul, Nat.reduceLeDiff, Nat.reduceLT, Nat.reduceDiv, Nat.reduceSub, cval, cv, TS T] <;> rfl)) (fun _ => rfl) ?_
  obtain ⟨h6, E6, hc6, S6⟩ := S5.step (xo + 8) (by simp) h10 hxb (sub_of hl rfl) (by simp only [wides, wide1, List.cons_append, List.nil_append] at hlen ⊢; omega)
  refine ⟨_, h6, hc6, Wo.nil ?_⟩
  refine hn6 _ ?_
  repeat refine Wc.assoc ?_
  refine Wc.seq fun K7 hn7 hx7 => ?_
  refine Wc.rg ?_
  refine Wo.val rfl (by first | rfl | (simp only [MS, Nat.reduceBEq, Nat.reduceBNe, Nat.reduceEqDiff, reduceIte, if_true, if_false, reduceCtorEq, Nat.reduceAdd, Nat.reduceMul, Nat.reduceLeDiff, Nat.reduceLT, Nat.reduceDiv, Nat.reduceSub, TS T] <;> rfl)) rfl ?_
  refine Wo.val rfl (by first | rfl | (simp only [MS, Nat.reduceBEq, Nat.reduceBNe, Nat.reduceEqDiff, reduceIte, if_true, if_false, reduceCtorEq, Nat.reduceAdd, Nat.reduceMul, Nat.reduceLeDiff, Nat.reduceLT, Nat.reduceDiv, Nat.reduceSub, TS T] <;> rfl)) rfl ?_
  refine Wo.val rfl (by first | rfl | (simp only [MS, Nat.reduceBEq, Nat.reduceBNe, Nat.reduceEqDiff, reduceIte, if_true, if_false, reduceCtorEq, Nat.reduceAdd, Nat.reduceMul, Nat.reduceLeDiff, Nat.reduceLT, Nat.reduceDiv, Nat.reduceSub, okCheck, TS T] <;> rfl)) rfl ?_
  refine Wo.val rfl (by simp only [MS, Nat.reduceBEq, Nat.reduceBNe, Nat.reduceEqDiff, reduceIte, if_true, if_false, reduceCtorEq, Nat.reduceAdd, Nat.reduceMul, Nat.reduceLeDiff, Nat.reduceLT, Nat.reduceDiv, Nat.reduceSub, TS T] <;> rfl) rfl ?_
  refine Wo.cl rfl rfl rfl (by first | rfl | (simp only [MS, Nat.reduceBEq, Nat.reduceBNe, Nat.reduceEqDiff, reduceIte, if_true, if_false, reduceCtorEq, Nat.reduceAdd, Nat.reduceMul, Nat.reduceLeDiff, Nat.reduceLT, Nat.reduceDiv, Nat.reduceSub, cval, cv, TS T] <;> rfl)) (by first | rfl | (simp only [MS, Nat.reduceBEq, Nat.reduceBNe, Nat.reduceEqDiff, reduceIte, if_true, if_false, reduceCtorEq, Nat.reduceAdd, Nat.reduceMul, Nat.reduceLeDiff, Nat.reduceLT, Nat.reduceDiv, Nat.reduceSub, cval, cv, TS T] <;> rfl)) (fun _ => rfl) ?_
  obtain ⟨h7, E7, hc7, S7⟩ := S6.step (xo + 9) (by simp) h10 hxb (sub_of hl rfl) (by simp only [wides, wide1, List.cons_append, List.nil_append] at hlen ⊢; omega)
  refine ⟨_, h7, hc7, Wo.nil ?_⟩
  refine hn7 _ ?_
  repeat refine Wc.assoc ?_
  refine Wc.rg ?_
  refine Wo.val rfl (by first | rfl | (simp only [MS, Nat.reduceBEq, Nat.reduceBNe, Nat.reduceEqDiff, reduceIte, if_true, if_false, reduceCtorEq, Nat.reduceAdd, Nat.reduceMul, Nat.reduceLeDiff, Nat.reduceLT, Nat.reduceDiv, Nat.reduceSub, TS T] <;> rfl)) rfl ?_
  refine Wo.val rfl (by first | rfl | (simp only [MS, Nat.reduceBEq, Nat.reduceBNe, Nat.reduceEqDiff, reduceIte, if_true, if_false, reduceCtorEq, Nat.reduceAdd, Nat.reduceMul, Nat.reduceLeDiff, Nat.reduceLT, Nat.reduceDiv, Nat.reduceSub, TS T] <;> rfl)) rfl ?_
  refine Wo.val rfl (by first | rfl | (simp only [MS, Nat.reduceBEq, Nat.reduceBNe, Nat.reduceEqDiff, reduceIte, if_true, if_false, reduceCtorEq, Nat.reduceAdd, Nat.reduceMul, Nat.reduceLeDiff, Nat.reduceLT, Nat.reduceDiv, Nat.reduceSub, okCheck, TS T] <;> rfl)) rfl ?_
  refine Wo.val rfl (by simp only [MS, Nat.reduceBEq, Nat.reduceBNe, Nat.reduceEqDiff, reduceIte, if_true, if_false, reduceCtorEq, Nat.reduceAdd, Nat.reduceMul, Nat.reduceLeDiff, Nat.reduceLT, Nat.reduceDiv, Nat.reduceSub, TS T] <;> rfl) rfl ?_
  refine Wo.cl rfl rfl rfl (by first | rfl | (simp only [MS, Nat.reduceBEq, Nat.reduceBNe, Nat.reduceEqDiff, reduceIte, if_true, if_false, reduceCtorEq, Nat.reduceAdd, Nat.reduceMul, Nat.reduceLeDiff, Nat.reduceLT, Nat.reduceDiv, Nat.reduceSub, cval, cv, TS T] <;> rfl)) (by first | rfl | (simp only [MS, Nat.reduceBEq, Nat.reduceBNe, Nat.reduceEqDiff, reduceIte, if_true, if_false, reduceCtorEq, Nat.reduceAdd, Nat.reduceMul, Nat.reduceLeDiff, Nat.reduceLT, Nat.reduceDiv, Nat.reduceSub, cval, cv, TS T] <;> rfl)) (fun _ => rfl) ?_
  obtain ⟨h8, E8, hc8, S8⟩ := S7.step (xo + 10) (by simp) h14 hxb (sub_of hl rfl) (by simp only [wides, wide1, List.cons_append, List.nil_append] at hlen ⊢; omega)
  refine ⟨_, h8, hc8, Wo.nil ?_⟩
  exact hn0 _ _ [] rfl ⟨rfl, E8, S8⟩
theorem S.f9_ok {tb fc} {call call' : Caller} {lf : Nat} (hc : ∀ args h, call' (.fn 9) args h = runF tb fc call lf Tryz.f9 args h) {ls} (hs : SeeOk 3 9 call 10 ls) : SeeOk 3 9 call' 9 ls := by
  intro G h eb eo E xb xo t P hxb hl hlen
  suffices H : Wf tb fc call lf Tryz.f9 [.p eb eo, .p xb xo] h (fun v h' => v = .tup [] ∧ ∃ E', Post1 3 9 G t.reg h h' eb eo E E' (wides ls) ∧ (E.mark = false → (E'.ns, E'.ss) = flats h E.rm ls ((cellsOf h xb).drop xo) (E.ns, E.ss))) by
    obtain ⟨v, h', h1, rfl, E', h2, h3⟩ := H
    exact ⟨h', E', by rw [hc]; exact h1, h2, h3⟩
  refine Wf.intro (sz := 5) rfl rfl fun K hn0 hr0 => ?_
  refine Wc.rg ?_
  refine Wo.val rfl (by first | rfl | (simp only [MS, Nat.reduceBEq, Nat.reduceBNe, Nat.reduceEqDiff, reduceIte, if_true, if_false, reduceCtorEq, Nat.reduceAdd, Nat.reduceMul, Nat.reduceLeDiff, Nat.reduceLT, Nat.reduceDiv, Nat.reduceSub, TS T] <;> rfl)) rfl ?_
  refine Wo.cl rfl rfl rfl (by first | rfl | (simp only [MS, Nat.reduceBEq, Nat.reduceBNe, Nat.reduceEqDiff, reduceIte, if_true, if_false, reduceCtorEq, Nat.reduceAdd, Nat.reduceMul, Nat.reduceLeDiff, Nat.reduceLT, Nat.reduceDiv, Nat.reduceSub, cval, cv, TS T] <;> rfl)) (by first | rfl | (simp only [MS, Nat.reduceBEq, Nat.reduceBNe, Nat.reduceEqDiff, reduceIte, if_true, if_false, reduceCtorEq, Nat.reduceAdd, Nat.reduceMul, Nat.reduceLeDiff, Nat.reduceLT, Nat.reduceDiv, Nat.reduceSub, cval, cv, TS T] <;> rfl)) (fun _ => rfl) ?_
  obtain ⟨h', E', hcall, hpost, hseen⟩ := hs G h eb eo E xb xo t P hxb hl hlen
  refine ⟨_, h', hcall, Wo.nil ?_⟩
  exact hn0 _ _ [] rfl ⟨rfl, E', hpost, hseen⟩
theorem S.f13_ok {tb fc} {call call' : Caller} {lf : Nat} (hc : ∀ args h, call' (.fn 13) args h = runF tb fc call lf Tryz.f13 args h) {ls} (hs : SeeOk 3 9 call 14 ls) : SeeOk 3 9 call' 13 ls := by
  intro G h eb eo E xb xo t P hxb hl hlen
  suffices H : Wf tb fc call lf Tryz.f13 [.p eb eo, .p xb xo] h (fun v h' => v = .tup [] ∧ ∃ E', Post1 3 9 G t.reg h h' eb eo E E' (wides ls) ∧ (E.mark = false → (E'.ns, E'.ss) = flats h E.rm ls ((cellsOf h xb).drop xo) (E.ns, E.ss))) by
    obtain ⟨v, h', h1, rfl, E', h2, h3⟩ := H
    exact ⟨h', E', by rw [hc]; exact h1, h2, h3⟩
  refine Wf.intro (sz := 5) rfl rfl fun K hn0 hr0 => ?_
  refine Wc.rg ?_
  refine Wo.val rfl (by first | rfl | (simp only [MS, Nat.reduceBEq, Nat.reduceBNe, Nat.reduceEqDiff, reduceIte, if_true, if_false, reduceCtorEq, Nat.reduceAdd, Nat.reduceMul, Nat.reduceLeDiff, Nat.reduceLT, Nat.reduceDiv, Nat.reduceSub, TS T] <;> rfl)) rfl ?_
  refine Wo.cl rfl rfl rfl (by first | rfl | (simp only [MS, Nat.reduceBEq, Nat.reduceBNe, Nat.reduceEqDiff, reduceIte, if_true, if_false, reduceCtorEq, Nat.reduceAdd, Nat.reduceMul, Nat.reduceLeDiff, Nat.reduceLT, Nat.reduceDiv, Nat.reduceSub, cval, cv, TS T] <;> rfl)) (by first | rfl | (simp only [MS, Nat.reduceBEq, Nat.reduceBNe, Nat.reduceEqDiff, reduceIte, if_true, if_false, reduceCtorEq, Nat.reduceAdd, Nat.reduceMul, Nat.reduceLeDiff, Nat.reduceLT, Nat.reduceDiv, Nat.reduceSub, cval, cv, TS T] <;> rfl)) (fun _ => rfl) ?_
  obtain ⟨h', E', hcall, hpost, hseen⟩ := hs G h eb eo E xb xo t P hxb hl hlen
  refine ⟨_, h', hcall, Wo.nil ?_⟩
  exact hn0 _ _ [] rfl ⟨rfl, E', hpost, hseen⟩
theorem S.f17_ok {tb fc} {call call' : Caller} {lf : Nat} (hc : ∀ args h, call' (.fn 17) args h = runF tb fc call lf Tryz.f17 args h) {ls} (hs : SeeOk 3 9 call 14 ls) : SeeOk 3 9 call' 17 ls := by
  intro G h eb eo E xb xo t P hxb hl hlen
  suffices H : Wf tb fc call lf Tryz.f17 [.p eb eo, .p xb xo] h (fun v h' => v = .tup [] ∧ ∃ E', Post1 3 9 G t.reg h h' eb eo E E' (wides ls) ∧ (E.mark = false → (E'.ns, E'.ss) = flats h E.rm ls ((cellsOf h xb).drop xo) (E.ns, E.ss))) by
    obtain ⟨v, h', h1, rfl, E', h2, h3⟩ := H
    exact ⟨h', E', by rw [hc]; exact h1, h2, h3⟩
  refine Wf.intro (sz := 5) rfl rfl fun K hn0 hr0 => ?_
  refine Wc.rg ?_
  refine Wo.val rfl (by first | rfl | (simp only [MS, Nat.reduceBEq, Nat.reduceBNe, Nat.reduceEqDiff, reduceIte, if_true, if_false, reduceCtorEq, Nat.reduceAdd, Nat.reduceMul, Nat.reduceLeDiff, Nat.reduceLT, Nat.reduceDiv, Nat.reduceSub, TS T] <;> rfl)) rfl ?_
  refine Wo.cl rfl rfl rfl (by first | rfl | (simp only [MS, Nat.reduceBEq, Nat.reduceBNe, Nat.reduceEqDiff, reduceIte, if_true, if_false, reduceCtorEq, Nat.reduceAdd, Nat.reduceMul, Nat.reduceLeDiff, Nat.reduceLT, Nat.reduceDiv, Nat.reduceSub, cval, cv, TS T] <;> rfl)) (by first | rfl | (simp only [MS, Nat.reduceBEq, Nat.reduceBNe, Nat.reduceEqDiff, reduceIte, if_true, if_false, reduceCtorEq, Nat.reduceAdd, Nat.reduceMul, Nat.reduceLeDiff, Nat.reduceLT, Nat.reduceDiv, Nat.reduceSub, cval, cv, TS T] <;> rfl)) (fun _ => rfl) ?_
  obtain ⟨h', E', hcall, hpost, hseen⟩ := hs G h eb eo E xb xo t P hxb hl hlen
  refine ⟨_, h', hcall, Wo.nil ?_⟩
  exact hn0 _ _ [] rfl ⟨rfl, E', hpost, hseen⟩
theorem S.f22_ok {tb fc} {call call' : Caller} {lf : Nat} (hc : ∀ args h, call' (.fn 22) args h = runF tb fc call lf Tryz.f22 args h) {ls} (hs : SeeOk 3 9 call 10 ls) : SeeOk 3 9 call' 22 ls := by
  intro G h eb eo E xb xo t P hxb hl hlen
  suffices H : Wf tb fc call lf Tryz.f22 [.p eb eo, .p xb xo] h (fun v h' => v = .tup [] ∧ ∃ E', Post1 3 9 G t.reg h h' eb eo E E' (wides ls) ∧ (E.mark = false → (E'.ns, E'.ss) = flats h E.rm ls ((cellsOf h xb).drop xo) (E.ns, E.ss))) by
    obtain ⟨v, h', h1, rfl, E', h2, h3⟩ := H
    exact ⟨h', E', by rw [hc]; exact h1, h2, h3⟩
  refine Wf.intro (sz := 5) rfl rfl fun K hn0 hr0 => ?_
  refine Wc.rg ?_
  refine Wo.val rfl (by first | rfl | (simp only [MS, Nat.reduceBEq, Nat.reduceBNe, Nat.reduceEqDiff, reduceIte, if_true, if_false, reduceCtorEq, Nat.reduceAdd, Nat.reduceMul, Nat.reduceLeDiff, Nat.reduceLT, Nat.reduceDiv, Nat.reduceSub, TS T] <;> rfl)) rfl ?_
  refine Wo.cl rfl rfl rfl (by first | rfl | (simp only [MS, Nat.reduceBEq, Nat.reduceBNe, Nat.reduceEqDiff, reduceIte, if_true, if_false, reduceCtorEq, Nat.reduceAdd, Nat.reduceMul, Nat.reduceLeDiff, Nat.reduceLT, Nat.reduceDiv, Nat.reduceSub, cval, cv, TS T] <;> rfl)) (by first | rfl | (simp only [MS, Nat.reduceBEq, Nat.reduceBNe, Nat.reduceEqDiff, reduceIte, if_true, if_false, reduceCtorEq, Nat.reduceAdd, Nat.reduceMul, Nat.reduceLeDiff, Nat.reduceLT, Nat.reduceDiv, Nat.reduceSub, cval, cv, TS T] <;> rfl)) (fun _ => rfl) ?_
  obtain ⟨h', E', hcall, hpost, hseen⟩ := hs G h eb eo E xb xo t P hxb hl hlen
  refine ⟨_, h', hcall, Wo.nil ?_⟩
  exact hn0 _ _ [] rfl ⟨rfl, E', hpost, hseen⟩
theorem S.f23_ok {tb fc} {call call' : Caller} {lf : Nat} (hc : ∀ args h, call' (.fn 23) args h = runF tb fc call lf Tryz.f23 args h) {ls} (hs : SeeOk 3 9 call 10 ls) : SeeOk 3 9 call' 23 ls := by
  intro G h eb eo E xb xo t P hxb hl hlen
  suffices H : Wf tb fc call lf Tryz.f23 [.p eb eo, .p xb xo] h (fun v h' => v = .tup [] ∧ ∃ E', Post1 3 9 G t.reg h h' eb eo E E' (wides ls) ∧ (E.mark = false → (E'.ns, E'.ss) = flats h E.rm ls ((cellsOf h xb).drop xo) (E.ns, E.ss))) by
    obtain ⟨v, h', h1, rfl, E', h2, h3⟩ := H
    exact ⟨h', E', by rw [hc]; exact h1, h2, h3⟩
  refine Wf.intro (sz := 5) rfl rfl fun K hn0 hr0 => ?_
  refine Wc.rg ?_
  refine Wo.val rfl (by first | rfl | (simp only [MS, Nat.reduceBEq, Nat.reduceBNe, Nat.reduceEqDiff, reduceIte, if_true, if_false, reduceCtorEq, Nat.reduceAdd, Nat.reduceMul, Nat.reduceLeDiff, Nat.reduceLT, Nat.reduceDiv, Nat.reduceSub, TS T] <;> rfl)) rfl ?_
  refine Wo.cl rfl rfl rfl (by first | rfl | (simp only [MS, Nat.reduceBEq, Nat.reduceBNe, Nat.reduceEqDiff, reduceIte, if_true, if_false, reduceCtorEq, Nat.reduceAdd, Nat.reduceMul, Nat.reduceLeDiff, Nat.reduceLT, Nat.reduceDiv, Nat.reduceSub, cval, cv, TS T] <;> rfl)) (by first | rfl | (simp only [MS, Nat.reduceBEq, Nat.reduceBNe, Nat.reduceEqDiff, reduceIte, if_true, if_false, reduceCtorEq, Nat.reduceAdd, Nat.reduceMul, Nat.reduceLeDiff, Nat.reduceLT, Nat.reduceDiv, Nat.reduceSub, cval, cv, TS T] <;> rfl)) (fun _ => rfl) ?_
  obtain ⟨h', E', hcall, hpost, hseen⟩ := hs G h eb eo E xb xo t P hxb hl hlen
  refine ⟨_, h', hcall, Wo.nil ?_⟩
  exact hn0 _ _ [] rfl ⟨rfl, E', hpost, hseen⟩
end Go.Mx

--@T
namespace Go.Mx
open Go.Proofs
set_option maxRecDepth 100000
set_option maxHeartbeats 4000000
theorem S.cp29 {tb} (T : S.Ty tb) : CpT tb 24 3 [.int .i64] where
  sl := ⟨_, T.t24, rfl⟩
  el := ⟨_, T.t3, rfl, rfl, by decide, fun j l hj => by
    match j with
    | 0 => cases hj; exact ⟨_, rfl, 0, rfl, rfl⟩
    | j + 1 => simp at hj⟩
  flat j l hj := by
    match j with
    | 0 => cases hj; rfl
    | j + 1 => simp at hj
  pos := by simp
theorem S.f29_ok {tb fc} (T : S.Ty tb) {call call' : Caller} {lf : Nat} (hc : ∀ args h, call' (.fn 29) args h = runF tb fc call lf Tryz.f29 args h) : CopyOk call' 29 [.int .i64] := by
  intro G r rm h v hT hs hv
  obtain ⟨n, hln, hn, h1, h2, hms, hap, hx, hnn, hcs⟩ := copy_of (S.cp29 T) hT hs hv
  suffices H : Wf tb fc call lf Tryz.f29 [v] h (fun w h' => w = .sl h.n 0 n (some (n + 2)) 1 ∧ h' = h2) by
    obtain ⟨w, h', h1, rfl, rfl⟩ := H
    exact ⟨n, h', hn, by rw [hc]; exact h1, hx, hnn, hcs⟩
  have hw : IntKind.i64.wrap ((n : Int) + 2) = ((n + 2 : Nat) : Int) := by simp at hn; rw [wrap_i64] <;> omega
  simp only [List.length_cons, List.length_nil, Nat.zero_add, Nat.reduceAdd] at hms hap
  refine Wf.intro (sz := 9) rfl rfl fun K hn0 hr0 => ?_
  repeat refine Wc.assoc ?_
  refine Wc.seq fun K1 hn1 hx1 => ?_
  refine Wc.rg ?_
  refine Wo.val rfl (by first | rfl | (simp only [MS, Nat.reduceBEq, Nat.reduceBNe, Nat.reduceEqDiff, reduceIte, if_true, if_false, reduceCtorEq, Nat.reduceAdd, Nat.reduceMul, Nat.reduceLeDiff, Nat.reduceLT, Nat.reduceDiv, Nat.reduceSub, cval, cv, TS T] <;> rfl)) rfl ?_
  refine Wo.nil ?_
  refine hn1 _ ?_
  repeat refine Wc.assoc ?_
  refine Wc.seq fun K2 hn2 hx2 => ?_
  refine Wc.rg ?_
  refine Wo.val rfl (by first | rfl | (simp only [MS, Nat.reduceBEq, Nat.reduceBNe, Nat.reduceEqDiff, reduceIte, if_true, if_false, reduceCtorEq, Nat.reduceAdd, Nat.reduceMul, Nat.reduceLeDiff, Nat.reduceLT, Nat.reduceDiv, Nat.reduceSub, TS T, hln, hw, hms, hap] <;> rfl)) rfl ?_
  refine Wo.val rfl (by simp only [MS, Nat.reduceBEq, Nat.reduceBNe, Nat.reduceEqDiff, reduceIte, if_true, if_false, reduceCtorEq, Nat.reduceAdd, Nat.reduceMul, Nat.reduceLeDiff, Nat.reduceLT, Nat.reduceDiv, Nat.reduceSub, cval, cv, TS T, hln, hw, hms, hap] <;> rfl) rfl ?_
  refine Wo.val rfl (by simp only [MS, Nat.reduceBEq, Nat.reduceBNe, Nat.reduceEqDiff, reduceIte, if_true, if_false, reduceCtorEq, Nat.reduceAdd, Nat.reduceMul, Nat.reduceLeDiff, Nat.reduceLT, Nat.reduceDiv, Nat.reduceSub, binA, arithA, strA, isC, cval, cv, TS T, hln, hw, hms, hap] <;> rfl) rfl ?_
  refine Wo.val rfl (by simp only [MS, Nat.reduceBEq, Nat.reduceBNe, Nat.reduceEqDiff, reduceIte, if_true, if_false, reduceCtorEq, Nat.reduceAdd, Nat.reduceMul, Nat.reduceLeDiff, Nat.reduceLT, Nat.reduceDiv, Nat.reduceSub, cval, cv, TS T, hln, hw, hms, hap] <;> rfl) rfl ?_
  refine Wo.val rfl (by first | rfl | (simp only [MS, Nat.reduceBEq, Nat.reduceBNe, Nat.reduceEqDiff, reduceIte, if_true, if_false, reduceCtorEq, Nat.reduceAdd, Nat.reduceMul, Nat.reduceLeDiff, Nat.reduceLT, Nat.reduceDiv, Nat.reduceSub, TS T, hln, hw, hms, hap] <;> rfl)) rfl ?_
  refine Wo.val rfl (by simp only [MS, Nat.reduceBEq, Nat.reduceBNe, Nat.reduceEqDiff, reduceIte, if_true, if_false, reduceCtorEq, Nat.reduceAdd, Nat.reduceMul, Nat.reduceLeDiff, Nat.reduceLT, Nat.reduceDiv, Nat.reduceSub, cval, cv, TS T, hln, hw, hms, hap] <;> rfl) rfl ?_
  refine Wo.val rfl (by first | rfl | (simp only [MS, Nat.reduceBEq, Nat.reduceBNe, Nat.reduceEqDiff, reduceIte, if_true, if_false, reduceCtorEq, Nat.reduceAdd, Nat.reduceMul, Nat.reduceLeDiff, Nat.reduceLT, Nat.reduceDiv, Nat.reduceSub, cval, cv, TS T, hln, hw, hms, hap] <;> rfl)) rfl ?_
  refine Wo.nil ?_
  exact hn2 _ (Wc.ret (hr0 _ _ [_] rfl ⟨rfl, rfl⟩))
theorem S.cp30 {tb} (T : S.Ty tb) : CpT tb 25 61 [.int .i64, .int .i64] where
  sl := ⟨_, T.t25, rfl⟩
  el := ⟨_, T.t61, rfl, rfl, by decide, fun j l hj => by
    match j with
    | 0 => cases hj; exact ⟨_, rfl, 0, rfl, rfl⟩
    | 1 => cases hj; exact ⟨_, rfl, 0, rfl, rfl⟩
    | j + 2 => simp at hj⟩
  flat j l hj := by
    match j with
    | 0 => cases hj; rfl
    | 1 => cases hj; rfl
    | j + 2 => simp at hj
  pos := by simp
theorem S.f30_ok {tb fc} (T : S.Ty tb) {call call' : Caller} {lf : Nat} (hc : ∀ args h, call' (.fn 30) args h = runF tb fc call lf Tryz.f30 args h) : CopyOk call' 30 [.int .i64, .int .i64] := by
  intro G r rm h v hT hs hv
  obtain ⟨n, hln, hn, h1, h2, hms, hap, hx, hnn, hcs⟩ := copy_of (S.cp30 T) hT hs hv
  suffices H : Wf tb fc call lf Tryz.f30 [v] h (fun w h' => w = .sl h.n 0 n (some (n + 2)) 2 ∧ h' = h2) by
    obtain ⟨w, h', h1, rfl, rfl⟩ := H
    exact ⟨n, h', hn, by rw [hc]; exact h1, hx, hnn, hcs⟩
  have hw : IntKind.i64.wrap ((n : Int) + 2) = ((n + 2 : Nat) : Int) := by simp at hn; rw [wrap_i64] <;> omega
  simp only [List.length_cons, List.length_nil, Nat.zero_add, Nat.reduceAdd] at hms hap
  refine Wf.intro (sz := 9) rfl rfl fun K hn0 hr0 => ?_
  repeat refine Wc.assoc ?_
  refine Wc.seq fun K1 hn1 hx1 => ?_
  refine Wc.rg ?_
  refine Wo.val rfl (by first | rfl | (simp only [MS, Nat.reduceBEq, Nat.reduceBNe, Nat.reduceEqDiff, reduceIte, if_true, if_false, reduceCtorEq, Nat.reduceAdd, Nat.reduceMul, Nat.reduceLeDiff, Nat.reduceLT, Nat.reduceDiv, Nat.reduceSub, cval, cv, TS T] <;> rfl)) rfl ?_
  refine Wo.nil ?_
  refine hn1 _ ?_
  repeat refine Wc.assoc ?_
  refine Wc.seq fun K2 hn2 hx2 => ?_
  refine Wc.rg ?_
  refine Wo.val rfl (by first | rfl | (simp only [MS, Nat.reduceBEq, Nat.reduceBNe, Nat.reduceEqDiff, reduceIte, if_true, if_false, reduceCtorEq, Nat.reduceAdd, Nat.reduceMul, Nat.reduceLeDiff, Nat.reduceLT, Nat.reduceDiv, Nat.reduceSub, TS T, hln, hw, hms, hap] <;> rfl)) rfl ?_
  refine Wo.val rfl (by simp only [MS, Nat.reduceBEq, Nat.reduceBNe, Nat.reduceEqDiff, reduceIte, if_true, if_false, reduceCtorEq, Nat.reduceAdd, Nat.reduceMul, Nat.reduceLeDiff, Nat.reduceLT, Nat.reduceDiv, Nat.reduceSub, cval, cv, TS T, hln, hw, hms, hap] <;> rfl) rfl ?_
  refine Wo.val rfl (by simp only [MS, Nat.reduceBEq, Nat.reduceBNe, Nat.reduceEqDiff, reduceIte, if_true, if_false, reduceCtorEq, Nat.reduceAdd, Nat.reduceMul, Nat.reduceLeDiff, Nat.reduceLT, Nat.reduceDiv, Nat.reduceSub, binA, arithA, strA, isC, cval, cv, TS T, hln, hw, hms, hap] <;> rfl) rfl ?_
  refine Wo.val rfl (by simp only [MS, Nat.reduceBEq, Nat.reduceBNe, Nat.reduceEqDiff, reduceIte, if_true, if_false, reduceCtorEq, Nat.reduceAdd, Nat.reduceMul, Nat.reduceLeDiff, Nat.reduceLT, Nat.reduceDiv, Nat.reduceSub, cval, cv, TS T, hln, hw, hms, hap] <;> rfl) rfl ?_
  refine Wo.val rfl (by first | rfl | (simp only [MS, Nat.reduceBEq, Nat.reduceBNe, Nat.reduceEqDiff, reduceIte, if_true, if_false, reduceCtorEq, Nat.reduceAdd, Nat.reduceMul, Nat.reduceLeDiff, Nat.reduceLT, Nat.reduceDiv, Nat.reduceSub, TS T, hln, hw, hms, hap] <;> rfl)) rfl ?_
  refine Wo.val rfl (by simp only [MS, Nat.reduceBEq, Nat.reduceBNe, Nat.reduceEqDiff, reduceIte, if_true, if_false, reduceCtorEq, Nat.reduceAdd, Nat.reduceMul, Nat.reduceLeDiff, Nat.reduceLT, Nat.reduceDiv, Nat.reduceSub, cval, cv, TS T, hln, hw, hms, hap] <;> rfl) rfl ?_
  refine Wo.val rfl (by first | rfl | (simp only [MS, Nat.reduceBEq, Nat.reduceBNe, Nat.reduceEqDiff, reduceIte, if_true, if_false, reduceCtorEq, Nat.reduceAdd, Nat.reduceMul, Nat.reduceLeDiff, Nat.reduceLT, Nat.reduceDiv, Nat.reduceSub, cval, cv, TS T, hln, hw, hms, hap] <;> rfl)) rfl ?_
  refine Wo.nil ?_
  exact hn2 _ (Wc.ret (hr0 _ _ [_] rfl ⟨rfl, rfl⟩))
theorem S.f5_ok {tb fc} (T : S.Ty tb) {call call' : Caller} {lf : Nat} (hc : ∀ args h, call' (.fn 5) args h = runF tb fc call lf Tryz.f5 args h) (h29 : DupOk mk1 call 29 [.sl [.int .i64]]) (h30 : DupOk mk1 call 30 [.sl [.int .i64, .int .i64]]) : DupOk .agg call' 5 [.int .i64, .int .i64, .int .i64, .int .i64, .int .i64, .int .i64, .int .i64, .int .i64, .sl [.int .i64], .sl [.int .i64], .sl [.int .i64, .int .i64]] := by
  intro G r rm h xs hT hs hxl hxs
  obtain ⟨x0, x1, x2, x3, x4, x5, x6, x7, x8, x9, x10, rfl⟩ : ∃ x0 x1 x2 x3 x4 x5 x6 x7 x8 x9 x10, xs = [x0, x1, x2, x3, x4, x5, x6, x7, x8, x9, x10] := by
    match xs, hxl with
    | [_, _, _, _, _, _, _, _, _, _, _], _ => exact ⟨_, _, _, _, _, _, _, _, _, _, _, rfl⟩
  have hx0 := hxs 0 _ _ rfl rfl
  have o0 := hx0.one
  have hx1 := hxs 1 _ _ rfl rfl
  have o1 := hx1.one
  have hx2 := hxs 2 _ _ rfl rfl
  have o2 := hx2.one
  have hx3 := hxs 3 _ _ rfl rfl
  have o3 := hx3.one
  have hx4 := hxs 4 _ _ rfl rfl
  have o4 := hx4.one
  have hx5 := hxs 5 _ _ rfl rfl
  have o5 := hx5.one
  have hx6 := hxs 6 _ _ rfl rfl
  have o6 := hx6.one
  have hx7 := hxs 7 _ _ rfl rfl
  have o7 := hx7.one
  have hx8 := hxs 8 _ _ rfl rfl
  have o8 := hx8.one
  have hx9 := hxs 9 _ _ rfl rfl
  have o9 := hx9.one
  have hx10 := hxs 10 _ _ rfl rfl
  have o10 := hx10.one
  obtain ⟨H0, hH0⟩ : ∃ H0, (h.push (.blk 54 [x0, x1, x2, x3, x4, x5, x6, x7, x8, x9, x10] true)).push (.blk 54 [.i .i64 0, .i .i64 0, .i .i64 0, .i .i64 0, .i .i64 0, .i .i64 0, .i .i64 0, .i .i64 0, .nils, .nils, .nils] true) = H0 := ⟨_, rfl⟩
  have e0 : Ext h H0 := by rw [← hH0]; exact (Ext.push _ _).trans (Ext.push _ _)
  have b0 : h.n + 2 ≤ H0.n := by rw [← hH0]; simp
  have g0 : H0.get h.n = some (.blk 54 [x0, x1, x2, x3, x4, x5, x6, x7, x8, x9, x10] true) := by rw [← hH0]; simp [Hp.get_push]
  have z0 : H0.get (h.n + 1) = some (.blk 54 [.i .i64 0, .i .i64 0, .i .i64 0, .i .i64 0, .i .i64 0, .i .i64 0, .i .i64 0, .i .i64 0, .nils, .nils, .nils] true) := by rw [← hH0]; simp [Hp.get_push]
  obtain ⟨k0, ys0, D0, hc0, ex0, yl0, hD0, hy0⟩ := h29 G r rm H0 [x8] (hT.ext e0) hs rfl (fun j l y hl hy => by
    match j with
    | 0 => cases hl; cases hy; exact hx8
    | j + 1 => simp at hl)
  obtain ⟨y8, rfl⟩ : ∃ y8, ys0 = [y8] := by
    match ys0, yl0 with
    | [_], _ => exact ⟨_, rfl⟩
  have hy0_8 := fun r' => hy0 r' 0 _ _ rfl rfl
  have oy8 := (hy0_8 0).one
  have cy8 := (hy0_8 0).cl
  simp only [mk1, List.headD_cons] at hc0
  have n0 := ex0.n
  have gk0 : k0.get h.n = some (.blk 54 [x0, x1, x2, x3, x4, x5, x6, x7, x8, x9, x10] true) := by rw [ex0.old _ (by omega)]; exact g0
  have zk0 : k0.get (h.n + 1) = some (.blk 54 [.i .i64 0, .i .i64 0, .i .i64 0, .i .i64 0, .i .i64 0, .i .i64 0, .i .i64 0, .i .i64 0, .nils, .nils, .nils] true) := by rw [ex0.old _ (by omega)]; exact z0
  obtain ⟨H1, hH1⟩ : ∃ H, k0.set h.n (.blk 54 [x0, x1, x2, x3, x4, x5, x6, x7, y8, x9, x10] true) = H := ⟨_, rfl⟩
  have q1 : H1.n = k0.n := by rw [← hH1]; rfl
  have e1 : Ext h H1 := by rw [← hH1]; exact (e0.trans ex0).set (Nat.le_refl _) _
  have b1 : h.n + 2 ≤ H1.n := by omega
  have g1 : H1.get h.n = some (.blk 54 [x0, x1, x2, x3, x4, x5, x6, x7, y8, x9, x10] true) := by rw [← hH1]; exact Hp.get_set_self _ _ _
  have z1 : H1.get (h.n + 1) = some (.blk 54 [.i .i64 0, .i .i64 0, .i .i64 0, .i .i64 0, .i .i64 0, .i .i64 0, .i .i64 0, .i .i64 0, .nils, .nils, .nils] true) := by rw [← hH1, Hp.get_set_ne _ _ (by omega)]; exact zk0
  have F0_1 : ∀ p ∈ D0, FlatAt H1 p ∧ H0.n ≤ p.1 ∧ p.1 < H1.n := fun p hp => by
    have h1 := hD0 p hp
    exact ⟨by rw [← hH1]; exact h1.1.set (by have := h1.2; omega), h1.2, by rw [q1]; exact h1.1.1⟩
  obtain ⟨k1, ys1, D1, hc1, ex1, yl1, hD1, hy1⟩ := h29 G r rm H1 [x9] (hT.ext e1) hs rfl (fun j l y hl hy => by
    match j with
    | 0 => cases hl; cases hy; exact hx9
    | j + 1 => simp at hl)
  obtain ⟨y9, rfl⟩ : ∃ y9, ys1 = [y9] := by
    match ys1, yl1 with
    | [_], _ => exact ⟨_, rfl⟩
  have hy1_9 := fun r' => hy1 r' 0 _ _ rfl rfl
  have oy9 := (hy1_9 0).one
  have cy9 := (hy1_9 0).cl
  simp only [mk1, List.headD_cons] at hc1
  have n1 := ex1.n
  have gk1 : k1.get h.n = some (.blk 54 [x0, x1, x2, x3, x4, x5, x6, x7, y8, x9, x10] true) := by rw [ex1.old _ (by omega)]; exact g1
  have zk1 : k1.get (h.n + 1) = some (.blk 54 [.i .i64 0, .i .i64 0, .i .i64 0, .i .i64 0, .i .i64 0, .i .i64 0, .i .i64 0, .i .i64 0, .nils, .nils, .nils] true) := by rw [ex1.old _ (by omega)]; exact z1
  obtain ⟨H2, hH2⟩ : ∃ H, k1.set h.n (.blk 54 [x0, x1, x2, x3, x4, x5, x6, x7, y8, y9, x10] true) = H := ⟨_, rfl⟩
  have q2 : H2.n = k1.n := by rw [← hH2]; rfl
  have e2 : Ext h H2 := by rw [← hH2]; exact (e1.trans ex1).set (Nat.le_refl _) _
  have b2 : h.n + 2 ≤ H2.n := by omega
  have g2 : H2.get h.n = some (.blk 54 [x0, x1, x2, x3, x4, x5, x6, x7, y8, y9, x10] true) := by rw [← hH2]; exact Hp.get_set_self _ _ _
  have z2 : H2.get (h.n + 1) = some (.blk 54 [.i .i64 0, .i .i64 0, .i .i64 0, .i .i64 0, .i .i64 0, .i .i64 0, .i .i64 0, .i .i64 0, .nils, .nils, .nils] true) := by rw [← hH2, Hp.get_set_ne _ _ (by omega)]; exact zk1
  have F1_2 : ∀ p ∈ D1, FlatAt H2 p ∧ H1.n ≤ p.1 ∧ p.1 < H2.n := fun p hp => by
    have h1 := hD1 p hp
    exact ⟨by rw [← hH2]; exact h1.1.set (by have := h1.2; omega), h1.2, by rw [q2]; exact h1.1.1⟩
  have F0_2 : ∀ p ∈ D0, FlatAt H2 p ∧ H0.n ≤ p.1 ∧ p.1 < H1.n := fun p hp => by
    have h1 := F0_1 p hp
    exact ⟨by rw [← hH2]; exact (h1.1.ext ex1).set (by have := h1.2.1; omega), h1.2.1, h1.2.2⟩
  obtain ⟨k2, ys2, D2, hc2, ex2, yl2, hD2, hy2⟩ := h30 G r rm H2 [x10] (hT.ext e2) hs rfl (fun j l y hl hy => by
    match j with
    | 0 => cases hl; cases hy; exact hx10
    | j + 1 => simp at hl)
  obtain ⟨y10, rfl⟩ : ∃ y10, ys2 = [y10] := by
    match ys2, yl2 with
    | [_], _ => exact ⟨_, rfl⟩
  have hy2_10 := fun r' => hy2 r' 0 _ _ rfl rfl
  have oy10 := (hy2_10 0).one
  have cy10 := (hy2_10 0).cl
  simp only [mk1, List.headD_cons] at hc2
  have n2 := ex2.n
  have gk2 : k2.get h.n = some (.blk 54 [x0, x1, x2, x3, x4, x5, x6, x7, y8, y9, x10] true) := by rw [ex2.old _ (by omega)]; exact g2
  have zk2 : k2.get (h.n + 1) = some (.blk 54 [.i .i64 0, .i .i64 0, .i .i64 0, .i .i64 0, .i .i64 0, .i .i64 0, .i .i64 0, .i .i64 0, .nils, .nils, .nils] true) := by rw [ex2.old _ (by omega)]; exact z2
  obtain ⟨H3, hH3⟩ : ∃ H, k2.set h.n (.blk 54 [x0, x1, x2, x3, x4, x5, x6, x7, y8, y9, y10] true) = H := ⟨_, rfl⟩
  have q3 : H3.n = k2.n := by rw [← hH3]; rfl
  have e3 : Ext h H3 := by rw [← hH3]; exact (e2.trans ex2).set (Nat.le_refl _) _
  have b3 : h.n + 2 ≤ H3.n := by omega
  have g3 : H3.get h.n = some (.blk 54 [x0, x1, x2, x3, x4, x5, x6, x7, y8, y9, y10] true) := by rw [← hH3]; exact Hp.get_set_self _ _ _
  have z3 : H3.get (h.n + 1) = some (.blk 54 [.i .i64 0, .i .i64 0, .i .i64 0, .i .i64 0, .i .i64 0, .i .i64 0, .i .i64 0, .i .i64 0, .nils, .nils, .nils] true) := by rw [← hH3, Hp.get_set_ne _ _ (by omega)]; exact zk2
  have F2_3 : ∀ p ∈ D2, FlatAt H3 p ∧ H2.n ≤ p.1 ∧ p.1 < H3.n := fun p hp => by
    have h1 := hD2 p hp
    exact ⟨by rw [← hH3]; exact h1.1.set (by have := h1.2; omega), h1.2, by rw [q3]; exact h1.1.1⟩
  have F0_3 : ∀ p ∈ D0, FlatAt H3 p ∧ H0.n ≤ p.1 ∧ p.1 < H1.n := fun p hp => by
    have h1 := F0_2 p hp
    exact ⟨by rw [← hH3]; exact (h1.1.ext ex2).set (by have := h1.2.1; omega), h1.2.1, h1.2.2⟩
  have F1_3 : ∀ p ∈ D1, FlatAt H3 p ∧ H1.n ≤ p.1 ∧ p.1 < H2.n := fun p hp => by
    have h1 := F1_2 p hp
    exact ⟨by rw [← hH3]; exact (h1.1.ext ex2).set (by have := h1.2.1; omega), h1.2.1, h1.2.2⟩
  suffices H : Wf tb fc call lf Tryz.f5 [.agg [x0, x1, x2, x3, x4, x5, x6, x7, x8, x9, x10]] h (fun w h' => w = .agg [x0, x1, x2, x3, x4, x5, x6, x7, y8, y9, y10] ∧ h' = H3.set (h.n + 1) (.blk 54 [x0, x1, x2, x3, x4, x5, x6, x7, y8, y9, y10] true)) by
    obtain ⟨w, h', h1, rfl, rfl⟩ := H
    have exx : Ext h (H3.set (h.n + 1) (.blk 54 [x0, x1, x2, x3, x4, x5, x6, x7, y8, y9, y10] true)) := e3.set (by omega) _
    have X3 : ∀ p ∈ ([] : List (Nat × List Lf)), H3.n ≤ p.1 := fun p hp => by simp at hp
    have X2 : ∀ p ∈ D2 ++ ([]), H2.n ≤ p.1 := all_app (fun p hp => (F2_3 p hp).2.1) (fun p hp => Nat.le_trans (by omega) (X3 p hp))
    have X1 : ∀ p ∈ D1 ++ (D2 ++ ([])), H1.n ≤ p.1 := all_app (fun p hp => (F1_3 p hp).2.1) (fun p hp => Nat.le_trans (by omega) (X2 p hp))
    have X0 : ∀ p ∈ D0 ++ (D1 ++ (D2 ++ ([]))), H0.n ≤ p.1 := all_app (fun p hp => (F0_3 p hp).2.1) (fun p hp => Nat.le_trans (by omega) (X1 p hp))
    refine ⟨_, [x0, x1, x2, x3, x4, x5, x6, x7, y8, y9, y10], D0 ++ (D1 ++ (D2 ++ ([]))), by rw [hc]; exact h1, exx, rfl, fun p hp => ⟨?_, Nat.le_trans (by omega) (X0 p hp)⟩, fun r' j l y hl hy => ?_⟩
    · revert p
      refine all_app (fun p hp => (F0_3 p hp).1.set (by have := (F0_3 p hp).2.1; omega)) ?_
      refine all_app (fun p hp => (F1_3 p hp).1.set (by have := (F1_3 p hp).2.1; omega)) ?_
      refine all_app (fun p hp => (F2_3 p hp).1.set (by have := (F2_3 p hp).2.1; omega)) ?_
      intro p hp; simp at hp
    · match j with
      | 0 => cases hl; cases hy; exact hx0.flat rfl
      | 1 => cases hl; cases hy; exact hx1.flat rfl
      | 2 => cases hl; cases hy; exact hx2.flat rfl
      | 3 => cases hl; cases hy; exact hx3.flat rfl
      | 4 => cases hl; cases hy; exact hx4.flat rfl
      | 5 => cases hl; cases hy; exact hx5.flat rfl
      | 6 => cases hl; cases hy; exact hx6.flat rfl
      | 7 => cases hl; cases hy; exact hx7.flat rfl
      | 8 => cases hl; cases hy; exact addOwn_left (hy0_8 r')
      | 9 => cases hl; cases hy; exact addOwn_skip (m := H1.n) (fun p hp => (F0_3 p hp).2.2) X1 (addOwn_left (hy1_9 r'))
      | 10 => cases hl; cases hy; exact addOwn_skip (m := H1.n) (fun p hp => (F0_3 p hp).2.2) X1 (addOwn_skip (m := H2.n) (fun p hp => (F1_3 p hp).2.2) X2 (addOwn_left (hy2_10 r')))
      | j + 11 => simp at hl
  have hne : h.n ≠ h.n + 1 := by omega
  have hne' : h.n + 1 ≠ h.n := by omega
  refine Wf.intro (sz := 16) rfl rfl fun K hn0 hr0 => ?_
  repeat refine Wc.assoc ?_
  refine Wc.seq fun K1 hnn1 hx1' => ?_
  refine Wc.rg ?_
  refine Wo.val rfl (by simp only [MS, Nat.reduceBEq, Nat.reduceBNe, Nat.reduceEqDiff, reduceIte, if_true, if_false, reduceCtorEq, Nat.reduceAdd, Nat.reduceMul, Nat.reduceLeDiff, Nat.reduceLT, Nat.reduceDiv, Nat.reduceSub, cval, cv, TS T] <;> rfl) rfl ?_
  refine Wo.val rfl (by simp only [MS, Nat.reduceBEq, Nat.reduceBNe, Nat.reduceEqDiff, reduceIte, if_true, if_false, reduceCtorEq, Nat.reduceAdd, Nat.reduceMul, Nat.reduceLeDiff, Nat.reduceLT, Nat.reduceDiv, Nat.reduceSub, TI.zero, TS T] <;> rfl) rfl ?_
  refine Wo.nil ?_
  refine hnn1 _ ?_
  rw [hH0]
  repeat refine Wc.assoc ?_
  refine Wc.seq fun K2 hnn2 hxx2 => ?_
  refine Wc.rg ?_
  refine Wo.val rfl (by simp only [MS, Nat.reduceBEq, Nat.reduceBNe, Nat.reduceEqDiff, reduceIte, if_true, if_false, reduceCtorEq, Nat.reduceAdd, Nat.reduceMul, Nat.reduceLeDiff, Nat.reduceLT, Nat.reduceDiv, Nat.reduceSub, TS T, g0] <;> rfl) rfl ?_
  refine Wo.val rfl (by simp only [MS, Nat.reduceBEq, Nat.reduceBNe, Nat.reduceEqDiff, reduceIte, if_true, if_false, reduceCtorEq, Nat.reduceAdd, Nat.reduceMul, Nat.reduceLeDiff, Nat.reduceLT, Nat.reduceDiv, Nat.reduceSub, loadA, partV, TS T, g0] <;> rfl) rfl ?_
  refine Wo.cl rfl rfl rfl (by first | rfl | (simp only [MS, Nat.reduceBEq, Nat.reduceBNe, Nat.reduceEqDiff, reduceIte, if_true, if_false, reduceCtorEq, Nat.reduceAdd, Nat.reduceMul, Nat.reduceLeDiff, Nat.reduceLT, Nat.reduceDiv, Nat.reduceSub, cval, cv, TS T, g0] <;> rfl)) (by first | rfl | (simp only [MS, Nat.reduceBEq, Nat.reduceBNe, Nat.reduceEqDiff, reduceIte, if_true, if_false, reduceCtorEq, Nat.reduceAdd, Nat.reduceMul, Nat.reduceLeDiff, Nat.reduceLT, Nat.reduceDiv, Nat.reduceSub, cval, cv, TS T, g0] <;> rfl)) (fun _ => rfl) ?_
  refine ⟨_, k0, hc0, ?_⟩
  refine Wo.val rfl (by simp only [MS, Nat.reduceBEq, Nat.reduceBNe, Nat.reduceEqDiff, reduceIte, if_true, if_false, reduceCtorEq, Nat.reduceAdd, Nat.reduceMul, Nat.reduceLeDiff, Nat.reduceLT, Nat.reduceDiv, Nat.reduceSub, TS T, gk0, oy8, cy8, and_self, true_and] <;> rfl) rfl ?_
  refine Wo.val rfl (by simp only [MS, Nat.reduceBEq, Nat.reduceBNe, Nat.reduceEqDiff, reduceIte, if_true, if_false, reduceCtorEq, Nat.reduceAdd, Nat.reduceMul, Nat.reduceLeDiff, Nat.reduceLT, Nat.reduceDiv, Nat.reduceSub, storeA, setAll, TI.zero, cval, cv, TS T, gk0, oy8, cy8, and_self, true_and] <;> rfl) rfl ?_
  refine Wo.nil ?_
  refine hnn2 _ ?_
  rw [hH1]
  repeat refine Wc.assoc ?_
  refine Wc.seq fun K3 hnn3 hxx3 => ?_
  refine Wc.rg ?_
  refine Wo.val rfl (by simp only [MS, Nat.reduceBEq, Nat.reduceBNe, Nat.reduceEqDiff, reduceIte, if_true, if_false, reduceCtorEq, Nat.reduceAdd, Nat.reduceMul, Nat.reduceLeDiff, Nat.reduceLT, Nat.reduceDiv, Nat.reduceSub, TS T, g1] <;> rfl) rfl ?_
  refine Wo.val rfl (by simp only [MS, Nat.reduceBEq, Nat.reduceBNe, Nat.reduceEqDiff, reduceIte, if_true, if_false, reduceCtorEq, Nat.reduceAdd, Nat.reduceMul, Nat.reduceLeDiff, Nat.reduceLT, Nat.reduceDiv, Nat.reduceSub, loadA, partV, TS T, g1] <;> rfl) rfl ?_
  refine Wo.cl rfl rfl rfl (by first | rfl | (simp only [MS, Nat.reduceBEq, Nat.reduceBNe, Nat.reduceEqDiff, reduceIte, if_true, if_false, reduceCtorEq, Nat.reduceAdd, Nat.reduceMul, Nat.reduceLeDiff, Nat.reduceLT, Nat.reduceDiv, Nat.reduceSub, cval, cv, TS T, g1] <;> rfl)) (by first | rfl | (simp only [MS, Nat.reduceBEq, Nat.reduceBNe, Nat.reduceEqDiff, reduceIte, if_true, if_false, reduceCtorEq, Nat.reduceAdd, Nat.reduceMul, Nat.reduceLeDiff, Nat.reduceLT, Nat.reduceDiv, Nat.reduceSub, cval, cv, TS T, g1] <;> rfl)) (fun _ => rfl) ?_
  refine ⟨_, k1, hc1, ?_⟩
  refine Wo.val rfl (by simp only [MS, Nat.reduceBEq, Nat.reduceBNe, Nat.reduceEqDiff, reduceIte, if_true, if_false, reduceCtorEq, Nat.reduceAdd, Nat.reduceMul, Nat.reduceLeDiff, Nat.reduceLT, Nat.reduceDiv, Nat.reduceSub, TS T, gk1, oy9, cy9, and_self, true_and] <;> rfl) rfl ?_
  refine Wo.val rfl (by simp only [MS, Nat.reduceBEq, Nat.reduceBNe, Nat.reduceEqDiff, reduceIte, if_true, if_false, reduceCtorEq, Nat.reduceAdd, Nat.reduceMul, Nat.reduceLeDiff, Nat.reduceLT, Nat.reduceDiv, Nat.reduceSub, storeA, setAll, TI.zero, cval, cv, TS T, gk1, oy9, cy9, and_self, true_and] <;> rfl) rfl ?_
  refine Wo.nil ?_
  refine hnn3 _ ?_
  rw [hH2]
  repeat refine Wc.assoc ?_
  refine Wc.seq fun K4 hnn4 hxx4 => ?_
  refine Wc.rg ?_
  refine Wo.val rfl (by simp only [MS, Nat.reduceBEq, Nat.reduceBNe, Nat.reduceEqDiff, reduceIte, if_true, if_false, reduceCtorEq, Nat.reduceAdd, Nat.reduceMul, Nat.reduceLeDiff, Nat.reduceLT, Nat.reduceDiv, Nat.reduceSub, TS T, g2] <;> rfl) rfl ?_
  refine Wo.val rfl (by simp only [MS, Nat.reduceBEq, Nat.reduceBNe, Nat.reduceEqDiff, reduceIte, if_true, if_false, reduceCtorEq, Nat.reduceAdd, Nat.reduceMul, Nat.reduceLeDiff, Nat.reduceLT, Nat.reduceDiv, Nat.reduceSub, loadA, partV, TS T, g2] <;> rfl) rfl ?_
  refine Wo.cl rfl rfl rfl (by first | rfl | (simp only [MS, Nat.reduceBEq, Nat.reduceBNe, Nat.reduceEqDiff, reduceIte, if_true, if_false, reduceCtorEq, Nat.reduceAdd, Nat.reduceMul, Nat.reduceLeDiff, Nat.reduceLT, Nat.reduceDiv, Nat.reduceSub, cval, cv, TS T, g2] <;> rfl)) (by first | rfl | (simp only [MS, Nat.reduceBEq, Nat.reduceBNe, Nat.reduceEqDiff, reduceIte, if_true, if_false, reduceCtorEq, Nat.reduceAdd, Nat.reduceMul, Nat.reduceLeDiff, Nat.reduceLT, Nat.reduceDiv, Nat.reduceSub, cval, cv, TS T, g2] <;> rfl)) (fun _ => rfl) ?_
  refine ⟨_, k2, hc2, ?_⟩
  refine Wo.val rfl (by simp only [MS, Nat.reduceBEq, Nat.reduceBNe, Nat.reduceEqDiff, reduceIte, if_true, if_false, reduceCtorEq, Nat.reduceAdd, Nat.reduceMul, Nat.reduceLeDiff, Nat.reduceLT, Nat.reduceDiv, Nat.reduceSub, TS T, gk2, oy10, cy10, and_self, true_and] <;> rfl) rfl ?_
  refine Wo.val rfl (by simp only [MS, Nat.reduceBEq, Nat.reduceBNe, Nat.reduceEqDiff, reduceIte, if_true, if_false, reduceCtorEq, Nat.reduceAdd, Nat.reduceMul, Nat.reduceLeDiff, Nat.reduceLT, Nat.reduceDiv, Nat.reduceSub, storeA, setAll, TI.zero, cval, cv, TS T, gk2, oy10, cy10, and_self, true_and] <;> rfl) rfl ?_
  refine Wo.nil ?_
  refine hnn4 _ ?_
  rw [hH3]
  repeat refine Wc.assoc ?_
  refine Wc.seq fun K5 hnn5 hxx5 => ?_
  refine Wc.rg ?_
  refine Wo.val rfl (by simp only [MS, Nat.reduceBEq, Nat.reduceBNe, Nat.reduceEqDiff, reduceIte, if_true, if_false, reduceCtorEq, Nat.reduceAdd, Nat.reduceMul, Nat.reduceLeDiff, Nat.reduceLT, Nat.reduceDiv, Nat.reduceSub, loadA, partV, TS T, g3, z3, hne, hne', o0, o1, o2, o3, o4, o5, o6, o7, oy8, oy9, oy10, and_self, true_and] <;> rfl) rfl ?_
  refine Wo.val rfl (by simp only [MS, Nat.reduceBEq, Nat.reduceBNe, Nat.reduceEqDiff, reduceIte, if_true, if_false, reduceCtorEq, Nat.reduceAdd, Nat.reduceMul, Nat.reduceLeDiff, Nat.reduceLT, Nat.reduceDiv, Nat.reduceSub, storeA, setAll, TI.zero, cval, cv, TS T, g3, z3, hne, hne', o0, o1, o2, o3, o4, o5, o6, o7, oy8, oy9, oy10, and_self, true_and] <;> rfl) rfl ?_
  refine Wo.nil ?_
  refine hnn5 _ (Wc.ret (hr0 _ _ [.agg [x0, x1, x2, x3, x4, x5, x6, x7, y8, y9, y10]] ?_ ⟨rfl, rfl⟩))
  simp [Tryz.f5, resA, look, loadA, T.t27, partV]
end Go.Mx
