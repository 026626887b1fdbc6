/- The functions that see, copy, compare. -/
import Derived.KernelRfl
import Derived.Test.YtlealajlicgddaaGreatDoorKi
set_option linter.all false
/- What the seat's types are. -/
namespace Go.Mx
open Go.Proofs
noncomputable def S.d24 : TypeDesc := ((S.tb 24).map (·.d)).getD .bool
noncomputable def S.d32 : TypeDesc := ((S.tb 32).map (·.d)).getD .bool
noncomputable def S.d38 : TypeDesc := ((S.tb 38).map (·.d)).getD .bool
noncomputable def S.d50 : TypeDesc := ((S.tb 50).map (·.d)).getD .bool
structure S.Ty (tb : Nat → Option TI) : Prop where
  t3 : tb 3 = some ⟨.int .i64, 1, 8, .i .i64 0, false, true, true⟩
  t4 : tb 4 = some ⟨.bool, 1, 1, .b false, false, true, true⟩
  t9 : tb 9 = some ⟨.string, 1, 16, .s [], false, true, true⟩
  t22 : tb 22 = some ⟨.slice 3, 1, 24, .nils, false, true, false⟩
  t24 : tb 24 = some ⟨S.d24, 8, 96, .agg [.nils, .i .i64 0, .i .i64 0, .i .i64 0, .i .i64 0, .i .i64 0, .i .i64 0, .nils], true, true, false⟩
  fa24_0 (b o) : fieldAddrA tb 24 (.p b o) 0 = some (.p b (o + 0))
  fa24_1 (b o) : fieldAddrA tb 24 (.p b o) 1 = some (.p b (o + 1))
  fa24_2 (b o) : fieldAddrA tb 24 (.p b o) 2 = some (.p b (o + 2))
  fa24_3 (b o) : fieldAddrA tb 24 (.p b o) 3 = some (.p b (o + 3))
  fa24_4 (b o) : fieldAddrA tb 24 (.p b o) 4 = some (.p b (o + 4))
  fa24_5 (b o) : fieldAddrA tb 24 (.p b o) 5 = some (.p b (o + 5))
  fa24_6 (b o) : fieldAddrA tb 24 (.p b o) 6 = some (.p b (o + 6))
  fa24_7 (b o) : fieldAddrA tb 24 (.p b o) 7 = some (.p b (o + 7))
  t29 : tb 29 = some ⟨.slice 38, 1, 24, .nils, false, true, false⟩
  t32 : tb 32 = some ⟨S.d32, 1, 8, .nilf, false, true, false⟩
  t38 : tb 38 = some ⟨S.d38, 1, 8, .nilf, false, true, false⟩
  t45 : tb 45 = some ⟨.slice 32, 1, 24, .nils, false, true, false⟩
  t48 : tb 48 = some ⟨.slice 9, 1, 24, .nils, false, true, false⟩
  t50 : tb 50 = some ⟨S.d50, 5, 72, .agg [.nils, .nils, .b false, .i .i64 0, .b false], true, true, false⟩
  fa50_0 (b o) : fieldAddrA tb 50 (.p b o) 0 = some (.p b (o + 0))
  fa50_1 (b o) : fieldAddrA tb 50 (.p b o) 1 = some (.p b (o + 1))
  fa50_2 (b o) : fieldAddrA tb 50 (.p b o) 2 = some (.p b (o + 2))
  fa50_3 (b o) : fieldAddrA tb 50 (.p b o) 3 = some (.p b (o + 3))
  fa50_4 (b o) : fieldAddrA tb 50 (.p b o) 4 = some (.p b (o + 4))
  t51 : tb 51 = some ⟨.slice 50, 1, 24, .nils, false, true, false⟩
set_option maxRecDepth 100000
theorem S.ty : S.Ty S.tb where
  t3 := by kernel_rfl
  t4 := by kernel_rfl
  t9 := by kernel_rfl
  t22 := by kernel_rfl
  t24 := by kernel_rfl
  fa24_0 _ _ := by kernel_rfl
  fa24_1 _ _ := by kernel_rfl
  fa24_2 _ _ := by kernel_rfl
  fa24_3 _ _ := by kernel_rfl
  fa24_4 _ _ := by kernel_rfl
  fa24_5 _ _ := by kernel_rfl
  fa24_6 _ _ := by kernel_rfl
  fa24_7 _ _ := by kernel_rfl
  t29 := by kernel_rfl
  t32 := by kernel_rfl
  t38 := by kernel_rfl
  t45 := by kernel_rfl
  t48 := by kernel_rfl
  t50 := by kernel_rfl
  fa50_0 _ _ := by kernel_rfl
  fa50_1 _ _ := by kernel_rfl
  fa50_2 _ _ := by kernel_rfl
  fa50_3 _ _ := by kernel_rfl
  fa50_4 _ _ := by kernel_rfl
  t51 := by kernel_rfl
theorem S.Ty.n {tb} (T : S.Ty tb) : ElT tb 22 3 := ⟨⟨_, T.t22, rfl⟩, ⟨_, T.t3, rfl, rfl, by decide⟩⟩
theorem S.Ty.s {tb} (T : S.Ty tb) : ElT tb 48 9 := ⟨⟨_, T.t48, rfl⟩, ⟨_, T.t9, rfl, rfl, by decide⟩⟩
theorem TS {tb} (T : S.Ty tb) : type_of% (And.intro T.t3 <| And.intro T.t4 <| And.intro T.t9 <| And.intro T.t22 <| And.intro T.t24 <| And.intro T.fa24_0 <| And.intro T.fa24_1 <| And.intro T.fa24_2 <| And.intro T.fa24_3 <| And.intro T.fa24_4 <| And.intro T.fa24_5 <| And.intro T.fa24_6 <| And.intro T.fa24_7 <| And.intro T.t29 <| And.intro T.t32 <| And.intro T.t38 <| And.intro T.t45 <| And.intro T.t48 <| And.intro T.t50 <| And.intro T.fa50_0 <| And.intro T.fa50_1 <| And.intro T.fa50_2 <| And.intro T.fa50_3 <| And.intro T.fa50_4 T.t51) :=
  And.intro T.t3 <| And.intro T.t4 <| And.intro T.t9 <| And.intro T.t22 <| And.intro T.t24 <| And.intro T.fa24_0 <| And.intro T.fa24_1 <| And.intro T.fa24_2 <| And.intro T.fa24_3 <| And.intro T.fa24_4 <| And.intro T.fa24_5 <| And.intro T.fa24_6 <| And.intro T.fa24_7 <| And.intro T.t29 <| And.intro T.t32 <| And.intro T.t38 <| And.intro T.t45 <| And.intro T.t48 <| And.intro T.t50 <| And.intro T.fa50_0 <| And.intro T.fa50_1 <| And.intro T.fa50_2 <| And.intro T.fa50_3 <| And.intro T.fa50_4 T.t51
end Go.Mx

namespace Go.Mx
open Go.Proofs
structure S.Bd (tb : Nat → Option TI) : Prop where
  r : buildA tb 50 [(4, .b true)] = some (.agg [.nils, .nils, .b false, .i .i64 0, .b true])
  m : buildA tb 50 [(2, .b true), (4, .b true)] = some (.agg [.nils, .nils, .b true, .i .i64 0, .b true])
  k (n : Int) : buildA tb 50 [(2, .b true), (3, .i .i64 n)] = some (.agg [.nils, .nils, .b true, .i .i64 n, .b false])
set_option maxRecDepth 100000
theorem S.bd : S.Bd S.tb where
  r := by kernel_rfl
  m := by kernel_rfl
  k _ := by kernel_rfl
end Go.Mx

/- num[int] of the seat: it sees a number. -/
namespace Go.Mx
open Go.Proofs
set_option maxRecDepth 100000
theorem S.fnum_ok {tb fc} (T : S.Ty tb) {call call' : Caller} {lf : Nat} (hc : ∀ args h, call' (.fn 32) args h = runF tb fc call lf Tryz.f32 args h) : SeeOk 3 9 call' 32 [.int .i64] := by
  intro G h eb eo E xb xo t P hxb hl hlen
  obtain ⟨hxlt, xty, xc, xrw, hx, hxl, hxw, hxok⟩ := P.ok.blk xb t hxb
  obtain ⟨ty, cs, he, e0, e1, e2, e3, e4⟩ := P.eye.blk
  have hlt := P.eye.lt
  have hl0 := hl 0 _ rfl
  rw [Nat.add_zero] at hl0
  have hxo : xo < xc.length := by rw [hxl]; exact (List.getElem?_eq_some_iff.1 hl0).1
  obtain ⟨n, hn, hnw⟩ := hxok xo _ _ hl0 (List.getElem?_eq_getElem hxo)
  have x0 : xc[xo]? = some (.i .i64 n) := by rw [List.getElem?_eq_getElem hxo, hn]
  have hne : xb ≠ eb := fun e => by rw [e, P.geb] at hxb; cases hxb
  suffices H : Wf tb fc call lf Tryz.f32 [.p eb eo, .p xb xo] h (fun v h' => v = .tup [] ∧ ∃ E', Post1 3 9 G t.reg h h' eb eo E E' (wides [.int .i64]) ∧ (E.mark = false → (E'.ns, E'.ss) = flats h E.rm [.int .i64] ((cellsOf h xb).drop xo) (E.ns, E.ss))) by
    obtain ⟨v, h', h1, rfl, E', h2, h3⟩ := H
    exact ⟨h', E', by rw [hc]; exact h1, h2, h3⟩
  refine Wf.intro (sz := 33) rfl rfl fun K hn0 hr0 => ?_
  repeat refine Wc.assoc ?_
  refine Wc.seq fun K1 hn1 hx1 => ?_
  refine Wc.rg ?_
  refine Wo.val rfl (by first | rfl | (simp only [MS, Nat.reduceBEq, Nat.reduceBNe, Nat.reduceEqDiff, reduceIte, if_true, if_false, reduceCtorEq, Nat.reduceAdd, Nat.reduceMul, Nat.reduceLeDiff, Nat.reduceLT, Nat.reduceDiv, Nat.reduceSub, TS T, he, e2] <;> rfl)) rfl ?_
  refine Wo.val rfl (by first | rfl | (simp only [MS, Nat.reduceBEq, Nat.reduceBNe, Nat.reduceEqDiff, reduceIte, if_true, if_false, reduceCtorEq, Nat.reduceAdd, Nat.reduceMul, Nat.reduceLeDiff, Nat.reduceLT, Nat.reduceDiv, Nat.reduceSub, okCheck, TS T, he, e2] <;> rfl)) rfl ?_
  refine Wo.val rfl (by simp only [MS, Nat.reduceBEq, Nat.reduceBNe, Nat.reduceEqDiff, reduceIte, if_true, if_false, reduceCtorEq, Nat.reduceAdd, Nat.reduceMul, Nat.reduceLeDiff, Nat.reduceLT, Nat.reduceDiv, Nat.reduceSub, TS T, he, e2] <;> rfl) rfl ?_
  refine Wo.val rfl (by simp only [MS, Nat.reduceBEq, Nat.reduceBNe, Nat.reduceEqDiff, reduceIte, if_true, if_false, reduceCtorEq, Nat.reduceAdd, Nat.reduceMul, Nat.reduceLeDiff, Nat.reduceLT, Nat.reduceDiv, Nat.reduceSub, loadA, partV, TS T, he, e2] <;> rfl) rfl ?_
  refine Wo.nil ?_
  refine hn1 _ ?_
  refine Wc.seq fun K2 hn2 hx2 => ?_
  have tail : ∀ fr h1 E1 m, look fr 0 = some (.p eb eo) → look fr 1 = some (.p xb xo) → Pre 3 9 G t.reg t.rm h1 eb eo E1 → Post1 3 9 G t.reg h h1 eb eo E E1 0 → E1.ns = E.ns → E1.ss = E.ss → (∃ xc', h1.get xb = some (.blk xty xc' xrw) ∧ xc'[xo]? = some (.i .i64 m)) → (E.mark = false → m = n) → K2 .normal ⟨fr, [], h1⟩ := by
    intro fr h1 E1 m f0 f1 P1 S1 hns hss hxm hm
    refine hn2 _ ?_
    obtain ⟨xc', hx', x0'⟩ := hxm
    obtain ⟨ty1, cs1, he1, e10, e11, e12, e13, e14⟩ := P1.eye.blk
    have hlt1 := P1.eye.lt
    have hxlt1 := (P1.ok.blk xb t hxb).1
    have hbs := buildSlice_one T.n h1 (v := .i .i64 m) rfl
    obtain ⟨nv', h2, ha, hs2, hn2', hp2, ho2⟩ := SlAt.app (h := h1.push (.blk 6 [.i .i64 m] true)) T.n (x := .i .i64 m) (xb := h1.n) (xt := 6) (xw := true) (P1.eye.n.same (by simp) fun b hb => Hp.get_push_ne _ _ (by have := P1.eye.n.lt hb; omega)) (by simp) rfl (by have := S1.len; simp; rw [hns]; simp [wides, wide1] at hlen; omega)
    have hge : h2.get eb = some (.blk ty1 cs1 true) := by
      rw [ho2 eb (by simp; omega) (fun e => P1.eye.ne (.inl e)), Hp.get_push_ne _ _ (by omega)]; exact he1
    have hel : eo + 5 ≤ cs1.length := by
      have := (List.getElem?_eq_some_iff.1 e14).1; omega
    have hen : eb ≠ h1.n := by omega
    have hxn : xb ≠ h1.n := by omega
    have hvq := P1.eye.n.vbeq
    obtain ⟨hcl, hone⟩ := hs2.cl
    have hel1 : eo + 1 ≤ cs1.length := by omega
    have hgx : h2.get xb = some (.blk xty xc' xrw) := by
      rw [ho2 xb (by simp; omega) (fun e => by rw [P1.gpr xb (.inl e)] at hxb; cases hxb), Hp.get_push_ne _ _ hxn]; exact hx'
    refine Wc.drawn [.p 0 [21, 22, 23, 24, 25, 26, 27, 28, 29, 30, 31, 32] none, .p 1 [21, 22, 23, 24, 25, 26, 27, 28, 29, 31, 32] none, .p 2 [21, 23, 24, 25, 26, 27, 28, 29, 31, 32] none, .p 3 [21, 24, 25, 26, 27, 28, 29, 31, 32] none, .p 4 [21, 25, 26, 27, 28, 29, 31, 32] none, .p 5 [21, 22, 23, 24, 25, 26, 27, 28, 31, 32] none, .p 6 [21, 22, 23, 24, 25, 27, 28, 31, 32] none, .p 7 [21, 22, 23, 24, 25, 28, 31, 32] none, .e 8 [21, 22, 23, 24, 25, 29, 31, 32] none 224, .e 9 [21, 30, 31, 32] none 510, .p 10 [31, 32] none, .p 11 [32] none, .e 12 [] none 4095] (by kernel_rfl) ?_
    refine Wz.v rfl rfl rfl (by first | rfl | (simp only [MS, Nat.reduceBEq, Nat.reduceBNe, Nat.reduceEqDiff, reduceIte, if_true, if_false, reduceCtorEq, Nat.reduceAdd, Nat.reduceMul, Nat.reduceLeDiff, Nat.reduceLT, Nat.reduceDiv, Nat.reduceSub, evR, List.contains, List.elem, TS T, he1, e10, e11, e12, hx', x0', f0, f1, hbs, ha, hge, hen, hxn, hvq, hgx, hcl, hone, hel1, and_self, true_and] <;> rfl)) rfl ?_
    refine Wz.v rfl rfl rfl (by first | rfl | (simp only [MS, Nat.reduceBEq, Nat.reduceBNe, Nat.reduceEqDiff, reduceIte, if_true, if_false, reduceCtorEq, Nat.reduceAdd, Nat.reduceMul, Nat.reduceLeDiff, Nat.reduceLT, Nat.reduceDiv, Nat.reduceSub, evR, List.contains, List.elem, TS T, he1, e10, e11, e12, hx', x0', f0, f1, hbs, ha, hge, hen, hxn, hvq, hgx, hcl, hone, hel1, and_self, true_and] <;> rfl)) rfl ?_
    refine Wz.v rfl rfl rfl (by first | rfl | (simp only [MS, Nat.reduceBEq, Nat.reduceBNe, Nat.reduceEqDiff, reduceIte, if_true, if_false, reduceCtorEq, Nat.reduceAdd, Nat.reduceMul, Nat.reduceLeDiff, Nat.reduceLT, Nat.reduceDiv, Nat.reduceSub, okCheck, evR, List.contains, List.elem, TS T, he1, e10, e11, e12, hx', x0', f0, f1, hbs, ha, hge, hen, hxn, hvq, hgx, hcl, hone, hel1, and_self, true_and] <;> rfl)) rfl ?_
    refine Wz.v rfl rfl rfl (by simp only [MS, Nat.reduceBEq, Nat.reduceBNe, Nat.reduceEqDiff, reduceIte, if_true, if_false, reduceCtorEq, Nat.reduceAdd, Nat.reduceMul, Nat.reduceLeDiff, Nat.reduceLT, Nat.reduceDiv, Nat.reduceSub, evR, List.contains, List.elem, TS T, he1, e10, e11, e12, hx', x0', f0, f1, hbs, ha, hge, hen, hxn, hvq, hgx, hcl, hone, hel1, and_self, true_and] <;> rfl) rfl ?_
    refine Wz.ld rfl rfl rfl (by simp only [MS, Nat.reduceBEq, Nat.reduceBNe, Nat.reduceEqDiff, reduceIte, if_true, if_false, reduceCtorEq, Nat.reduceAdd, Nat.reduceMul, Nat.reduceLeDiff, Nat.reduceLT, Nat.reduceDiv, Nat.reduceSub, loadA, partV, evR, List.contains, List.elem, TS T, he1, e10, e11, e12, hx', x0', f0, f1, hbs, ha, hge, hen, hxn, hvq, hgx, hcl, hone, hel1, and_self, true_and] <;> rfl) rfl ?_
    refine Wz.v rfl rfl rfl (by first | rfl | (simp only [MS, Nat.reduceBEq, Nat.reduceBNe, Nat.reduceEqDiff, reduceIte, if_true, if_false, reduceCtorEq, Nat.reduceAdd, Nat.reduceMul, Nat.reduceLeDiff, Nat.reduceLT, Nat.reduceDiv, Nat.reduceSub, evR, List.contains, List.elem, TS T, he1, e10, e11, e12, hx', x0', f0, f1, hbs, ha, hge, hen, hxn, hvq, hgx, hcl, hone, hel1, and_self, true_and] <;> rfl)) rfl ?_
    refine Wz.v rfl rfl rfl (by first | rfl | (simp only [MS, Nat.reduceBEq, Nat.reduceBNe, Nat.reduceEqDiff, reduceIte, if_true, if_false, reduceCtorEq, Nat.reduceAdd, Nat.reduceMul, Nat.reduceLeDiff, Nat.reduceLT, Nat.reduceDiv, Nat.reduceSub, okCheck, evR, List.contains, List.elem, TS T, he1, e10, e11, e12, hx', x0', f0, f1, hbs, ha, hge, hen, hxn, hvq, hgx, hcl, hone, hel1, and_self, true_and] <;> rfl)) rfl ?_
    refine Wz.ld rfl rfl rfl (by simp only [MS, Nat.reduceBEq, Nat.reduceBNe, Nat.reduceEqDiff, reduceIte, if_true, if_false, reduceCtorEq, Nat.reduceAdd, Nat.reduceMul, Nat.reduceLeDiff, Nat.reduceLT, Nat.reduceDiv, Nat.reduceSub, loadA, partV, evR, List.contains, List.elem, TS T, he1, e10, e11, e12, hx', x0', f0, f1, hbs, ha, hge, hen, hxn, hvq, hgx, hcl, hone, hel1, and_self, true_and] <;> rfl) rfl ?_
    refine Wz.e rfl rfl (by simp only [MS, Nat.reduceBEq, Nat.reduceBNe, Nat.reduceEqDiff, reduceIte, if_true, if_false, reduceCtorEq, Nat.reduceAdd, Nat.reduceMul, Nat.reduceLeDiff, Nat.reduceLT, Nat.reduceDiv, Nat.reduceSub, partsA, cval, cv, evR, List.contains, List.elem, TS T, he1, e10, e11, e12, hx', x0', f0, f1, hbs, ha, hge, hen, hxn, hvq, hgx, hcl, hone, hel1, and_self, true_and] <;> rfl) rfl (by repeat' first | exact ldsOk_nil | refine ldsOk_skip (by rfl) ?_ | refine ldsOk_cons (by simp only [MS, Nat.reduceBEq, Nat.reduceBNe, Nat.reduceEqDiff, reduceIte, if_true, if_false, reduceCtorEq, Nat.reduceAdd, Nat.reduceMul, Nat.reduceLeDiff, Nat.reduceLT, Nat.reduceDiv, Nat.reduceSub, evR, List.contains, List.elem, loadA, partV, TS T, he1, e10, e11, e12, hx', x0', f0, f1, hbs, ha, hge, hen, hxn, hvq, hgx, hcl, hone, hel1, and_self, true_and]) (by simp [vbeq, vbeqs, he1, e10, e11, e12, hx', x0', f0, f1, hbs, ha, hge, hen, hxn, hvq, hgx, hcl, hone, hel1, and_self, true_and]) ?_) (by repeat' first | exact alsOk_nil | refine alsOk_skip (by rfl) ?_ | refine alsOk_cons (by simp only [MS, Nat.reduceBEq, Nat.reduceBNe, Nat.reduceEqDiff, reduceIte, if_true, if_false, reduceCtorEq, Nat.reduceAdd, Nat.reduceMul, Nat.reduceLeDiff, Nat.reduceLT, Nat.reduceDiv, Nat.reduceSub, evR, List.contains, List.elem, loadA, partV, TS T, he1, e10, e11, e12, hx', x0', f0, f1, hbs, ha, hge, hen, hxn, hvq, hgx, hcl, hone, hel1, and_self, true_and]) (by simp [vbeq, vbeqs]) ?_) ?_
    refine Wz.e rfl rfl (by simp only [MS, Nat.reduceBEq, Nat.reduceBNe, Nat.reduceEqDiff, reduceIte, if_true, if_false, reduceCtorEq, Nat.reduceAdd, Nat.reduceMul, Nat.reduceLeDiff, Nat.reduceLT, Nat.reduceDiv, Nat.reduceSub, bltA, intsA, intsA.go, cval, cv, evR, List.contains, List.elem, TS T, he1, e10, e11, e12, hx', x0', f0, f1, hbs, ha, hge, hen, hxn, hvq, hgx, hcl, hone, hel1, and_self, true_and] <;> rfl) rfl (by repeat' first | exact ldsOk_nil | refine ldsOk_skip (by rfl) ?_ | refine ldsOk_cons (by simp only [MS, Nat.reduceBEq, Nat.reduceBNe, Nat.reduceEqDiff, reduceIte, if_true, if_false, reduceCtorEq, Nat.reduceAdd, Nat.reduceMul, Nat.reduceLeDiff, Nat.reduceLT, Nat.reduceDiv, Nat.reduceSub, evR, List.contains, List.elem, loadA, partV, TS T, he1, e10, e11, e12, hx', x0', f0, f1, hbs, ha, hge, hen, hxn, hvq, hgx, hcl, hone, hel1, and_self, true_and]) (by simp [vbeq, vbeqs, he1, e10, e11, e12, hx', x0', f0, f1, hbs, ha, hge, hen, hxn, hvq, hgx, hcl, hone, hel1, and_self, true_and]) ?_) (by repeat' first | exact alsOk_nil | refine alsOk_skip (by rfl) ?_ | refine alsOk_cons (by simp only [MS, Nat.reduceBEq, Nat.reduceBNe, Nat.reduceEqDiff, reduceIte, if_true, if_false, reduceCtorEq, Nat.reduceAdd, Nat.reduceMul, Nat.reduceLeDiff, Nat.reduceLT, Nat.reduceDiv, Nat.reduceSub, evR, List.contains, List.elem, loadA, partV, TS T, he1, e10, e11, e12, hx', x0', f0, f1, hbs, ha, hge, hen, hxn, hvq, hgx, hcl, hone, hel1, and_self, true_and]) (by simp [vbeq, vbeqs]) ?_) ?_
    refine Wz.v rfl rfl rfl (by first | rfl | (simp only [MS, Nat.reduceBEq, Nat.reduceBNe, Nat.reduceEqDiff, reduceIte, if_true, if_false, reduceCtorEq, Nat.reduceAdd, Nat.reduceMul, Nat.reduceLeDiff, Nat.reduceLT, Nat.reduceDiv, Nat.reduceSub, okCheck, evR, List.contains, List.elem, TS T, he1, e10, e11, e12, hx', x0', f0, f1, hbs, ha, hge, hen, hxn, hvq, hgx, hcl, hone, hel1, and_self, true_and] <;> rfl)) rfl ?_
    refine Wz.v rfl rfl rfl (by simp only [MS, Nat.reduceBEq, Nat.reduceBNe, Nat.reduceEqDiff, reduceIte, if_true, if_false, reduceCtorEq, Nat.reduceAdd, Nat.reduceMul, Nat.reduceLeDiff, Nat.reduceLT, Nat.reduceDiv, Nat.reduceSub, evR, List.contains, List.elem, TS T, he1, e10, e11, e12, hx', x0', f0, f1, hbs, ha, hge, hen, hxn, hvq, hgx, hcl, hone, hel1, and_self, true_and] <;> rfl) rfl ?_
    refine Wz.e rfl rfl (by simp only [MS, Nat.reduceBEq, Nat.reduceBNe, Nat.reduceEqDiff, reduceIte, if_true, if_false, reduceCtorEq, Nat.reduceAdd, Nat.reduceMul, Nat.reduceLeDiff, Nat.reduceLT, Nat.reduceDiv, Nat.reduceSub, storeA, setAll, TI.zero, cval, cv, evR, List.contains, List.elem, TS T, he1, e10, e11, e12, hx', x0', f0, f1, hbs, ha, hge, hen, hxn, hvq, hgx, hcl, hone, hel1, and_self, true_and] <;> rfl) rfl (by repeat' first | exact ldsOk_nil | refine ldsOk_skip (by rfl) ?_ | refine ldsOk_cons (by simp only [MS, Nat.reduceBEq, Nat.reduceBNe, Nat.reduceEqDiff, reduceIte, if_true, if_false, reduceCtorEq, Nat.reduceAdd, Nat.reduceMul, Nat.reduceLeDiff, Nat.reduceLT, Nat.reduceDiv, Nat.reduceSub, evR, List.contains, List.elem, loadA, partV, TS T, he1, e10, e11, e12, hx', x0', f0, f1, hbs, ha, hge, hen, hxn, hvq, hgx, hcl, hone, hel1, and_self, true_and]) (by simp [vbeq, vbeqs, he1, e10, e11, e12, hx', x0', f0, f1, hbs, ha, hge, hen, hxn, hvq, hgx, hcl, hone, hel1, and_self, true_and]) ?_) (by repeat' first | exact alsOk_nil | refine alsOk_skip (by rfl) ?_ | refine alsOk_cons (by simp only [MS, Nat.reduceBEq, Nat.reduceBNe, Nat.reduceEqDiff, reduceIte, if_true, if_false, reduceCtorEq, Nat.reduceAdd, Nat.reduceMul, Nat.reduceLeDiff, Nat.reduceLT, Nat.reduceDiv, Nat.reduceSub, evR, List.contains, List.elem, loadA, partV, TS T, he1, e10, e11, e12, hx', x0', f0, f1, hbs, ha, hge, hen, hxn, hvq, hgx, hcl, hone, hel1, and_self, true_and]) (by simp [vbeq, vbeqs]) ?_) ?_
    refine Wz.nil ?_
    have hnum := (Post1.num P1 he1 (n := m) (by simpa using hs2) (by simp at hn2'; omega) (fun b hb => by have := hp2 b hb; simp at this; omega) (fun b hb hne => by rw [ho2 b (by simp; omega) hne, Hp.get_push_ne _ _ (by omega)]) e10)
    have h01 : wides [Lf.int IntKind.i64] = 0 + 1 := rfl
    refine hn0 _ _ [] rfl ⟨rfl, _, (by rw [h01]; exact S1.trans hlt hnum.1), fun hmk => ?_⟩
    have hcx : (cellsOf h xb).drop xo = (.i .i64 n) :: (xc.drop (xo + 1)) := by
      simp only [cellsOf, hx]; rw [List.drop_eq_getElem_cons hxo, hn]
    rw [hcx, hm hmk]
    simp only [flats, flat1, hnw, hns, hss]
  refine Wc.cond (t := E.mark) rfl (fun hm => ?_) fun hm => ?_
  · refine Wc.seq fun K3 hn3 hx3 => ?_
    have hel : eo + 5 ≤ cs.length := by
      have := (List.getElem?_eq_some_iff.1 e4).1; omega
    have hel3 : eo + 3 + 1 ≤ cs.length := by omega
    have hel3' : eo + 3 < cs.length := by omega
    have hxrw : xrw = true := hxw.wr (P.mark hm xb t hxb rfl)
    subst hxrw
    have hxo1 : xo + 1 ≤ xc.length := hxo
    have S1 := Post1.count P he (IntKind.i64.wrap (E.at_ + 1))
    have P1 := P.next S1
    refine Wc.rg ?_
    refine Wo.val rfl (by first | rfl | (simp only [MS, Nat.reduceBEq, Nat.reduceBNe, Nat.reduceEqDiff, reduceIte, if_true, if_false, reduceCtorEq, Nat.reduceAdd, Nat.reduceMul, Nat.reduceLeDiff, Nat.reduceLT, Nat.reduceDiv, Nat.reduceSub, TS T, he, e2, e3, hel3, and_self, true_and] <;> rfl)) rfl ?_
    refine Wo.val rfl (by first | rfl | (simp only [MS, Nat.reduceBEq, Nat.reduceBNe, Nat.reduceEqDiff, reduceIte, if_true, if_false, reduceCtorEq, Nat.reduceAdd, Nat.reduceMul, Nat.reduceLeDiff, Nat.reduceLT, Nat.reduceDiv, Nat.reduceSub, okCheck, TS T, he, e2, e3, hel3, and_self, true_and] <;> rfl)) rfl ?_
    refine Wo.val rfl (by simp only [MS, Nat.reduceBEq, Nat.reduceBNe, Nat.reduceEqDiff, reduceIte, if_true, if_false, reduceCtorEq, Nat.reduceAdd, Nat.reduceMul, Nat.reduceLeDiff, Nat.reduceLT, Nat.reduceDiv, Nat.reduceSub, TS T, he, e2, e3, hel3, and_self, true_and] <;> rfl) rfl ?_
    refine Wo.val rfl (by simp only [MS, Nat.reduceBEq, Nat.reduceBNe, Nat.reduceEqDiff, reduceIte, if_true, if_false, reduceCtorEq, Nat.reduceAdd, Nat.reduceMul, Nat.reduceLeDiff, Nat.reduceLT, Nat.reduceDiv, Nat.reduceSub, loadA, partV, TS T, he, e2, e3, hel3, and_self, true_and] <;> rfl) rfl ?_
    refine Wo.val rfl (by simp only [MS, Nat.reduceBEq, Nat.reduceBNe, Nat.reduceEqDiff, reduceIte, if_true, if_false, reduceCtorEq, Nat.reduceAdd, Nat.reduceMul, Nat.reduceLeDiff, Nat.reduceLT, Nat.reduceDiv, Nat.reduceSub, binA, arithA, strA, isC, cval, cv, TS T, he, e2, e3, hel3, and_self, true_and] <;> rfl) rfl ?_
    refine Wo.val rfl (by first | rfl | (simp only [MS, Nat.reduceBEq, Nat.reduceBNe, Nat.reduceEqDiff, reduceIte, if_true, if_false, reduceCtorEq, Nat.reduceAdd, Nat.reduceMul, Nat.reduceLeDiff, Nat.reduceLT, Nat.reduceDiv, Nat.reduceSub, okCheck, TS T, he, e2, e3, hel3, and_self, true_and] <;> rfl)) rfl ?_
    refine Wo.val rfl (by simp only [MS, Nat.reduceBEq, Nat.reduceBNe, Nat.reduceEqDiff, reduceIte, if_true, if_false, reduceCtorEq, Nat.reduceAdd, Nat.reduceMul, Nat.reduceLeDiff, Nat.reduceLT, Nat.reduceDiv, Nat.reduceSub, TS T, he, e2, e3, hel3, and_self, true_and] <;> rfl) rfl ?_
    refine Wo.val rfl (by simp only [MS, Nat.reduceBEq, Nat.reduceBNe, Nat.reduceEqDiff, reduceIte, if_true, if_false, reduceCtorEq, Nat.reduceAdd, Nat.reduceMul, Nat.reduceLeDiff, Nat.reduceLT, Nat.reduceDiv, Nat.reduceSub, storeA, setAll, TI.zero, cval, cv, TS T, he, e2, e3, hel3, and_self, true_and] <;> rfl) rfl ?_
    refine Wo.nil ?_
    refine hn3 _ ?_
    refine Wc.rg ?_
    refine Wo.val rfl (by first | rfl | (simp only [MS, Nat.reduceBEq, Nat.reduceBNe, Nat.reduceEqDiff, reduceIte, if_true, if_false, reduceCtorEq, Nat.reduceAdd, Nat.reduceMul, Nat.reduceLeDiff, Nat.reduceLT, Nat.reduceDiv, Nat.reduceSub, TS T, he, e2, e3, hx, hne, hxo1, hel3', List.getElem?_set_self, and_self, true_and] <;> rfl)) rfl ?_
    refine Wo.val rfl (by first | rfl | (simp only [MS, Nat.reduceBEq, Nat.reduceBNe, Nat.reduceEqDiff, reduceIte, if_true, if_false, reduceCtorEq, Nat.reduceAdd, Nat.reduceMul, Nat.reduceLeDiff, Nat.reduceLT, Nat.reduceDiv, Nat.reduceSub, TS T, he, e2, e3, hx, hne, hxo1, hel3', List.getElem?_set_self, and_self, true_and] <;> rfl)) rfl ?_
    refine Wo.val rfl (by first | rfl | (simp only [MS, Nat.reduceBEq, Nat.reduceBNe, Nat.reduceEqDiff, reduceIte, if_true, if_false, reduceCtorEq, Nat.reduceAdd, Nat.reduceMul, Nat.reduceLeDiff, Nat.reduceLT, Nat.reduceDiv, Nat.reduceSub, okCheck, TS T, he, e2, e3, hx, hne, hxo1, hel3', List.getElem?_set_self, and_self, true_and] <;> rfl)) rfl ?_
    refine Wo.val rfl (by simp only [MS, Nat.reduceBEq, Nat.reduceBNe, Nat.reduceEqDiff, reduceIte, if_true, if_false, reduceCtorEq, Nat.reduceAdd, Nat.reduceMul, Nat.reduceLeDiff, Nat.reduceLT, Nat.reduceDiv, Nat.reduceSub, TS T, he, e2, e3, hx, hne, hxo1, hel3', List.getElem?_set_self, and_self, true_and] <;> rfl) rfl ?_
    refine Wo.val rfl (by simp only [MS, Nat.reduceBEq, Nat.reduceBNe, Nat.reduceEqDiff, reduceIte, if_true, if_false, reduceCtorEq, Nat.reduceAdd, Nat.reduceMul, Nat.reduceLeDiff, Nat.reduceLT, Nat.reduceDiv, Nat.reduceSub, loadA, partV, TS T, he, e2, e3, hx, hne, hxo1, hel3', List.getElem?_set_self, and_self, true_and] <;> rfl) rfl ?_
    refine Wo.val rfl (by first | rfl | (simp only [MS, Nat.reduceBEq, Nat.reduceBNe, Nat.reduceEqDiff, reduceIte, if_true, if_false, reduceCtorEq, Nat.reduceAdd, Nat.reduceMul, Nat.reduceLeDiff, Nat.reduceLT, Nat.reduceDiv, Nat.reduceSub, okCheck, TS T, he, e2, e3, hx, hne, hxo1, hel3', List.getElem?_set_self, and_self, true_and] <;> rfl)) rfl ?_
    refine Wo.val rfl (by simp only [MS, Nat.reduceBEq, Nat.reduceBNe, Nat.reduceEqDiff, reduceIte, if_true, if_false, reduceCtorEq, Nat.reduceAdd, Nat.reduceMul, Nat.reduceLeDiff, Nat.reduceLT, Nat.reduceDiv, Nat.reduceSub, storeA, setAll, TI.zero, cval, cv, TS T, he, e2, e3, hx, hne, hxo1, hel3', List.getElem?_set_self, and_self, true_and] <;> rfl) rfl ?_
    refine Wo.nil ?_
    have hx1 : (h.set eb (.blk ty (cs.set (eo + 3) (.i .i64 (IntKind.i64.wrap (E.at_ + 1)))) true)).get xb = some (.blk xty xc true) := by rw [Hp.get_set_ne _ _ hne]; exact hx
    have S2 := Post1.write P1 hm hxb rfl hx1 hl0 (v := .i .i64 (IntKind.i64.wrap (E.at_ + 1))) ⟨_, rfl, wrap_wrap _ _⟩
    refine tail _ _ _ (IntKind.i64.wrap (E.at_ + 1)) rfl rfl (P1.next S2) (S1.trans hlt S2) rfl rfl ⟨_, Hp.get_set_self _ _ _, by simp [hxo]⟩ fun h => by rw [hm] at h; cases h
  · refine Wc.skip (tail _ _ E n rfl rfl P ⟨.refl P.eye, P.ok, by omega⟩ rfl rfl ⟨xc, hx, x0⟩ fun _ => rfl)
end Go.Mx

/- all[int] of the seat. -/
namespace Go.Mx
open Go.Proofs
set_option maxRecDepth 100000
set_option maxHeartbeats 2000000

theorem S.fall_ok {tb fc} (T : S.Ty tb) {call call' : Caller} {lf : Nat} (hlf : 2000000000000 ≤ lf) (hc : ∀ args h, call' (.fn 34) args h = runF tb fc call lf Tryz.f34 args h) {g1 : Nat} {e : List Lf} (hez : e.length = 1) (hone : SeeOk 3 9 call g1 e) : AllOk 3 9 call' 34 g1 e := by
  intro G h eb eo E v r rm P hv hlen
  have hlt := P.eye.lt
  suffices H : Wf tb fc call lf Tryz.f34 [.p eb eo, v, .f (.func g1) [] []] h (fun w h' => w = .tup [] ∧ ∃ E', Post1 3 9 G r h h' eb eo E E' (wide1 (.sl e)) ∧ (E.mark = false → (E'.ns, E'.ss) = flat1 h E.rm (.sl e) v (E.ns, E.ss))) by
    obtain ⟨v, h', h1, rfl, E', h2, h3⟩ := H
    exact ⟨h', E', by rw [hc]; exact h1, h2, h3⟩
  obtain ⟨n, hvn, v', m, F, hroom, hnoroom, R, hflat⟩ := rows_of (room := E.rm) ⟨⟨_, _, _, T.t22, rfl, T.t3, hez.symm⟩, by omega⟩ P.ok hv P.rm
  obtain ⟨ty, cs, he, e0, e1, e2, e3, e4⟩ := P.eye.blk
  have hbs := fun h => buildSlice_one T.n h (v := .i .i64 n) rfl
  obtain ⟨nv, h2, ha, hcl, hon, hn2, ho2, hP⟩ := push_num T.n P (n : Int) (by simp [wide1] at hlen; omega)
  obtain ⟨hge, hel1, _, S1, hgs⟩ := hP ty cs he
  have P1 := P.next S1
  refine Wf.intro (sz := 46) rfl rfl fun K hn0 hr0 => ?_
  repeat refine Wc.assoc ?_
  refine Wc.seq fun K1 hn1 hx1 => ?_
  refine Wc.rg ?_
  refine Wo.val rfl (by first | rfl | (simp only [MS, Nat.reduceBEq, Nat.reduceBNe, Nat.reduceEqDiff, reduceIte, if_true, if_false, reduceCtorEq, Nat.reduceAdd, Nat.reduceMul, Nat.reduceLeDiff, Nat.reduceLT, Nat.reduceDiv, Nat.reduceSub, TS T, he, e0, e4, hvn, hbs, ha, hge, hcl, hon, hel1, and_self, true_and] <;> rfl)) rfl ?_
  refine Wo.val rfl (by first | rfl | (simp only [MS, Nat.reduceBEq, Nat.reduceBNe, Nat.reduceEqDiff, reduceIte, if_true, if_false, reduceCtorEq, Nat.reduceAdd, Nat.reduceMul, Nat.reduceLeDiff, Nat.reduceLT, Nat.reduceDiv, Nat.reduceSub, TS T, he, e0, e4, hvn, hbs, ha, hge, hcl, hon, hel1, and_self, true_and] <;> rfl)) rfl ?_
  refine Wo.val rfl (by first | rfl | (simp only [MS, Nat.reduceBEq, Nat.reduceBNe, Nat.reduceEqDiff, reduceIte, if_true, if_false, reduceCtorEq, Nat.reduceAdd, Nat.reduceMul, Nat.reduceLeDiff, Nat.reduceLT, Nat.reduceDiv, Nat.reduceSub, okCheck, TS T, he, e0, e4, hvn, hbs, ha, hge, hcl, hon, hel1, and_self, true_and] <;> rfl)) rfl ?_
  refine Wo.val rfl (by simp only [MS, Nat.reduceBEq, Nat.reduceBNe, Nat.reduceEqDiff, reduceIte, if_true, if_false, reduceCtorEq, Nat.reduceAdd, Nat.reduceMul, Nat.reduceLeDiff, Nat.reduceLT, Nat.reduceDiv, Nat.reduceSub, TS T, he, e0, e4, hvn, hbs, ha, hge, hcl, hon, hel1, and_self, true_and] <;> rfl) rfl ?_
  refine Wo.val rfl (by simp only [MS, Nat.reduceBEq, Nat.reduceBNe, Nat.reduceEqDiff, reduceIte, if_true, if_false, reduceCtorEq, Nat.reduceAdd, Nat.reduceMul, Nat.reduceLeDiff, Nat.reduceLT, Nat.reduceDiv, Nat.reduceSub, loadA, partV, TS T, he, e0, e4, hvn, hbs, ha, hge, hcl, hon, hel1, and_self, true_and] <;> rfl) rfl ?_
  refine Wo.val rfl (by first | rfl | (simp only [MS, Nat.reduceBEq, Nat.reduceBNe, Nat.reduceEqDiff, reduceIte, if_true, if_false, reduceCtorEq, Nat.reduceAdd, Nat.reduceMul, Nat.reduceLeDiff, Nat.reduceLT, Nat.reduceDiv, Nat.reduceSub, TS T, he, e0, e4, hvn, hbs, ha, hge, hcl, hon, hel1, and_self, true_and] <;> rfl)) rfl ?_
  refine Wo.val rfl (by simp only [MS, Nat.reduceBEq, Nat.reduceBNe, Nat.reduceEqDiff, reduceIte, if_true, if_false, reduceCtorEq, Nat.reduceAdd, Nat.reduceMul, Nat.reduceLeDiff, Nat.reduceLT, Nat.reduceDiv, Nat.reduceSub, cval, cv, TS T, he, e0, e4, hvn, hbs, ha, hge, hcl, hon, hel1, and_self, true_and] <;> rfl) rfl ?_
  refine Wo.val rfl (by simp only [MS, Nat.reduceBEq, Nat.reduceBNe, Nat.reduceEqDiff, reduceIte, if_true, if_false, reduceCtorEq, Nat.reduceAdd, Nat.reduceMul, Nat.reduceLeDiff, Nat.reduceLT, Nat.reduceDiv, Nat.reduceSub, partsA, cval, cv, TS T, he, e0, e4, hvn, hbs, ha, hge, hcl, hon, hel1, and_self, true_and] <;> rfl) rfl ?_
  refine Wo.val rfl (by simp only [MS, Nat.reduceBEq, Nat.reduceBNe, Nat.reduceEqDiff, reduceIte, if_true, if_false, reduceCtorEq, Nat.reduceAdd, Nat.reduceMul, Nat.reduceLeDiff, Nat.reduceLT, Nat.reduceDiv, Nat.reduceSub, cval, cv, TS T, he, e0, e4, hvn, hbs, ha, hge, hcl, hon, hel1, and_self, true_and] <;> rfl) rfl ?_
  refine Wo.val rfl (by first | rfl | (simp only [MS, Nat.reduceBEq, Nat.reduceBNe, Nat.reduceEqDiff, reduceIte, if_true, if_false, reduceCtorEq, Nat.reduceAdd, Nat.reduceMul, Nat.reduceLeDiff, Nat.reduceLT, Nat.reduceDiv, Nat.reduceSub, okCheck, TS T, he, e0, e4, hvn, hbs, ha, hge, hcl, hon, hel1, and_self, true_and] <;> rfl)) rfl ?_
  refine Wo.val rfl (by simp only [MS, Nat.reduceBEq, Nat.reduceBNe, Nat.reduceEqDiff, reduceIte, if_true, if_false, reduceCtorEq, Nat.reduceAdd, Nat.reduceMul, Nat.reduceLeDiff, Nat.reduceLT, Nat.reduceDiv, Nat.reduceSub, TS T, he, e0, e4, hvn, hbs, ha, hge, hcl, hon, hel1, and_self, true_and] <;> rfl) rfl ?_
  refine Wo.val rfl (by simp only [MS, Nat.reduceBEq, Nat.reduceBNe, Nat.reduceEqDiff, reduceIte, if_true, if_false, reduceCtorEq, Nat.reduceAdd, Nat.reduceMul, Nat.reduceLeDiff, Nat.reduceLT, Nat.reduceDiv, Nat.reduceSub, storeA, setAll, TI.zero, cval, cv, TS T, he, e0, e4, hvn, hbs, ha, hge, hcl, hon, hel1, and_self, true_and] <;> rfl) rfl ?_
  refine Wo.nil ?_
  refine hn1 _ ?_
  repeat refine Wc.assoc ?_
  refine Wc.seq fun K2 hn2 hx2 => ?_
  generalize h2.set eb (Ob.blk ty (cs.set eo nv) true) = h1 at hgs S1 P1 ⊢
  obtain ⟨ty1, cs1, he1, e10, e11, e12, e13, e14⟩ := P1.eye.blk
  simp only at e10 e11 e12 e13 e14
  refine Wc.rg ?_
  refine Wo.val rfl (by first | rfl | (simp only [MS, Nat.reduceBEq, Nat.reduceBNe, Nat.reduceEqDiff, reduceIte, if_true, if_false, reduceCtorEq, Nat.reduceAdd, Nat.reduceMul, Nat.reduceLeDiff, Nat.reduceLT, Nat.reduceDiv, Nat.reduceSub, TS T, he1, e14] <;> rfl)) rfl ?_
  refine Wo.val rfl (by first | rfl | (simp only [MS, Nat.reduceBEq, Nat.reduceBNe, Nat.reduceEqDiff, reduceIte, if_true, if_false, reduceCtorEq, Nat.reduceAdd, Nat.reduceMul, Nat.reduceLeDiff, Nat.reduceLT, Nat.reduceDiv, Nat.reduceSub, okCheck, TS T, he1, e14] <;> rfl)) rfl ?_
  refine Wo.val rfl (by simp only [MS, Nat.reduceBEq, Nat.reduceBNe, Nat.reduceEqDiff, reduceIte, if_true, if_false, reduceCtorEq, Nat.reduceAdd, Nat.reduceMul, Nat.reduceLeDiff, Nat.reduceLT, Nat.reduceDiv, Nat.reduceSub, TS T, he1, e14] <;> rfl) rfl ?_
  refine Wo.val rfl (by simp only [MS, Nat.reduceBEq, Nat.reduceBNe, Nat.reduceEqDiff, reduceIte, if_true, if_false, reduceCtorEq, Nat.reduceAdd, Nat.reduceMul, Nat.reduceLeDiff, Nat.reduceLT, Nat.reduceDiv, Nat.reduceSub, loadA, partV, TS T, he1, e14] <;> rfl) rfl ?_
  refine Wo.nil ?_
  refine hn2 _ ?_
  repeat refine Wc.assoc ?_
  refine Wc.seq fun K3 hn3 hx3 => ?_
  have tail : ∀ fr, look fr 0 = some (.p eb eo) → look fr 1 = some v' → look fr 2 = some (.f (.func g1) [] []) → K3 .normal ⟨fr, [], h1⟩ := by
    intro fr f0 f1 f2
    refine hn3 _ ?_
    refine Wc.seq fun K4 hn4 hx4 => ?_
    refine Wc.rg ?_
    refine Wo.val rfl (by first | rfl | (simp only [MS, Nat.reduceBEq, Nat.reduceBNe, Nat.reduceEqDiff, reduceIte, if_true, if_false, reduceCtorEq, Nat.reduceAdd, Nat.reduceMul, Nat.reduceLeDiff, Nat.reduceLT, Nat.reduceDiv, Nat.reduceSub, cval, cv, TS T, f0] <;> rfl)) rfl ?_
    refine Wo.nil ?_
    refine hn4 _ ?_
    refine Wc.block fun K5 hb5 hx5 => ?_
    refine Wc.loop (fun k s => ∃ i fr hi Ei, s = ⟨fr, [], hi⟩ ∧ i + k = m ∧ look fr 0 = some (.p eb eo) ∧ look fr 1 = some v' ∧ look fr 2 = some (.f (.func g1) [] []) ∧ look fr 6 = some (.i .i64 (i : Nat)) ∧
      Post1 3 9 G r h hi eb eo E Ei (1 + wides e) ∧ Pre 3 9 G r rm hi eb eo Ei ∧ (E.mark = false → (∀ b t, G b = some t → hi.get b = h.get b) ∧ flat1 h E.rm (.sl e) v (E.ns, E.ss) = sweep F k i (Ei.ns, Ei.ss))) m (by have := R.small; omega) ⟨0, _, h1, _, rfl, by omega, by simp [look, f0], by simp [look, f1], by simp [look, f2], rfl, ⟨S1.saw, S1.ok, by have := S1.len; omega⟩, P1, fun hm => ⟨hgs, hflat _⟩⟩ ?_
    rintro k _ ⟨i, fr, hi, Ei, rfl, hik, f0, f1, f2, f6, Si, Pi, hfl⟩ KL hnL hxL
    obtain ⟨tyi, csi, hei, ei0, ei1, ei2, ei3, ei4⟩ := Pi.eye.blk
    have hln : bltA tb .len #[22] [Ei.nv] = some (.i .i64 Ei.ns.length) := by
      rcases Pi.eye.n with ⟨hq, hq2⟩ | ⟨b, ty, hq, _⟩
      · rw [hq]; have : Ei.ns = [] := by simpa using hq2
        simp [bltA, T.t22, this]
      · rw [hq]; simp [bltA, T.t22]
    have hRl := R.len
    repeat refine Wc.assoc ?_
    refine Wc.seq fun K6 hn6 hx6 => ?_
    have done : ∀ fr, (k = 0 ∨ ¬ Ei.ns.length < 200000) → K5 (.exit 0) ⟨fr, [], hi⟩ := by
      intro fr hk
      refine hb5 _ (hn0 _ _ [] rfl ⟨rfl, Ei, Si, fun hm => ?_⟩)
      rw [(hfl hm).2]
      rcases hk with rfl | hk
      · rfl
      · cases k with
        | zero => rfl
        | succ k => simp [sweep, hk]
    by_cases hlt : i < m
    · have hlt' : (i : Int) < (m : Int) := by omega
      refine Wc.rg ?_
      refine Wo.val rfl (by first | rfl | (simp only [MS, Nat.reduceBEq, Nat.reduceBNe, Nat.reduceEqDiff, reduceIte, if_true, if_false, reduceCtorEq, Nat.reduceAdd, Nat.reduceMul, Nat.reduceLeDiff, Nat.reduceLT, Nat.reduceDiv, Nat.reduceSub, TS T, f0, f1, f6, hei, ei0, hln, hRl, hlt'] <;> rfl)) rfl ?_
      refine Wo.val rfl (by first | rfl | (simp only [MS, Nat.reduceBEq, Nat.reduceBNe, Nat.reduceEqDiff, reduceIte, if_true, if_false, reduceCtorEq, Nat.reduceAdd, Nat.reduceMul, Nat.reduceLeDiff, Nat.reduceLT, Nat.reduceDiv, Nat.reduceSub, TS T, f0, f1, f6, hei, ei0, hln, hRl, hlt'] <;> rfl)) rfl ?_
      refine Wo.val rfl (by simp only [MS, Nat.reduceBEq, Nat.reduceBNe, Nat.reduceEqDiff, reduceIte, if_true, if_false, reduceCtorEq, Nat.reduceAdd, Nat.reduceMul, Nat.reduceLeDiff, Nat.reduceLT, Nat.reduceDiv, Nat.reduceSub, cval, cv, TS T, f0, f1, f6, hei, ei0, hln, hRl, hlt'] <;> rfl) rfl ?_
      refine Wo.val rfl (by simp only [MS, Nat.reduceBEq, Nat.reduceBNe, Nat.reduceEqDiff, reduceIte, if_true, if_false, reduceCtorEq, Nat.reduceAdd, Nat.reduceMul, Nat.reduceLeDiff, Nat.reduceLT, Nat.reduceDiv, Nat.reduceSub, binA, arithA, strA, isC, cval, cv, TS T, f0, f1, f6, hei, ei0, hln, hRl, hlt'] <;> rfl) rfl ?_
      refine Wo.val rfl (by first | rfl | (simp only [MS, Nat.reduceBEq, Nat.reduceBNe, Nat.reduceEqDiff, reduceIte, if_true, if_false, reduceCtorEq, Nat.reduceAdd, Nat.reduceMul, Nat.reduceLeDiff, Nat.reduceLT, Nat.reduceDiv, Nat.reduceSub, TS T, f0, f1, f6, hei, ei0, hln, hRl, hlt'] <;> rfl)) rfl ?_
      refine Wo.val (by first | rfl | (simp only [wantedA, wantedP, evR, List.contains, List.elem, MS, Nat.reduceBEq, Nat.reduceBNe, Nat.reduceEqDiff, reduceIte, if_true, if_false, reduceCtorEq, Nat.reduceAdd, Nat.reduceMul, Nat.reduceLeDiff, Nat.reduceLT, Nat.reduceDiv, Nat.reduceSub, f0, f1, f6, hei, ei0, hln, hRl, hlt'] <;> rfl)) (by first | rfl | (simp only [MS, Nat.reduceBEq, Nat.reduceBNe, Nat.reduceEqDiff, reduceIte, if_true, if_false, reduceCtorEq, Nat.reduceAdd, Nat.reduceMul, Nat.reduceLeDiff, Nat.reduceLT, Nat.reduceDiv, Nat.reduceSub, TS T, f0, f1, f6, hei, ei0, hln, hRl, hlt'] <;> rfl)) rfl ?_
      refine Wo.val (by first | rfl | (simp only [wantedA, wantedP, evR, List.contains, List.elem, MS, Nat.reduceBEq, Nat.reduceBNe, Nat.reduceEqDiff, reduceIte, if_true, if_false, reduceCtorEq, Nat.reduceAdd, Nat.reduceMul, Nat.reduceLeDiff, Nat.reduceLT, Nat.reduceDiv, Nat.reduceSub, f0, f1, f6, hei, ei0, hln, hRl, hlt'] <;> rfl)) (by first | rfl | (simp only [MS, Nat.reduceBEq, Nat.reduceBNe, Nat.reduceEqDiff, reduceIte, if_true, if_false, reduceCtorEq, Nat.reduceAdd, Nat.reduceMul, Nat.reduceLeDiff, Nat.reduceLT, Nat.reduceDiv, Nat.reduceSub, okCheck, TS T, f0, f1, f6, hei, ei0, hln, hRl, hlt'] <;> rfl)) rfl ?_
      refine Wo.val (by first | rfl | (simp only [wantedA, wantedP, evR, List.contains, List.elem, MS, Nat.reduceBEq, Nat.reduceBNe, Nat.reduceEqDiff, reduceIte, if_true, if_false, reduceCtorEq, Nat.reduceAdd, Nat.reduceMul, Nat.reduceLeDiff, Nat.reduceLT, Nat.reduceDiv, Nat.reduceSub, f0, f1, f6, hei, ei0, hln, hRl, hlt'] <;> rfl)) (by simp only [MS, Nat.reduceBEq, Nat.reduceBNe, Nat.reduceEqDiff, reduceIte, if_true, if_false, reduceCtorEq, Nat.reduceAdd, Nat.reduceMul, Nat.reduceLeDiff, Nat.reduceLT, Nat.reduceDiv, Nat.reduceSub, TS T, f0, f1, f6, hei, ei0, hln, hRl, hlt'] <;> rfl) rfl ?_
      refine Wo.val (by first | rfl | (simp only [wantedA, wantedP, evR, List.contains, List.elem, MS, Nat.reduceBEq, Nat.reduceBNe, Nat.reduceEqDiff, reduceIte, if_true, if_false, reduceCtorEq, Nat.reduceAdd, Nat.reduceMul, Nat.reduceLeDiff, Nat.reduceLT, Nat.reduceDiv, Nat.reduceSub, f0, f1, f6, hei, ei0, hln, hRl, hlt'] <;> rfl)) (by simp only [MS, Nat.reduceBEq, Nat.reduceBNe, Nat.reduceEqDiff, reduceIte, if_true, if_false, reduceCtorEq, Nat.reduceAdd, Nat.reduceMul, Nat.reduceLeDiff, Nat.reduceLT, Nat.reduceDiv, Nat.reduceSub, loadA, partV, TS T, f0, f1, f6, hei, ei0, hln, hRl, hlt'] <;> rfl) rfl ?_
      refine Wo.val (by first | rfl | (simp only [wantedA, wantedP, evR, List.contains, List.elem, MS, Nat.reduceBEq, Nat.reduceBNe, Nat.reduceEqDiff, reduceIte, if_true, if_false, reduceCtorEq, Nat.reduceAdd, Nat.reduceMul, Nat.reduceLeDiff, Nat.reduceLT, Nat.reduceDiv, Nat.reduceSub, f0, f1, f6, hei, ei0, hln, hRl, hlt'] <;> rfl)) (by simp only [MS, Nat.reduceBEq, Nat.reduceBNe, Nat.reduceEqDiff, reduceIte, if_true, if_false, reduceCtorEq, Nat.reduceAdd, Nat.reduceMul, Nat.reduceLeDiff, Nat.reduceLT, Nat.reduceDiv, Nat.reduceSub, cval, cv, TS T, f0, f1, f6, hei, ei0, hln, hRl, hlt'] <;> rfl) rfl ?_
      refine Wo.val (by first | rfl | (simp only [wantedA, wantedP, evR, List.contains, List.elem, MS, Nat.reduceBEq, Nat.reduceBNe, Nat.reduceEqDiff, reduceIte, if_true, if_false, reduceCtorEq, Nat.reduceAdd, Nat.reduceMul, Nat.reduceLeDiff, Nat.reduceLT, Nat.reduceDiv, Nat.reduceSub, f0, f1, f6, hei, ei0, hln, hRl, hlt'] <;> rfl)) (by simp only [MS, Nat.reduceBEq, Nat.reduceBNe, Nat.reduceEqDiff, reduceIte, if_true, if_false, reduceCtorEq, Nat.reduceAdd, Nat.reduceMul, Nat.reduceLeDiff, Nat.reduceLT, Nat.reduceDiv, Nat.reduceSub, binA, arithA, strA, isC, cval, cv, TS T, f0, f1, f6, hei, ei0, hln, hRl, hlt'] <;> rfl) rfl ?_
      refine Wo.val rfl (by first | rfl | (simp only [MS, Nat.reduceBEq, Nat.reduceBNe, Nat.reduceEqDiff, reduceIte, if_true, if_false, reduceCtorEq, Nat.reduceAdd, Nat.reduceMul, Nat.reduceLeDiff, Nat.reduceLT, Nat.reduceDiv, Nat.reduceSub, cval, cv, TS T, f0, f1, f6, hei, ei0, hln, hRl, hlt'] <;> rfl)) rfl ?_
      refine Wo.nil ?_
      refine hn6 _ ?_
      refine Wc.seq fun K7 hn7 hx7 => ?_
      refine Wc.cond (t := decide ((Ei.ns.length : Int) < 200000)) rfl (fun hd => ?_) fun hd => ?_
      · refine Wc.skip (hn7 _ ?_)
        have hd' : Ei.ns.length < 200000 := by have := of_decide_eq_true hd; omega
        refine Wc.seq fun K8 hn8 hx8 => ?_
        refine Wc.block fun K9 hb9 hx9 => ?_
        obtain ⟨b, o, t, hia, hGb, hreg, hrm, hsub, hF⟩ := R.row i hlt
        refine Wc.rg ?_
        refine Wo.val rfl (by first | rfl | (simp only [MS, Nat.reduceBEq, Nat.reduceBNe, Nat.reduceEqDiff, reduceIte, if_true, if_false, reduceCtorEq, Nat.reduceAdd, Nat.reduceMul, Nat.reduceLeDiff, Nat.reduceLT, Nat.reduceDiv, Nat.reduceSub, TS T, f0, f1, f2, f6, hia] <;> rfl)) rfl ?_
        refine Wo.val rfl (by first | rfl | (simp only [MS, Nat.reduceBEq, Nat.reduceBNe, Nat.reduceEqDiff, reduceIte, if_true, if_false, reduceCtorEq, Nat.reduceAdd, Nat.reduceMul, Nat.reduceLeDiff, Nat.reduceLT, Nat.reduceDiv, Nat.reduceSub, TS T, f0, f1, f2, f6, hia] <;> rfl)) rfl ?_
        refine Wo.val rfl (by first | rfl | (simp only [MS, Nat.reduceBEq, Nat.reduceBNe, Nat.reduceEqDiff, reduceIte, if_true, if_false, reduceCtorEq, Nat.reduceAdd, Nat.reduceMul, Nat.reduceLeDiff, Nat.reduceLT, Nat.reduceDiv, Nat.reduceSub, TS T, f0, f1, f2, f6, hia] <;> rfl)) rfl ?_
        refine Wo.val rfl (by first | rfl | (simp only [MS, Nat.reduceBEq, Nat.reduceBNe, Nat.reduceEqDiff, reduceIte, if_true, if_false, reduceCtorEq, Nat.reduceAdd, Nat.reduceMul, Nat.reduceLeDiff, Nat.reduceLT, Nat.reduceDiv, Nat.reduceSub, TS T, f0, f1, f2, f6, hia] <;> rfl)) rfl ?_
        refine Wo.val rfl (by simp only [MS, Nat.reduceBEq, Nat.reduceBNe, Nat.reduceEqDiff, reduceIte, if_true, if_false, reduceCtorEq, Nat.reduceAdd, Nat.reduceMul, Nat.reduceLeDiff, Nat.reduceLT, Nat.reduceDiv, Nat.reduceSub, cval, cv, TS T, f0, f1, f2, f6, hia] <;> rfl) rfl ?_
        refine Wo.cl rfl rfl rfl (by first | rfl | (simp only [MS, Nat.reduceBEq, Nat.reduceBNe, Nat.reduceEqDiff, reduceIte, if_true, if_false, reduceCtorEq, Nat.reduceAdd, Nat.reduceMul, Nat.reduceLeDiff, Nat.reduceLT, Nat.reduceDiv, Nat.reduceSub, cval, cv, TS T, f0, f1, f2, f6, hia] <;> rfl)) (by first | rfl | (simp only [MS, Nat.reduceBEq, Nat.reduceBNe, Nat.reduceEqDiff, reduceIte, if_true, if_false, reduceCtorEq, Nat.reduceAdd, Nat.reduceMul, Nat.reduceLeDiff, Nat.reduceLT, Nat.reduceDiv, Nat.reduceSub, cval, cv, TS T, f0, f1, f2, f6, hia] <;> rfl)) (fun _ => rfl) ?_
        obtain ⟨h', E', hcall, hpost, hseen⟩ := hone G hi eb eo Ei b o t (by rw [hreg, hrm]; exact Pi) hGb hsub (by simp [wide1] at hlen; omega)
        rw [hreg] at hpost
        refine ⟨_, h', hcall, ?_⟩
        refine Wo.nil ?_
        refine hx9 _ _ (by simp) (hn8 _ ?_)
        have hw : IntKind.i64.wrap ((i : Int) + 1) = ((i + 1 : Nat) : Int) := by
          have := R.small
          rw [wrap_i64] <;> omega
        refine Wc.rg ?_
        refine Wo.val rfl (by first | rfl | (simp only [MS, Nat.reduceBEq, Nat.reduceBNe, Nat.reduceEqDiff, reduceIte, if_true, if_false, reduceCtorEq, Nat.reduceAdd, Nat.reduceMul, Nat.reduceLeDiff, Nat.reduceLT, Nat.reduceDiv, Nat.reduceSub, TS T, f0, f1, f2, f6, hw] <;> rfl)) rfl ?_
        refine Wo.val rfl (by simp only [MS, Nat.reduceBEq, Nat.reduceBNe, Nat.reduceEqDiff, reduceIte, if_true, if_false, reduceCtorEq, Nat.reduceAdd, Nat.reduceMul, Nat.reduceLeDiff, Nat.reduceLT, Nat.reduceDiv, Nat.reduceSub, binA, arithA, strA, isC, cval, cv, TS T, f0, f1, f2, f6, hw] <;> rfl) rfl ?_
        refine Wo.val rfl (by first | rfl | (simp only [MS, Nat.reduceBEq, Nat.reduceBNe, Nat.reduceEqDiff, reduceIte, if_true, if_false, reduceCtorEq, Nat.reduceAdd, Nat.reduceMul, Nat.reduceLeDiff, Nat.reduceLT, Nat.reduceDiv, Nat.reduceSub, cval, cv, TS T, f0, f1, f2, f6, hw] <;> rfl)) rfl ?_
        refine Wo.nil ?_
        refine hnL _ (k - 1) (by omega) ⟨i + 1, _, h', E', rfl, by omega, by simp [look, f0], by simp [look, f1], by simp [look, f2], by simp [look], ⟨Si.saw.trans P.eye.lt hpost.saw, hpost.ok, by have := hpost.len; have := Si.len; omega⟩, Pi.next hpost, fun hm => ?_⟩
        have hmi : Ei.mark = false := by rw [Si.saw.mark]; exact hm
        obtain ⟨hg1, hf1⟩ := hfl hm
        have hg2 : ∀ b t, G b = some t → h'.get b = hi.get b := fun b t hb => Saw.gsame Pi hpost.saw hb (.inl hmi)
        refine ⟨fun b t hb => (hg2 b t hb).trans (hg1 b t hb), ?_⟩
        rw [hf1]
        obtain ⟨k, rfl⟩ : ∃ k', k = k' + 1 := ⟨k - 1, by omega⟩
        simp only [sweep, hd', if_true, Nat.add_sub_cancel]
        rw [hseen hmi, hF]
        have hrmi : Ei.rm = E.rm := Si.saw.rm
        rw [hrmi]
        have hch : cellsOf hi b = cellsOf h b := by simp only [cellsOf, hg1 b t hGb]
        rw [hch, flats_local (r := r) (rm := rm) P.ok (fun b t' hb _ => hg1 b t' hb) P.rm e ((cellsOf h b).drop o) (Ei.ns, Ei.ss) (fun j l v hl hv => by
          rw [List.getElem?_drop] at hv
          have := (P.ok.cells hGb).2 _ l v (hsub j l hl) hv
          rw [hreg, hrm] at this; exact this)]
      · refine Wc.exit (hx7 _ _ (by simp) (hxL _ _ (by simp) (done _ (.inr (by have := of_decide_eq_false hd; omega)))))
    · have hlt' : ¬ (i : Int) < (m : Int) := by omega
      refine Wc.rg ?_
      refine Wo.val rfl (by first | rfl | (simp only [MS, Nat.reduceBEq, Nat.reduceBNe, Nat.reduceEqDiff, reduceIte, if_true, if_false, reduceCtorEq, Nat.reduceAdd, Nat.reduceMul, Nat.reduceLeDiff, Nat.reduceLT, Nat.reduceDiv, Nat.reduceSub, TS T, f0, f1, f6, hei, ei0, hln, hRl, hlt'] <;> rfl)) rfl ?_
      refine Wo.val rfl (by first | rfl | (simp only [MS, Nat.reduceBEq, Nat.reduceBNe, Nat.reduceEqDiff, reduceIte, if_true, if_false, reduceCtorEq, Nat.reduceAdd, Nat.reduceMul, Nat.reduceLeDiff, Nat.reduceLT, Nat.reduceDiv, Nat.reduceSub, TS T, f0, f1, f6, hei, ei0, hln, hRl, hlt'] <;> rfl)) rfl ?_
      refine Wo.val rfl (by simp only [MS, Nat.reduceBEq, Nat.reduceBNe, Nat.reduceEqDiff, reduceIte, if_true, if_false, reduceCtorEq, Nat.reduceAdd, Nat.reduceMul, Nat.reduceLeDiff, Nat.reduceLT, Nat.reduceDiv, Nat.reduceSub, cval, cv, TS T, f0, f1, f6, hei, ei0, hln, hRl, hlt'] <;> rfl) rfl ?_
      refine Wo.val rfl (by simp only [MS, Nat.reduceBEq, Nat.reduceBNe, Nat.reduceEqDiff, reduceIte, if_true, if_false, reduceCtorEq, Nat.reduceAdd, Nat.reduceMul, Nat.reduceLeDiff, Nat.reduceLT, Nat.reduceDiv, Nat.reduceSub, binA, arithA, strA, isC, cval, cv, TS T, f0, f1, f6, hei, ei0, hln, hRl, hlt'] <;> rfl) rfl ?_
      refine Wo.val rfl (by first | rfl | (simp only [MS, Nat.reduceBEq, Nat.reduceBNe, Nat.reduceEqDiff, reduceIte, if_true, if_false, reduceCtorEq, Nat.reduceAdd, Nat.reduceMul, Nat.reduceLeDiff, Nat.reduceLT, Nat.reduceDiv, Nat.reduceSub, TS T, f0, f1, f6, hei, ei0, hln, hRl, hlt'] <;> rfl)) rfl ?_
      refine Wo.skip (by first | rfl | (simp only [wantedA, wantedP, evR, List.contains, List.elem, MS, Nat.reduceBEq, Nat.reduceBNe, Nat.reduceEqDiff, reduceIte, if_true, if_false, reduceCtorEq, Nat.reduceAdd, Nat.reduceMul, Nat.reduceLeDiff, Nat.reduceLT, Nat.reduceDiv, Nat.reduceSub, f0, f1, f6, hei, ei0, hln, hRl, hlt'] <;> rfl)) rfl ?_
      refine Wo.skip (by first | rfl | (simp only [wantedA, wantedP, evR, List.contains, List.elem, MS, Nat.reduceBEq, Nat.reduceBNe, Nat.reduceEqDiff, reduceIte, if_true, if_false, reduceCtorEq, Nat.reduceAdd, Nat.reduceMul, Nat.reduceLeDiff, Nat.reduceLT, Nat.reduceDiv, Nat.reduceSub, f0, f1, f6, hei, ei0, hln, hRl, hlt'] <;> rfl)) rfl ?_
      refine Wo.skip (by first | rfl | (simp only [wantedA, wantedP, evR, List.contains, List.elem, MS, Nat.reduceBEq, Nat.reduceBNe, Nat.reduceEqDiff, reduceIte, if_true, if_false, reduceCtorEq, Nat.reduceAdd, Nat.reduceMul, Nat.reduceLeDiff, Nat.reduceLT, Nat.reduceDiv, Nat.reduceSub, f0, f1, f6, hei, ei0, hln, hRl, hlt'] <;> rfl)) rfl ?_
      refine Wo.skip (by first | rfl | (simp only [wantedA, wantedP, evR, List.contains, List.elem, MS, Nat.reduceBEq, Nat.reduceBNe, Nat.reduceEqDiff, reduceIte, if_true, if_false, reduceCtorEq, Nat.reduceAdd, Nat.reduceMul, Nat.reduceLeDiff, Nat.reduceLT, Nat.reduceDiv, Nat.reduceSub, f0, f1, f6, hei, ei0, hln, hRl, hlt'] <;> rfl)) rfl ?_
      refine Wo.skip (by first | rfl | (simp only [wantedA, wantedP, evR, List.contains, List.elem, MS, Nat.reduceBEq, Nat.reduceBNe, Nat.reduceEqDiff, reduceIte, if_true, if_false, reduceCtorEq, Nat.reduceAdd, Nat.reduceMul, Nat.reduceLeDiff, Nat.reduceLT, Nat.reduceDiv, Nat.reduceSub, f0, f1, f6, hei, ei0, hln, hRl, hlt'] <;> rfl)) rfl ?_
      refine Wo.skip (by first | rfl | (simp only [wantedA, wantedP, evR, List.contains, List.elem, MS, Nat.reduceBEq, Nat.reduceBNe, Nat.reduceEqDiff, reduceIte, if_true, if_false, reduceCtorEq, Nat.reduceAdd, Nat.reduceMul, Nat.reduceLeDiff, Nat.reduceLT, Nat.reduceDiv, Nat.reduceSub, f0, f1, f6, hei, ei0, hln, hRl, hlt'] <;> rfl)) rfl ?_
      refine Wo.val rfl (by first | rfl | (simp only [MS, Nat.reduceBEq, Nat.reduceBNe, Nat.reduceEqDiff, reduceIte, if_true, if_false, reduceCtorEq, Nat.reduceAdd, Nat.reduceMul, Nat.reduceLeDiff, Nat.reduceLT, Nat.reduceDiv, Nat.reduceSub, cval, cv, TS T, f0, f1, f6, hei, ei0, hln, hRl, hlt'] <;> rfl)) rfl ?_
      refine Wo.nil ?_
      refine hn6 _ ?_
      refine Wc.seq fun K7 hn7 hx7 => ?_
      refine Wc.cond (t := false) rfl (fun h => by cases h) fun _ => ?_
      refine Wc.exit (hx7 _ _ (by simp) (hxL _ _ (by simp) (done _ (.inl (by omega)))))
  refine Wc.cond (t := E.rm) rfl (fun hm => ?_) fun hm => ?_
  · obtain ⟨k, hcap, hsl⟩ := hroom hm
    refine Wc.rg ?_
    refine Wo.val rfl (by first | rfl | (simp only [MS, Nat.reduceBEq, Nat.reduceBNe, Nat.reduceEqDiff, reduceIte, if_true, if_false, reduceCtorEq, Nat.reduceAdd, Nat.reduceMul, Nat.reduceLeDiff, Nat.reduceLT, Nat.reduceDiv, Nat.reduceSub, TS T, hcap, hsl] <;> rfl)) rfl ?_
    refine Wo.val rfl (by first | rfl | (simp only [MS, Nat.reduceBEq, Nat.reduceBNe, Nat.reduceEqDiff, reduceIte, if_true, if_false, reduceCtorEq, Nat.reduceAdd, Nat.reduceMul, Nat.reduceLeDiff, Nat.reduceLT, Nat.reduceDiv, Nat.reduceSub, TS T, hcap, hsl] <;> rfl)) rfl ?_
    refine Wo.val rfl (by simp only [MS, Nat.reduceBEq, Nat.reduceBNe, Nat.reduceEqDiff, reduceIte, if_true, if_false, reduceCtorEq, Nat.reduceAdd, Nat.reduceMul, Nat.reduceLeDiff, Nat.reduceLT, Nat.reduceDiv, Nat.reduceSub, cval, cv, TS T, hcap, hsl] <;> rfl) rfl ?_
    refine Wo.val rfl (by simp only [MS, Nat.reduceBEq, Nat.reduceBNe, Nat.reduceEqDiff, reduceIte, if_true, if_false, reduceCtorEq, Nat.reduceAdd, Nat.reduceMul, Nat.reduceLeDiff, Nat.reduceLT, Nat.reduceDiv, Nat.reduceSub, bnd, bnds, TS T, hcap, hsl] <;> rfl) rfl ?_
    refine Wo.val rfl (by first | rfl | (simp only [MS, Nat.reduceBEq, Nat.reduceBNe, Nat.reduceEqDiff, reduceIte, if_true, if_false, reduceCtorEq, Nat.reduceAdd, Nat.reduceMul, Nat.reduceLeDiff, Nat.reduceLT, Nat.reduceDiv, Nat.reduceSub, cval, cv, TS T, hcap, hsl] <;> rfl)) rfl ?_
    refine Wo.nil ?_
    exact tail _ rfl rfl rfl
  · refine Wc.skip (tail _ rfl (by rw [hnoroom hm]; rfl) rfl)
end Go.Mx

/- The seat's functions that see structs. -/
namespace Go.Mx
open Go.Proofs
set_option maxRecDepth 100000
set_option maxHeartbeats 2000000

theorem S.fnums_ok {tb fc} (T : S.Ty tb) {call call' : Caller} {lf : Nat} (hc : ∀ args h, call' (.fn 12) args h = runF tb fc call lf Tryz.f12 args h) (hall : AllOk 3 9 call 34 32 [.int .i64]) : SeeOk 3 9 call' 12 [.sl [.int .i64]] := by
  intro G h eb eo E xb xo t P hxb hl hlen
  obtain ⟨hxlt, xty, xc, xrw, hx, hxl, hxw, hxok⟩ := P.ok.blk xb t hxb
  have hl0 := hl 0 _ rfl
  rw [Nat.add_zero] at hl0
  have hxo : xo < xc.length := by rw [hxl]; exact (List.getElem?_eq_some_iff.1 hl0).1
  have x0 : xc[xo]? = some xc[xo] := List.getElem?_eq_getElem hxo
  have hv := hxok xo _ _ hl0 x0
  suffices H : Wf tb fc call lf Tryz.f12 [.p eb eo, .p xb xo] h (fun v h' => v = .tup [] ∧ ∃ E', Post1 3 9 G t.reg h h' eb eo E E' (wides [.sl [.int .i64]]) ∧ (E.mark = false → (E'.ns, E'.ss) = flats h E.rm [.sl [.int .i64]] ((cellsOf h xb).drop xo) (E.ns, E.ss))) by
    obtain ⟨v, h', h1, rfl, E', h2, h3⟩ := H
    exact ⟨h', E', by rw [hc]; exact h1, h2, h3⟩
  refine Wf.intro (sz := 9) rfl rfl fun K hn0 hr0 => ?_
  refine Wc.rg ?_
  refine Wo.val rfl (by first | rfl | (simp only [MS, Nat.reduceBEq, Nat.reduceBNe, Nat.reduceEqDiff, reduceIte, if_true, if_false, reduceCtorEq, Nat.reduceAdd, Nat.reduceMul, Nat.reduceLeDiff, Nat.reduceLT, Nat.reduceDiv, Nat.reduceSub, TS T, hx, x0] <;> rfl)) rfl ?_
  refine Wo.val rfl (by first | rfl | (simp only [MS, Nat.reduceBEq, Nat.reduceBNe, Nat.reduceEqDiff, reduceIte, if_true, if_false, reduceCtorEq, Nat.reduceAdd, Nat.reduceMul, Nat.reduceLeDiff, Nat.reduceLT, Nat.reduceDiv, Nat.reduceSub, TS T, hx, x0] <;> rfl)) rfl ?_
  refine Wo.val rfl (by first | rfl | (simp only [MS, Nat.reduceBEq, Nat.reduceBNe, Nat.reduceEqDiff, reduceIte, if_true, if_false, reduceCtorEq, Nat.reduceAdd, Nat.reduceMul, Nat.reduceLeDiff, Nat.reduceLT, Nat.reduceDiv, Nat.reduceSub, okCheck, TS T, hx, x0] <;> rfl)) rfl ?_
  refine Wo.val rfl (by simp only [MS, Nat.reduceBEq, Nat.reduceBNe, Nat.reduceEqDiff, reduceIte, if_true, if_false, reduceCtorEq, Nat.reduceAdd, Nat.reduceMul, Nat.reduceLeDiff, Nat.reduceLT, Nat.reduceDiv, Nat.reduceSub, loadA, partV, TS T, hx, x0] <;> rfl) rfl ?_
  refine Wo.cl rfl rfl rfl (by first | rfl | (simp only [MS, Nat.reduceBEq, Nat.reduceBNe, Nat.reduceEqDiff, reduceIte, if_true, if_false, reduceCtorEq, Nat.reduceAdd, Nat.reduceMul, Nat.reduceLeDiff, Nat.reduceLT, Nat.reduceDiv, Nat.reduceSub, cval, cv, TS T, hx, x0] <;> rfl)) (by first | rfl | (simp only [MS, Nat.reduceBEq, Nat.reduceBNe, Nat.reduceEqDiff, reduceIte, if_true, if_false, reduceCtorEq, Nat.reduceAdd, Nat.reduceMul, Nat.reduceLeDiff, Nat.reduceLT, Nat.reduceDiv, Nat.reduceSub, cval, cv, TS T, hx, x0] <;> rfl)) (fun _ => rfl) ?_
  obtain ⟨h', E', hcall, hpost, hseen⟩ := hall G h eb eo E xc[xo] t.reg t.rm P hv (by simpa [wides] using hlen)
  refine ⟨_, h', hcall, Wo.nil ?_⟩
  refine hn0 _ _ [] rfl ⟨rfl, E', by simpa [wides] using hpost, fun hm => ?_⟩
  rw [hseen hm]
  have hcx : (cellsOf h xb).drop xo = xc[xo] :: (xc.drop (xo + 1)) := by
    simp only [cellsOf, hx]; rw [List.drop_eq_getElem_cons hxo]
  rw [hcx]; simp only [flats]

theorem S.f11_ok {tb fc} {call call' : Caller} {lf : Nat} (hc : ∀ args h, call' (.fn 11) args h = runF tb fc call lf Tryz.f11 args h) {ls} (hs : SeeOk 3 9 call 12 ls) : SeeOk 3 9 call' 11 ls := by
  intro G h eb eo E xb xo t P hxb hl hlen
  suffices H : Wf tb fc call lf Tryz.f11 [.p eb eo, .p xb xo] h (fun v h' => v = .tup [] ∧ ∃ E', Post1 3 9 G t.reg h h' eb eo E E' (wides ls) ∧ (E.mark = false → (E'.ns, E'.ss) = flats h E.rm ls ((cellsOf h xb).drop xo) (E.ns, E.ss))) by
    obtain ⟨v, h', h1, rfl, E', h2, h3⟩ := H
    exact ⟨h', E', by rw [hc]; exact h1, h2, h3⟩
  refine Wf.intro (sz := 5) rfl rfl fun K hn0 hr0 => ?_
  refine Wc.rg ?_
  refine Wo.val rfl (by first | rfl | (simp only [MS, Nat.reduceBEq, Nat.reduceBNe, Nat.reduceEqDiff, reduceIte, if_true, if_false, reduceCtorEq, Nat.reduceAdd, Nat.reduceMul, Nat.reduceLeDiff, Nat.reduceLT, Nat.reduceDiv, Nat.reduceSub, TS T] <;> rfl)) rfl ?_
  refine Wo.cl rfl rfl rfl (by first | rfl | (simp only [MS, Nat.reduceBEq, Nat.reduceBNe, Nat.reduceEqDiff, reduceIte, if_true, if_false, reduceCtorEq, Nat.reduceAdd, Nat.reduceMul, Nat.reduceLeDiff, Nat.reduceLT, Nat.reduceDiv, Nat.reduceSub, cval, cv, TS T] <;> rfl)) (by first | rfl | (simp only [MS, Nat.reduceBEq, Nat.reduceBNe, Nat.reduceEqDiff, reduceIte, if_true, if_false, reduceCtorEq, Nat.reduceAdd, Nat.reduceMul, Nat.reduceLeDiff, Nat.reduceLT, Nat.reduceDiv, Nat.reduceSub, cval, cv, TS T] <;> rfl)) (fun _ => rfl) ?_
  obtain ⟨h', E', hcall, hpost, hseen⟩ := hs G h eb eo E xb xo t P hxb hl hlen
  refine ⟨_, h', hcall, Wo.nil ?_⟩
  exact hn0 _ _ [] rfl ⟨rfl, E', hpost, hseen⟩

theorem S.f19_ok {tb fc} {call call' : Caller} {lf : Nat} (hc : ∀ args h, call' (.fn 19) args h = runF tb fc call lf Tryz.f19 args h) {ls} (hs : SeeOk 3 9 call 12 ls) : SeeOk 3 9 call' 19 ls := by
  intro G h eb eo E xb xo t P hxb hl hlen
  suffices H : Wf tb fc call lf Tryz.f19 [.p eb eo, .p xb xo] h (fun v h' => v = .tup [] ∧ ∃ E', Post1 3 9 G t.reg h h' eb eo E E' (wides ls) ∧ (E.mark = false → (E'.ns, E'.ss) = flats h E.rm ls ((cellsOf h xb).drop xo) (E.ns, E.ss))) by
    obtain ⟨v, h', h1, rfl, E', h2, h3⟩ := H
    exact ⟨h', E', by rw [hc]; exact h1, h2, h3⟩
  refine Wf.intro (sz := 5) rfl rfl fun K hn0 hr0 => ?_
  refine Wc.rg ?_
  refine Wo.val rfl (by first | rfl | (simp only [MS, Nat.reduceBEq, Nat.reduceBNe, Nat.reduceEqDiff, reduceIte, if_true, if_false, reduceCtorEq, Nat.reduceAdd, Nat.reduceMul, Nat.reduceLeDiff, Nat.reduceLT, Nat.reduceDiv, Nat.reduceSub, TS T] <;> rfl)) rfl ?_
  refine Wo.cl rfl rfl rfl (by first | rfl | (simp only [MS, Nat.reduceBEq, Nat.reduceBNe, Nat.reduceEqDiff, reduceIte, if_true, if_false, reduceCtorEq, Nat.reduceAdd, Nat.reduceMul, Nat.reduceLeDiff, Nat.reduceLT, Nat.reduceDiv, Nat.reduceSub, cval, cv, TS T] <;> rfl)) (by first | rfl | (simp only [MS, Nat.reduceBEq, Nat.reduceBNe, Nat.reduceEqDiff, reduceIte, if_true, if_false, reduceCtorEq, Nat.reduceAdd, Nat.reduceMul, Nat.reduceLeDiff, Nat.reduceLT, Nat.reduceDiv, Nat.reduceSub, cval, cv, TS T] <;> rfl)) (fun _ => rfl) ?_
  obtain ⟨h', E', hcall, hpost, hseen⟩ := hs G h eb eo E xb xo t P hxb hl hlen
  refine ⟨_, h', hcall, Wo.nil ?_⟩
  exact hn0 _ _ [] rfl ⟨rfl, E', hpost, hseen⟩

theorem S.f22_ok {tb fc} {call call' : Caller} {lf : Nat} (hc : ∀ args h, call' (.fn 22) args h = runF tb fc call lf Tryz.f22 args h) {ls} (hs : SeeOk 3 9 call 12 ls) : SeeOk 3 9 call' 22 ls := by
  intro G h eb eo E xb xo t P hxb hl hlen
  suffices H : Wf tb fc call lf Tryz.f22 [.p eb eo, .p xb xo] h (fun v h' => v = .tup [] ∧ ∃ E', Post1 3 9 G t.reg h h' eb eo E E' (wides ls) ∧ (E.mark = false → (E'.ns, E'.ss) = flats h E.rm ls ((cellsOf h xb).drop xo) (E.ns, E.ss))) by
    obtain ⟨v, h', h1, rfl, E', h2, h3⟩ := H
    exact ⟨h', E', by rw [hc]; exact h1, h2, h3⟩
  refine Wf.intro (sz := 5) rfl rfl fun K hn0 hr0 => ?_
  refine Wc.rg ?_
  refine Wo.val rfl (by first | rfl | (simp only [MS, Nat.reduceBEq, Nat.reduceBNe, Nat.reduceEqDiff, reduceIte, if_true, if_false, reduceCtorEq, Nat.reduceAdd, Nat.reduceMul, Nat.reduceLeDiff, Nat.reduceLT, Nat.reduceDiv, Nat.reduceSub, TS T] <;> rfl)) rfl ?_
  refine Wo.cl rfl rfl rfl (by first | rfl | (simp only [MS, Nat.reduceBEq, Nat.reduceBNe, Nat.reduceEqDiff, reduceIte, if_true, if_false, reduceCtorEq, Nat.reduceAdd, Nat.reduceMul, Nat.reduceLeDiff, Nat.reduceLT, Nat.reduceDiv, Nat.reduceSub, cval, cv, TS T] <;> rfl)) (by first | rfl | (simp only [MS, Nat.reduceBEq, Nat.reduceBNe, Nat.reduceEqDiff, reduceIte, if_true, if_false, reduceCtorEq, Nat.reduceAdd, Nat.reduceMul, Nat.reduceLeDiff, Nat.reduceLT, Nat.reduceDiv, Nat.reduceSub, cval, cv, TS T] <;> rfl)) (fun _ => rfl) ?_
  obtain ⟨h', E', hcall, hpost, hseen⟩ := hs G h eb eo E xb xo t P hxb hl hlen
  refine ⟨_, h', hcall, Wo.nil ?_⟩
  exact hn0 _ _ [] rfl ⟨rfl, E', hpost, hseen⟩

theorem S.f25_ok {tb fc} {call call' : Caller} {lf : Nat} (hc : ∀ args h, call' (.fn 25) args h = runF tb fc call lf Tryz.f25 args h) {ls} (hs : SeeOk 3 9 call 12 ls) : SeeOk 3 9 call' 25 ls := by
  intro G h eb eo E xb xo t P hxb hl hlen
  suffices H : Wf tb fc call lf Tryz.f25 [.p eb eo, .p xb xo] h (fun v h' => v = .tup [] ∧ ∃ E', Post1 3 9 G t.reg h h' eb eo E E' (wides ls) ∧ (E.mark = false → (E'.ns, E'.ss) = flats h E.rm ls ((cellsOf h xb).drop xo) (E.ns, E.ss))) by
    obtain ⟨v, h', h1, rfl, E', h2, h3⟩ := H
    exact ⟨h', E', by rw [hc]; exact h1, h2, h3⟩
  refine Wf.intro (sz := 5) rfl rfl fun K hn0 hr0 => ?_
  refine Wc.rg ?_
  refine Wo.val rfl (by first | rfl | (simp only [MS, Nat.reduceBEq, Nat.reduceBNe, Nat.reduceEqDiff, reduceIte, if_true, if_false, reduceCtorEq, Nat.reduceAdd, Nat.reduceMul, Nat.reduceLeDiff, Nat.reduceLT, Nat.reduceDiv, Nat.reduceSub, TS T] <;> rfl)) rfl ?_
  refine Wo.cl rfl rfl rfl (by first | rfl | (simp only [MS, Nat.reduceBEq, Nat.reduceBNe, Nat.reduceEqDiff, reduceIte, if_true, if_false, reduceCtorEq, Nat.reduceAdd, Nat.reduceMul, Nat.reduceLeDiff, Nat.reduceLT, Nat.reduceDiv, Nat.reduceSub, cval, cv, TS T] <;> rfl)) (by first | rfl | (simp only [MS, Nat.reduceBEq, Nat.reduceBNe, Nat.reduceEqDiff, reduceIte, if_true, if_false, reduceCtorEq, Nat.reduceAdd, Nat.reduceMul, Nat.reduceLeDiff, Nat.reduceLT, Nat.reduceDiv, Nat.reduceSub, cval, cv, TS T] <;> rfl)) (fun _ => rfl) ?_
  obtain ⟨h', E', hcall, hpost, hseen⟩ := hs G h eb eo E xb xo t P hxb hl hlen
  refine ⟨_, h', hcall, Wo.nil ?_⟩
  exact hn0 _ _ [] rfl ⟨rfl, E', hpost, hseen⟩


theorem S.fsee_ok {tb fc} (T : S.Ty tb) {call call' : Caller} {lf : Nat} (hc : ∀ args h, call' (.fn 6) args h = runF tb fc call lf Tryz.f6 args h) (h32 : SeeOk 3 9 call 32 [.int .i64]) (h12 : SeeOk 3 9 call 12 [.sl [.int .i64]]) :
    SeeOk 3 9 call' 6 [.sl [.int .i64], .int .i64, .int .i64, .int .i64, .int .i64, .int .i64, .int .i64, .sl [.int .i64]] := by
  intro G h eb eo E xb xo t P hxb hl hlen
  have hxlen := (List.getElem?_eq_some_iff.1 (hl 7 _ rfl)).1
  suffices H : Wf tb fc call lf Tryz.f6 [.p eb eo, .p xb xo] h (fun v h' => v = .tup [] ∧ ∃ E', Seen2 3 9 G t h eb eo E xb xo [.sl [.int .i64], .int .i64, .int .i64, .int .i64, .int .i64, .int .i64, .int .i64, .sl [.int .i64]] h' E') by
    obtain ⟨v, h', h1, rfl, E', h2⟩ := H
    exact ⟨h', E', by rw [hc]; exact h1, h2.fin⟩
  refine Wf.intro (sz := 44) rfl rfl fun K hn0 hr0 => ?_
  repeat refine Wc.assoc ?_
  have S0 := Seen2.start (xb := xb) (xo := xo) P (by omega)
  refine Wc.seq fun K1 hn1 hx1 => ?_
  refine Wc.rg ?_
  refine Wo.val rfl (by first | rfl | (simp only [MS, Nat.reduceBEq, Nat.reduceBNe, Nat.reduceEqDiff, reduceIte, if_true, if_false, reduceCtorEq, Nat.reduceAdd, Nat.reduceMul, Nat.reduceLeDiff, Nat.reduceLT, Nat.reduceDiv, Nat.reduceSub, TS T] <;> rfl)) rfl ?_
  refine Wo.val rfl (by first | rfl | (simp only [MS, Nat.reduceBEq, Nat.reduceBNe, Nat.reduceEqDiff, reduceIte, if_true, if_false, reduceCtorEq, Nat.reduceAdd, Nat.reduceMul, Nat.reduceLeDiff, Nat.reduceLT, Nat.reduceDiv, Nat.reduceSub, TS T] <;> rfl)) rfl ?_
  refine Wo.val rfl (by first | rfl | (simp only [MS, Nat.reduceBEq, Nat.reduceBNe, Nat.reduceEqDiff, reduceIte, if_true, if_false, reduceCtorEq, Nat.reduceAdd, Nat.reduceMul, Nat.reduceLeDiff, Nat.reduceLT, Nat.reduceDiv, Nat.reduceSub, okCheck, TS T] <;> rfl)) rfl ?_
  refine Wo.val rfl (by simp only [MS, Nat.reduceBEq, Nat.reduceBNe, Nat.reduceEqDiff, reduceIte, if_true, if_false, reduceCtorEq, Nat.reduceAdd, Nat.reduceMul, Nat.reduceLeDiff, Nat.reduceLT, Nat.reduceDiv, Nat.reduceSub, TS T] <;> rfl) rfl ?_
  refine Wo.cl rfl rfl rfl (by first | rfl | (simp only [MS, Nat.reduceBEq, Nat.reduceBNe, Nat.reduceEqDiff, reduceIte, if_true, if_false, reduceCtorEq, Nat.reduceAdd, Nat.reduceMul, Nat.reduceLeDiff, Nat.reduceLT, Nat.reduceDiv, Nat.reduceSub, cval, cv, TS T] <;> rfl)) (by first | rfl | (simp only [MS, Nat.reduceBEq, Nat.reduceBNe, Nat.reduceEqDiff, reduceIte, if_true, if_false, reduceCtorEq, Nat.reduceAdd, Nat.reduceMul, Nat.reduceLeDiff, Nat.reduceLT, Nat.reduceDiv, Nat.reduceSub, cval, cv, TS T] <;> rfl)) (fun _ => rfl) ?_
  obtain ⟨h1, E1, hc1, S1⟩ := S0.step (xo) (by simp) h12 hxb (sub_of hl rfl) (by simp only [wides, wide1, List.cons_append, List.nil_append] at hlen ⊢; omega)
  refine ⟨_, h1, hc1, Wo.nil ?_⟩
  refine hn1 _ ?_
  repeat refine Wc.assoc ?_
  refine Wc.seq fun K2 hn2 hx2 => ?_
  refine Wc.rg ?_
  refine Wo.val rfl (by first | rfl | (simp only [MS, Nat.reduceBEq, Nat.reduceBNe, Nat.reduceEqDiff, reduceIte, if_true, if_false, reduceCtorEq, Nat.reduceAdd, Nat.reduceMul, Nat.reduceLeDiff, Nat.reduceLT, Nat.reduceDiv, Nat.reduceSub, TS T] <;> rfl)) rfl ?_
  refine Wo.val rfl (by first | rfl | (simp only [MS, Nat.reduceBEq, Nat.reduceBNe, Nat.reduceEqDiff, reduceIte, if_true, if_false, reduceCtorEq, Nat.reduceAdd, Nat.reduceMul, Nat.reduceLeDiff, Nat.reduceLT, Nat.reduceDiv, Nat.reduceSub, TS T] <;> rfl)) rfl ?_
  refine Wo.val rfl (by first | rfl | (simp only [MS, Nat.reduceBEq, Nat.reduceBNe, Nat.reduceEqDiff, reduceIte, if_true, if_false, reduceCtorEq, Nat.reduceAdd, Nat.reduceMul, Nat.reduceLeDiff, Nat.reduceLT, Nat.reduceDiv, Nat.reduceSub, okCheck, TS T] <;> rfl)) rfl ?_
  refine Wo.val rfl (by simp only [MS, Nat.reduceBEq, Nat.reduceBNe, Nat.reduceEqDiff, reduceIte, if_true, if_false, reduceCtorEq, Nat.reduceAdd, Nat.reduceMul, Nat.reduceLeDiff, Nat.reduceLT, Nat.reduceDiv, Nat.reduceSub, TS T] <;> rfl) rfl ?_
  refine Wo.cl rfl rfl rfl (by first | rfl | (simp only [MS, Nat.reduceBEq, Nat.reduceBNe, Nat.reduceEqDiff, reduceIte, if_true, if_false, reduceCtorEq, Nat.reduceAdd, Nat.reduceMul, Nat.reduceLeDiff, Nat.reduceLT, Nat.reduceDiv, Nat.reduceSub, cval, cv, TS T] <;> rfl)) (by first | rfl | (simp only [MS, Nat.reduceBEq, Nat.reduceBNe, Nat.reduceEqDiff, reduceIte, if_true, if_false, reduceCtorEq, Nat.reduceAdd, Nat.reduceMul, Nat.reduceLeDiff, Nat.reduceLT, Nat.reduceDiv, Nat.reduceSub, cval, cv, TS T] <;> rfl)) (fun _ => rfl) ?_
  obtain ⟨h2, E2, hc2, S2⟩ := S1.step (xo + 1) (by simp) h32 hxb (sub_of hl rfl) (by simp only [wides, wide1, List.cons_append, List.nil_append] at hlen ⊢; omega)
  refine ⟨_, h2, hc2, Wo.nil ?_⟩
  refine hn2 _ ?_
  repeat refine Wc.assoc ?_
  refine Wc.seq fun K3 hn3 hx3 => ?_
  refine Wc.rg ?_
  refine Wo.val rfl (by first | rfl | (simp only [MS, Nat.reduceBEq, Nat.reduceBNe, Nat.reduceEqDiff, reduceIte, if_true, if_false, reduceCtorEq, Nat.reduceAdd, Nat.reduceMul, Nat.reduceLeDiff, Nat.reduceLT, Nat.reduceDiv, Nat.reduceSub, TS T] <;> rfl)) rfl ?_
  refine Wo.val rfl (by first | rfl | (simp only [MS, Nat.reduceBEq, Nat.reduceBNe, Nat.reduceEqDiff, reduceIte, if_true, if_false, reduceCtorEq, Nat.reduceAdd, Nat.reduceMul, Nat.reduceLeDiff, Nat.reduceLT, Nat.reduceDiv, Nat.reduceSub, TS T] <;> rfl)) rfl ?_
  refine Wo.val rfl (by first | rfl | (simp only [MS, Nat.reduceBEq, Nat.reduceBNe, Nat.reduceEqDiff, reduceIte, if_true, if_false, reduceCtorEq, Nat.reduceAdd, Nat.reduceMul, Nat.reduceLeDiff, Nat.reduceLT, Nat.reduceDiv, Nat.reduceSub, okCheck, TS T] <;> rfl)) rfl ?_
  refine Wo.val rfl (by simp only [MS, Nat.reduceBEq, Nat.reduceBNe, Nat.reduceEqDiff, reduceIte, if_true, if_false, reduceCtorEq, Nat.reduceAdd, Nat.reduceMul, Nat.reduceLeDiff, Nat.reduceLT, Nat.reduceDiv, Nat.reduceSub, TS T] <;> rfl) rfl ?_
  refine Wo.cl rfl rfl rfl (by first | rfl | (simp only [MS, Nat.reduceBEq, Nat.reduceBNe, Nat.reduceEqDiff, reduceIte, if_true, if_false, reduceCtorEq, Nat.reduceAdd, Nat.reduceMul, Nat.reduceLeDiff, Nat.reduceLT, Nat.reduceDiv, Nat.reduceSub, cval, cv, TS T] <;> rfl)) (by first | rfl | (simp only [MS, Nat.reduceBEq, Nat.reduceBNe, Nat.reduceEqDiff, reduceIte, if_true, if_false, reduceCtorEq, Nat.reduceAdd, Nat.reduceMul, Nat.reduceLeDiff, Nat.reduceLT, Nat.reduceDiv, Nat.reduceSub, cval, cv, TS T] <;> rfl)) (fun _ => rfl) ?_
  obtain ⟨h3, E3, hc3, S3⟩ := S2.step (xo + 2) (by simp) h32 hxb (sub_of hl rfl) (by simp only [wides, wide1, List.cons_append, List.nil_append] at hlen ⊢; omega)
  refine ⟨_, h3, hc3, Wo.nil ?_⟩
  refine hn3 _ ?_
  repeat refine Wc.assoc ?_
  refine Wc.seq fun K4 hn4 hx4 => ?_
  refine Wc.rg ?_
  refine Wo.val rfl (by first | rfl | (simp only [MS, Nat.reduceBEq, Nat.reduceBNe, Nat.reduceEqDiff, reduceIte, if_true, if_false, reduceCtorEq, Nat.reduceAdd, Nat.reduceMul, Nat.reduceLeDiff, Nat.reduceLT, Nat.reduceDiv, Nat.reduceSub, TS T] <;> rfl)) rfl ?_
  refine Wo.val rfl (by first | rfl | (simp only [MS, Nat.reduceBEq, Nat.reduceBNe, Nat.reduceEqDiff, reduceIte, if_true, if_false, reduceCtorEq, Nat.reduceAdd, Nat.reduceMul, Nat.reduceLeDiff, Nat.reduceLT, Nat.reduceDiv, Nat.reduceSub, TS T] <;> rfl)) rfl ?_
  refine Wo.val rfl (by first | rfl | (simp only [MS, Nat.reduceBEq, Nat.reduceBNe, Nat.reduceEqDiff, reduceIte, if_true, if_false, reduceCtorEq, Nat.reduceAdd, Nat.reduceMul, Nat.reduceLeDiff, Nat.reduceLT, Nat.reduceDiv, Nat.reduceSub, okCheck, TS T] <;> rfl)) rfl ?_
  refine Wo.val rfl (by simp only [MS, Nat.reduceBEq, Nat.reduceBNe, Nat.reduceEqDiff, reduceIte, if_true, if_false, reduceCtorEq, Nat.reduceAdd, Nat.reduceMul, Nat.reduceLeDiff, Nat.reduceLT, Nat.reduceDiv, Nat.reduceSub, TS T] <;> rfl) rfl ?_
  refine Wo.cl rfl rfl rfl (by first | rfl | (simp only [MS, Nat.reduceBEq, Nat.reduceBNe, Nat.reduceEqDiff, reduceIte, if_true, if_false, reduceCtorEq, Nat.reduceAdd, Nat.reduceMul, Nat.reduceLeDiff, Nat.reduceLT, Nat.reduceDiv, Nat.reduceSub, cval, cv, TS T] <;> rfl)) (by first | rfl | (simp only [MS, Nat.reduceBEq, Nat.reduceBNe, Nat.reduceEqDiff, reduceIte, if_true, if_false, reduceCtorEq, Nat.reduceAdd, Nat.reduceMul, Nat.reduceLeDiff, Nat.reduceLT, Nat.reduceDiv, Nat.reduceSub, cval, cv, TS T] <;> rfl)) (fun _ => rfl) ?_
  obtain ⟨h4, E4, hc4, S4⟩ := S3.step (xo + 3) (by simp) h32 hxb (sub_of hl rfl) (by simp only [wides, wide1, List.cons_append, List.nil_append] at hlen ⊢; omega)
  refine ⟨_, h4, hc4, Wo.nil ?_⟩
  refine hn4 _ ?_
  repeat refine Wc.assoc ?_
  refine Wc.seq fun K5 hn5 hx5 => ?_
  refine Wc.rg ?_
  refine Wo.val rfl (by first | rfl | (simp only [MS, Nat.reduceBEq, Nat.reduceBNe, Nat.reduceEqDiff, reduceIte, if_true, if_false, reduceCtorEq, Nat.reduceAdd, Nat.reduceMul, Nat.reduceLeDiff, Nat.reduceLT, Nat.reduceDiv, Nat.reduceSub, TS T] <;> rfl)) rfl ?_
  refine Wo.val rfl (by first | rfl | (simp only [MS, Nat.reduceBEq, Nat.reduceBNe, Nat.reduceEqDiff, reduceIte, if_true, if_false, reduceCtorEq, Nat.reduceAdd, Nat.reduceMul, Nat.reduceLeDiff, Nat.reduceLT, Nat.reduceDiv, Nat.reduceSub, TS T] <;> rfl)) rfl ?_
  refine Wo.val rfl (by first | rfl | (simp only [MS, Nat.reduceBEq, Nat.reduceBNe, Nat.reduceEqDiff, reduceIte, if_true, if_false, reduceCtorEq, Nat.reduceAdd, Nat.reduceMul, Nat.reduceLeDiff, Nat.reduceLT, Nat.reduceDiv, Nat.reduceSub, okCheck, TS T] <;> rfl)) rfl ?_
  refine Wo.val rfl (by simp only [MS, Nat.reduceBEq, Nat.reduceBNe, Nat.reduceEqDiff, reduceIte, if_true, if_false, reduceCtorEq, Nat.reduceAdd, Nat.reduceMul, Nat.reduceLeDiff, Nat.reduceLT, Nat.reduceDiv, Nat.reduceSub, TS T] <;> rfl) rfl ?_
  refine Wo.cl rfl rfl rfl (by first | rfl | (simp only [MS, Nat.reduceBEq, Nat.reduceBNe, Nat.reduceEqDiff, reduceIte, if_true, if_false, reduceCtorEq, Nat.reduceAdd, Nat.reduceMul, Nat.reduceLeDiff, Nat.reduceLT, Nat.reduceDiv, Nat.reduceSub, cval, cv, TS T] <;> rfl)) (by first | rfl | (simp only [MS, Nat.reduceBEq, Nat.reduceBNe, Nat.reduceEqDiff, reduceIte, if_true, if_false, reduceCtorEq, Nat.reduceAdd, Nat.reduceMul, Nat.reduceLeDiff, Nat.reduceLT, Nat.reduceDiv, Nat.reduceSub, cval, cv, TS T] <;> rfl)) (fun _ => rfl) ?_
  obtain ⟨h5, E5, hc5, S5⟩ := S4.step (xo + 4) (by simp) h32 hxb (sub_of hl rfl) (by simp only [wides, wide1, List.cons_append, List.nil_append] at hlen ⊢; omega)
  refine ⟨_, h5, hc5, Wo.nil ?_⟩
  refine hn5 _ ?_
  repeat refine Wc.assoc ?_
  refine Wc.seq fun K6 hn6 hx6 => ?_
  refine Wc.rg ?_
  refine Wo.val rfl (by first | rfl | (simp only [MS, Nat.reduceBEq, Nat.reduceBNe, Nat.reduceEqDiff, reduceIte, if_true, if_false, reduceCtorEq, Nat.reduceAdd, Nat.reduceMul, Nat.reduceLeDiff, Nat.reduceLT, Nat.reduceDiv, Nat.reduceSub, TS T] <;> rfl)) rfl ?_
  refine Wo.val rfl (by first | rfl | (simp only [MS, Nat.reduceBEq, Nat.reduceBNe, Nat.reduceEqDiff, reduceIte, if_true, if_false, reduceCtorEq, Nat.reduceAdd, Nat.reduceMul, Nat.reduceLeDiff, Nat.reduceLT, Nat.reduceDiv, Nat.reduceSub, TS T] <;> rfl)) rfl ?_
  refine Wo.val rfl (by first | rfl | (simp only [MS, Nat.reduceBEq, Nat.reduceBNe, Nat.reduceEqDiff, reduceIte, if_true, if_false, reduceCtorEq, Nat.reduceAdd, Nat.reduceMul, Nat.reduceLeDiff, Nat.reduceLT, Nat.reduceDiv, Nat.reduceSub, okCheck, TS T] <;> rfl)) rfl ?_
  refine Wo.val rfl (by simp only [MS, Nat.reduceBEq, Nat.reduceBNe, Nat.reduceEqDiff, reduceIte, if_true, if_false, reduceCtorEq, Nat.reduceAdd, Nat.reduceMul, Nat.reduceLeDiff, Nat.reduceLT, Nat.reduceDiv, Nat.reduceSub, TS T] <;> rfl) rfl ?_
  refine Wo.cl rfl rfl rfl (by first | rfl | (simp only [MS, Nat.reduceBEq, Nat.reduceBNe, Nat.reduceEqDiff, reduceIte, if_true, if_false, reduceCtorEq, Nat.reduceAdd, Nat.reduceMul, Nat.reduceLeDiff, Nat.reduceLT, Nat.reduceDiv, Nat.reduceSub, cval, cv, TS T] <;> rfl)) (by first | rfl | (simp only [MS, Nat.reduceBEq, Nat.reduceBNe, Nat.reduceEqDiff, reduceIte, if_true, if_false, reduceCtorEq, Nat.reduceAdd, Nat.reduceMul, Nat.reduceLeDiff, Nat.reduceLT, Nat.reduceDiv, Nat.reduceSub, cval, cv, TS T] <;> rfl)) (fun _ => rfl) ?_
  obtain ⟨h6, E6, hc6, S6⟩ := S5.step (xo + 5) (by simp) h32 hxb (sub_of hl rfl) (by simp only [wides, wide1, List.cons_append, List.nil_append] at hlen ⊢; omega)
  refine ⟨_, h6, hc6, Wo.nil ?_⟩
  refine hn6 _ ?_
  repeat refine Wc.assoc ?_
  refine Wc.seq fun K7 hn7 hx7 => ?_
  refine Wc.rg ?_
  refine Wo.val rfl (by first | rfl | (simp only [MS, Nat.reduceBEq, Nat.reduceBNe, Nat.reduceEqDiff, reduceIte, if_true, if_false, reduceCtorEq, Nat.reduceAdd, Nat.reduceMul, Nat.reduceLeDiff, Nat.reduceLT, Nat.reduceDiv, Nat.reduceSub, TS T] <;> rfl)) rfl ?_
  refine Wo.val rfl (by first | rfl | (simp only [MS, Nat.reduceBEq, Nat.reduceBNe, Nat.reduceEqDiff, reduceIte, if_true, if_false, reduceCtorEq, Nat.reduceAdd, Nat.reduceMul, Nat.reduceLeDiff, Nat.reduceLT, Nat.reduceDiv, Nat.reduceSub, TS T] <;> rfl)) rfl ?_
  refine Wo.val rfl (by first | rfl | (simp only [MS, Nat.reduceBEq, Nat.reduceBNe, Nat.reduceEqDiff, reduceIte, if_true, if_false, reduceCtorEq, Nat.reduceAdd, Nat.reduceMul, Nat.reduceLeDiff, Nat.reduceLT, Nat.reduceDiv, Nat.reduceSub, okCheck, TS T] <;> rfl)) rfl ?_
  refine Wo.val rfl (by simp only [MS, Nat.reduceBEq, Nat.reduceBNe, Nat.reduceEqDiff, reduceIte, if_true, if_false, reduceCtorEq, Nat.reduceAdd, Nat.reduceMul, Nat.reduceLeDiff, Nat.reduceLT, Nat.reduceDiv, Nat.reduceSub, TS T] <;> rfl) rfl ?_
  refine Wo.cl rfl rfl rfl (by first | rfl | (simp only [MS, Nat.reduceBEq, Nat.reduceBNe, Nat.reduceEqDiff, reduceIte, if_true, if_false, reduceCtorEq, Nat.reduceAdd, Nat.reduceMul, Nat.reduceLeDiff, Nat.reduceLT, Nat.reduceDiv, Nat.reduceSub, cval, cv, TS T] <;> rfl)) (by first | rfl | (simp only [MS, Nat.reduceBEq, Nat.reduceBNe, Nat.reduceEqDiff, reduceIte, if_true, if_false, reduceCtorEq, Nat.reduceAdd, Nat.reduceMul, Nat.reduceLeDiff, Nat.reduceLT, Nat.reduceDiv, Nat.reduceSub, cval, cv, TS T] <;> rfl)) (fun _ => rfl) ?_
  obtain ⟨h7, E7, hc7, S7⟩ := S6.step (xo + 6) (by simp) h32 hxb (sub_of hl rfl) (by simp only [wides, wide1, List.cons_append, List.nil_append] at hlen ⊢; omega)
  refine ⟨_, h7, hc7, Wo.nil ?_⟩
  refine hn7 _ ?_
  repeat refine Wc.assoc ?_
  refine Wc.rg ?_
  refine Wo.val rfl (by first | rfl | (simp only [MS, Nat.reduceBEq, Nat.reduceBNe, Nat.reduceEqDiff, reduceIte, if_true, if_false, reduceCtorEq, Nat.reduceAdd, Nat.reduceMul, Nat.reduceLeDiff, Nat.reduceLT, Nat.reduceDiv, Nat.reduceSub, TS T] <;> rfl)) rfl ?_
  refine Wo.val rfl (by first | rfl | (simp only [MS, Nat.reduceBEq, Nat.reduceBNe, Nat.reduceEqDiff, reduceIte, if_true, if_false, reduceCtorEq, Nat.reduceAdd, Nat.reduceMul, Nat.reduceLeDiff, Nat.reduceLT, Nat.reduceDiv, Nat.reduceSub, TS T] <;> rfl)) rfl ?_
  refine Wo.val rfl (by first | rfl | (simp only [MS, Nat.reduceBEq, Nat.reduceBNe, Nat.reduceEqDiff, reduceIte, if_true, if_false, reduceCtorEq, Nat.reduceAdd, Nat.reduceMul, Nat.reduceLeDiff, Nat.reduceLT, Nat.reduceDiv, Nat.reduceSub, okCheck, TS T] <;> rfl)) rfl ?_
  refine Wo.val rfl (by simp only [MS, Nat.reduceBEq, Nat.reduceBNe, Nat.reduceEqDiff, reduceIte, if_true, if_false, reduceCtorEq, Nat.reduceAdd, Nat.reduceMul, Nat.reduceLeDiff, Nat.reduceLT, Nat.reduceDiv, Nat.reduceSub, TS T] <;> rfl) rfl ?_
  refine Wo.cl rfl rfl rfl (by first | rfl | (simp only [MS, Nat.reduceBEq, Nat.reduceBNe, Nat.reduceEqDiff, reduceIte, if_true, if_false, reduceCtorEq, Nat.reduceAdd, Nat.reduceMul, Nat.reduceLeDiff, Nat.reduceLT, Nat.reduceDiv, Nat.reduceSub, cval, cv, TS T] <;> rfl)) (by first | rfl | (simp only [MS, Nat.reduceBEq, Nat.reduceBNe, Nat.reduceEqDiff, reduceIte, if_true, if_false, reduceCtorEq, Nat.reduceAdd, Nat.reduceMul, Nat.reduceLeDiff, Nat.reduceLT, Nat.reduceDiv, Nat.reduceSub, cval, cv, TS T] <;> rfl)) (fun _ => rfl) ?_
  obtain ⟨h8, E8, hc8, S8⟩ := S7.step (xo + 7) (by simp) h12 hxb (sub_of hl rfl) (by simp only [wides, wide1, List.cons_append, List.nil_append] at hlen ⊢; omega)
  refine ⟨_, h8, hc8, Wo.nil ?_⟩
  exact hn0 _ _ [] rfl ⟨rfl, E8, S8⟩

end Go.Mx

/- The seat's 'great' and 'same'. -/
namespace Go.Mx
open Go.Proofs
set_option maxRecDepth 100000
set_option maxHeartbeats 2000000

theorem S.fgreat_ok {tb fc} (T : S.Ty tb) {call call' : Caller} {lf : Nat} (hlf : 2000000000000 ≤ lf) (hc : ∀ args h, call' (.fn 27) args h = runF tb fc call lf Tryz.f27 args h) {h : Hp} {E : EyeS} (hE : EyeV 3 9 h E) (hl : E.ss.length ≤ 1000000000000) :
    ∃ t h', call' (.fn 27) [E.val] h = some (.ret (.b t), h') ∧ Ext h h' := by
  suffices H : Wf tb fc call lf Tryz.f27 [E.val] h (fun v h' => ∃ t, v = .b t ∧ Ext h h') by
    obtain ⟨v, h', h1, t, rfl, h2⟩ := H
    exact ⟨t, h', by rw [hc]; exact h1, h2⟩
  obtain ⟨hsl, hsx⟩ := (hE.s.ext (Ext.push h (.blk (2 * 50) [E.nv, E.sv, .b E.mark, .i .i64 E.at_, .b E.rm] true))).ix T.s
  obtain ⟨hnl, _⟩ := hE.n.ix T.n
  rw [List.length_map] at hsl hsx hnl
  refine Wf.intro (sz := 27) rfl rfl fun K hn0 hr0 => ?_
  repeat refine Wc.assoc ?_
  refine Wc.seq fun K1 hn1 hx1 => ?_
  refine Wc.rg ?_
  refine Wo.val rfl (by simp only [MS, Nat.reduceBEq, Nat.reduceBNe, Nat.reduceEqDiff, reduceIte, if_true, if_false, reduceCtorEq, Nat.reduceAdd, Nat.reduceMul, Nat.reduceLeDiff, Nat.reduceLT, Nat.reduceDiv, Nat.reduceSub, cval, cv, TS T, EyeS.val] <;> rfl) rfl ?_
  refine Wo.val rfl (by first | rfl | (simp only [MS, Nat.reduceBEq, Nat.reduceBNe, Nat.reduceEqDiff, reduceIte, if_true, if_false, reduceCtorEq, Nat.reduceAdd, Nat.reduceMul, Nat.reduceLeDiff, Nat.reduceLT, Nat.reduceDiv, Nat.reduceSub, cval, cv, TS T, EyeS.val] <;> rfl)) rfl ?_
  refine Wo.nil ?_
  refine hn1 _ ?_
  have hg1 : (h.push (.blk (2 * 50) [E.nv, E.sv, .b E.mark, .i .i64 E.at_, .b E.rm] true)).get h.n = some (.blk 100 [E.nv, E.sv, .b E.mark, .i .i64 E.at_, .b E.rm] true) := Hp.get_push_self _ _
  have hx0 := Ext.push h (.blk (2 * 50) [E.nv, E.sv, .b E.mark, .i .i64 E.at_, .b E.rm] true)
  generalize h.push (.blk (2 * 50) [E.nv, E.sv, .b E.mark, .i .i64 E.at_, .b E.rm] true) = h1 at hg1 hx0 hsx ⊢
  repeat refine Wc.assoc ?_
  refine Wc.seq fun K2 hn2 hx2 => ?_
  refine Wc.rg ?_
  refine Wo.val rfl (by first | rfl | (simp only [MS, Nat.reduceBEq, Nat.reduceBNe, Nat.reduceEqDiff, reduceIte, if_true, if_false, reduceCtorEq, Nat.reduceAdd, Nat.reduceMul, Nat.reduceLeDiff, Nat.reduceLT, Nat.reduceDiv, Nat.reduceSub, cval, cv, TS T] <;> rfl)) rfl ?_
  refine Wo.nil ?_
  refine hn2 _ ?_
  repeat refine Wc.assoc ?_
  refine Wc.seq fun K3 hn3 hx3 => ?_
  refine Wc.rg ?_
  refine Wo.val rfl (by first | rfl | (simp only [MS, Nat.reduceBEq, Nat.reduceBNe, Nat.reduceEqDiff, reduceIte, if_true, if_false, reduceCtorEq, Nat.reduceAdd, Nat.reduceMul, Nat.reduceLeDiff, Nat.reduceLT, Nat.reduceDiv, Nat.reduceSub, cval, cv, TS T] <;> rfl)) rfl ?_
  refine Wo.nil ?_
  refine hn3 _ ?_
  repeat refine Wc.assoc ?_
  refine Wc.seq fun K4 hn4 hx4 => ?_
  refine Wc.block fun K5 hb5 hx5 => ?_
  refine Wc.loop (fun k s => ∃ i fr x, s = ⟨fr, [], h1⟩ ∧ i + k = E.ss.length ∧ look fr 1 = some (.p h.n 0) ∧ look fr 3 = some (.i .i64 x) ∧ look fr 4 = some (.i .i64 (i : Nat))) E.ss.length (by omega) ⟨0, _, 0, rfl, by omega, rfl, rfl, rfl⟩ ?_
  rintro k _ ⟨i, fr, x, rfl, hik, f1, f3, f4⟩ KL hnL hxL
  repeat refine Wc.assoc ?_
  refine Wc.seq fun K6 hn6 hx6 => ?_
  refine Wc.rg ?_
  refine Wo.val rfl (by first | rfl | (simp only [MS, Nat.reduceBEq, Nat.reduceBNe, Nat.reduceEqDiff, reduceIte, if_true, if_false, reduceCtorEq, Nat.reduceAdd, Nat.reduceMul, Nat.reduceLeDiff, Nat.reduceLT, Nat.reduceDiv, Nat.reduceSub, TS T, f1, f4, hg1, hsl] <;> rfl)) rfl ?_
  refine Wo.val rfl (by simp only [MS, Nat.reduceBEq, Nat.reduceBNe, Nat.reduceEqDiff, reduceIte, if_true, if_false, reduceCtorEq, Nat.reduceAdd, Nat.reduceMul, Nat.reduceLeDiff, Nat.reduceLT, Nat.reduceDiv, Nat.reduceSub, TS T, f1, f4, hg1, hsl] <;> rfl) rfl ?_
  refine Wo.val rfl (by simp only [MS, Nat.reduceBEq, Nat.reduceBNe, Nat.reduceEqDiff, reduceIte, if_true, if_false, reduceCtorEq, Nat.reduceAdd, Nat.reduceMul, Nat.reduceLeDiff, Nat.reduceLT, Nat.reduceDiv, Nat.reduceSub, loadA, partV, TS T, f1, f4, hg1, hsl] <;> rfl) rfl ?_
  refine Wo.val rfl (by simp only [MS, Nat.reduceBEq, Nat.reduceBNe, Nat.reduceEqDiff, reduceIte, if_true, if_false, reduceCtorEq, Nat.reduceAdd, Nat.reduceMul, Nat.reduceLeDiff, Nat.reduceLT, Nat.reduceDiv, Nat.reduceSub, cval, cv, TS T, f1, f4, hg1, hsl] <;> rfl) rfl ?_
  refine Wo.val rfl (by simp only [MS, Nat.reduceBEq, Nat.reduceBNe, Nat.reduceEqDiff, reduceIte, if_true, if_false, reduceCtorEq, Nat.reduceAdd, Nat.reduceMul, Nat.reduceLeDiff, Nat.reduceLT, Nat.reduceDiv, Nat.reduceSub, binA, arithA, strA, isC, cval, cv, TS T, f1, f4, hg1, hsl] <;> rfl) rfl ?_
  refine Wo.nil ?_
  refine hn6 _ ?_
  refine Wc.seq fun K7 hn7 hx7 => ?_
  refine Wc.cond (t := decide ((i : Int) < (E.ss.length : Int))) rfl (fun hd => ?_) fun hd => ?_
  · refine Wc.skip (hn7 _ ?_)
    have hi : i < E.ss.length := by have := of_decide_eq_true hd; omega
    obtain ⟨b, ty, hia, hblt, hgb⟩ := hsx i hi
    have hgi : (E.ss.map V.s)[i]? = some (.s E.ss[i]) := by simp [hi]
    refine Wc.seq fun K8 hn8 hx8 => ?_
    refine Wc.block fun K9 hb9 hx9 => ?_
    repeat refine Wc.assoc ?_
    refine Wc.seq fun K10 hn10 hx10 => ?_
    refine Wc.rg ?_
    refine Wo.val rfl (by first | rfl | (simp only [MS, Nat.reduceBEq, Nat.reduceBNe, Nat.reduceEqDiff, reduceIte, if_true, if_false, reduceCtorEq, Nat.reduceAdd, Nat.reduceMul, Nat.reduceLeDiff, Nat.reduceLT, Nat.reduceDiv, Nat.reduceSub, TS T, f1, f3, f4, hg1, hia, hgb, hgi] <;> rfl)) rfl ?_
    refine Wo.val rfl (by simp only [MS, Nat.reduceBEq, Nat.reduceBNe, Nat.reduceEqDiff, reduceIte, if_true, if_false, reduceCtorEq, Nat.reduceAdd, Nat.reduceMul, Nat.reduceLeDiff, Nat.reduceLT, Nat.reduceDiv, Nat.reduceSub, TS T, f1, f3, f4, hg1, hia, hgb, hgi] <;> rfl) rfl ?_
    refine Wo.val rfl (by simp only [MS, Nat.reduceBEq, Nat.reduceBNe, Nat.reduceEqDiff, reduceIte, if_true, if_false, reduceCtorEq, Nat.reduceAdd, Nat.reduceMul, Nat.reduceLeDiff, Nat.reduceLT, Nat.reduceDiv, Nat.reduceSub, loadA, partV, TS T, f1, f3, f4, hg1, hia, hgb, hgi] <;> rfl) rfl ?_
    refine Wo.val rfl (by first | rfl | (simp only [MS, Nat.reduceBEq, Nat.reduceBNe, Nat.reduceEqDiff, reduceIte, if_true, if_false, reduceCtorEq, Nat.reduceAdd, Nat.reduceMul, Nat.reduceLeDiff, Nat.reduceLT, Nat.reduceDiv, Nat.reduceSub, TS T, f1, f3, f4, hg1, hia, hgb, hgi] <;> rfl)) rfl ?_
    refine Wo.val rfl (by simp only [MS, Nat.reduceBEq, Nat.reduceBNe, Nat.reduceEqDiff, reduceIte, if_true, if_false, reduceCtorEq, Nat.reduceAdd, Nat.reduceMul, Nat.reduceLeDiff, Nat.reduceLT, Nat.reduceDiv, Nat.reduceSub, cval, cv, TS T, f1, f3, f4, hg1, hia, hgb, hgi] <;> rfl) rfl ?_
    refine Wo.val rfl (by simp only [MS, Nat.reduceBEq, Nat.reduceBNe, Nat.reduceEqDiff, reduceIte, if_true, if_false, reduceCtorEq, Nat.reduceAdd, Nat.reduceMul, Nat.reduceLeDiff, Nat.reduceLT, Nat.reduceDiv, Nat.reduceSub, loadA, partV, TS T, f1, f3, f4, hg1, hia, hgb, hgi] <;> rfl) rfl ?_
    refine Wo.val rfl (by simp only [MS, Nat.reduceBEq, Nat.reduceBNe, Nat.reduceEqDiff, reduceIte, if_true, if_false, reduceCtorEq, Nat.reduceAdd, Nat.reduceMul, Nat.reduceLeDiff, Nat.reduceLT, Nat.reduceDiv, Nat.reduceSub, bltA, intsA, intsA.go, cval, cv, TS T, f1, f3, f4, hg1, hia, hgb, hgi] <;> rfl) rfl ?_
    refine Wo.val rfl (by simp only [MS, Nat.reduceBEq, Nat.reduceBNe, Nat.reduceEqDiff, reduceIte, if_true, if_false, reduceCtorEq, Nat.reduceAdd, Nat.reduceMul, Nat.reduceLeDiff, Nat.reduceLT, Nat.reduceDiv, Nat.reduceSub, bltA, intsA, intsA.go, cval, cv, TS T, f1, f3, f4, hg1, hia, hgb, hgi] <;> rfl) rfl ?_
    refine Wo.val rfl (by simp only [MS, Nat.reduceBEq, Nat.reduceBNe, Nat.reduceEqDiff, reduceIte, if_true, if_false, reduceCtorEq, Nat.reduceAdd, Nat.reduceMul, Nat.reduceLeDiff, Nat.reduceLT, Nat.reduceDiv, Nat.reduceSub, binA, arithA, strA, isC, cval, cv, TS T, f1, f3, f4, hg1, hia, hgb, hgi] <;> rfl) rfl ?_
    refine Wo.val rfl (by first | rfl | (simp only [MS, Nat.reduceBEq, Nat.reduceBNe, Nat.reduceEqDiff, reduceIte, if_true, if_false, reduceCtorEq, Nat.reduceAdd, Nat.reduceMul, Nat.reduceLeDiff, Nat.reduceLT, Nat.reduceDiv, Nat.reduceSub, cval, cv, TS T, f1, f3, f4, hg1, hia, hgb, hgi] <;> rfl)) rfl ?_
    refine Wo.nil ?_
    refine hn10 _ ?_
    repeat refine Wc.assoc ?_
    refine Wc.seq fun K11 hn11 hx11 => ?_
    refine Wc.rg ?_
    refine Wo.val rfl (by first | rfl | (simp only [MS, Nat.reduceBEq, Nat.reduceBNe, Nat.reduceEqDiff, reduceIte, if_true, if_false, reduceCtorEq, Nat.reduceAdd, Nat.reduceMul, Nat.reduceLeDiff, Nat.reduceLT, Nat.reduceDiv, Nat.reduceSub, TS T] <;> rfl)) rfl ?_
    refine Wo.val rfl (by simp only [MS, Nat.reduceBEq, Nat.reduceBNe, Nat.reduceEqDiff, reduceIte, if_true, if_false, reduceCtorEq, Nat.reduceAdd, Nat.reduceMul, Nat.reduceLeDiff, Nat.reduceLT, Nat.reduceDiv, Nat.reduceSub, binA, arithA, strA, isC, cval, cv, TS T] <;> rfl) rfl ?_
    refine Wo.nil ?_
    refine hn11 _ ?_
    refine Wc.cond rfl (fun hd => ?_) fun hd => ?_
    · repeat refine Wc.assoc ?_
      refine Wc.seq fun K12 hn12 hx12 => ?_
      refine Wc.rg ?_
      refine Wo.val rfl (by first | rfl | (simp only [MS, Nat.reduceBEq, Nat.reduceBNe, Nat.reduceEqDiff, reduceIte, if_true, if_false, reduceCtorEq, Nat.reduceAdd, Nat.reduceMul, Nat.reduceLeDiff, Nat.reduceLT, Nat.reduceDiv, Nat.reduceSub, cval, cv, TS T] <;> rfl)) rfl ?_
      refine Wo.nil ?_
      refine hn12 _ (Wc.ret (hx9 _ _ (by simp) (hx8 _ _ (by simp) (hxL _ _ (by simp) (hx5 _ _ (by simp) (hx4 _ _ (by simp) (hr0 _ _ [.b true] rfl ⟨true, rfl, hx0⟩)))))))
    · refine Wc.skip (hx9 _ _ (by simp) (hn8 _ ?_))
      have hw := w64 (n := i) (by omega)
      refine Wc.rg ?_
      refine Wo.val rfl (by first | rfl | (simp only [MS, Nat.reduceBEq, Nat.reduceBNe, Nat.reduceEqDiff, reduceIte, if_true, if_false, reduceCtorEq, Nat.reduceAdd, Nat.reduceMul, Nat.reduceLeDiff, Nat.reduceLT, Nat.reduceDiv, Nat.reduceSub, TS T, f4, hw] <;> rfl)) rfl ?_
      refine Wo.val rfl (by simp only [MS, Nat.reduceBEq, Nat.reduceBNe, Nat.reduceEqDiff, reduceIte, if_true, if_false, reduceCtorEq, Nat.reduceAdd, Nat.reduceMul, Nat.reduceLeDiff, Nat.reduceLT, Nat.reduceDiv, Nat.reduceSub, binA, arithA, strA, isC, cval, cv, TS T, f4, hw] <;> rfl) rfl ?_
      refine Wo.val rfl (by first | rfl | (simp only [MS, Nat.reduceBEq, Nat.reduceBNe, Nat.reduceEqDiff, reduceIte, if_true, if_false, reduceCtorEq, Nat.reduceAdd, Nat.reduceMul, Nat.reduceLeDiff, Nat.reduceLT, Nat.reduceDiv, Nat.reduceSub, cval, cv, TS T, f4, hw] <;> rfl)) rfl ?_
      refine Wo.nil ?_
      exact hnL _ (k - 1) (by omega) ⟨i + 1, _, _, rfl, by omega, by simp [look, f1], rfl, rfl⟩
  · refine Wc.exit (hx7 _ _ (by simp) (hxL _ _ (by simp) (hb5 _ (hn4 _ ?_))))
    refine Wc.seq fun K13 hn13 hx13 => ?_
    refine Wc.rg ?_
    refine Wo.val rfl (by simp only [MS, Nat.reduceBEq, Nat.reduceBNe, Nat.reduceEqDiff, reduceIte, if_true, if_false, reduceCtorEq, Nat.reduceAdd, Nat.reduceMul, Nat.reduceLeDiff, Nat.reduceLT, Nat.reduceDiv, Nat.reduceSub, TS T, f1, hg1, hnl] <;> rfl) rfl ?_
    refine Wo.val rfl (by simp only [MS, Nat.reduceBEq, Nat.reduceBNe, Nat.reduceEqDiff, reduceIte, if_true, if_false, reduceCtorEq, Nat.reduceAdd, Nat.reduceMul, Nat.reduceLeDiff, Nat.reduceLT, Nat.reduceDiv, Nat.reduceSub, loadA, partV, TS T, f1, hg1, hnl] <;> rfl) rfl ?_
    refine Wo.val rfl (by simp only [MS, Nat.reduceBEq, Nat.reduceBNe, Nat.reduceEqDiff, reduceIte, if_true, if_false, reduceCtorEq, Nat.reduceAdd, Nat.reduceMul, Nat.reduceLeDiff, Nat.reduceLT, Nat.reduceDiv, Nat.reduceSub, cval, cv, TS T, f1, hg1, hnl] <;> rfl) rfl ?_
    refine Wo.val rfl (by simp only [MS, Nat.reduceBEq, Nat.reduceBNe, Nat.reduceEqDiff, reduceIte, if_true, if_false, reduceCtorEq, Nat.reduceAdd, Nat.reduceMul, Nat.reduceLeDiff, Nat.reduceLT, Nat.reduceDiv, Nat.reduceSub, binA, arithA, strA, isC, cval, cv, TS T, f1, hg1, hnl] <;> rfl) rfl ?_
    refine Wo.val rfl (by first | rfl | (simp only [MS, Nat.reduceBEq, Nat.reduceBNe, Nat.reduceEqDiff, reduceIte, if_true, if_false, reduceCtorEq, Nat.reduceAdd, Nat.reduceMul, Nat.reduceLeDiff, Nat.reduceLT, Nat.reduceDiv, Nat.reduceSub, cval, cv, TS T, f1, hg1, hnl] <;> rfl)) rfl ?_
    refine Wo.nil ?_
    exact hn13 _ (Wc.ret (hr0 _ _ [_] rfl ⟨_, rfl, hx0⟩))

theorem S.fsame_ok {tb fc} (T : S.Ty tb) {call call' : Caller} {lf : Nat} (hlf : 2000000000000 ≤ lf) (hc : ∀ args h, call' (.fn 29) args h = runF tb fc call lf Tryz.f29 args h) {h : Hp} {E D : EyeS} (hE : EyeV 3 9 h E) (hD : EyeV 3 9 h D) (hn : E.ns = D.ns) (hs : E.ss = D.ss)
    (hl : E.ns.length ≤ 1000000000000) (hl2 : E.ss.length ≤ 1000000000000) : ∃ h', call' (.fn 29) [E.val, D.val] h = some (.ret (.b true), h') ∧ Ext h h' := by
  suffices H : Wf tb fc call lf Tryz.f29 [E.val, D.val] h (fun v h' => v = .b true ∧ Ext h h') by
    obtain ⟨v, h', h1, rfl, h2⟩ := H
    exact ⟨h', by rw [hc]; exact h1, h2⟩
  have x1 := Ext.push h (.blk (2 * 50) [E.nv, E.sv, .b E.mark, .i .i64 E.at_, .b E.rm] true)
  have x2 := Ext.push (h.push (.blk (2 * 50) [E.nv, E.sv, .b E.mark, .i .i64 E.at_, .b E.rm] true)) (.blk (2 * 50) [D.nv, D.sv, .b D.mark, .i .i64 D.at_, .b D.rm] true)
  have hx0 := x1.trans x2
  have hg1 : ((h.push (.blk (2 * 50) [E.nv, E.sv, .b E.mark, .i .i64 E.at_, .b E.rm] true)).push (.blk (2 * 50) [D.nv, D.sv, .b D.mark, .i .i64 D.at_, .b D.rm] true)).get h.n = some (.blk 100 [E.nv, E.sv, .b E.mark, .i .i64 E.at_, .b E.rm] true) := by simp [Hp.get_push]
  have hg2 : ((h.push (.blk (2 * 50) [E.nv, E.sv, .b E.mark, .i .i64 E.at_, .b E.rm] true)).push (.blk (2 * 50) [D.nv, D.sv, .b D.mark, .i .i64 D.at_, .b D.rm] true)).get (h.n + 1) = some (.blk 100 [D.nv, D.sv, .b D.mark, .i .i64 D.at_, .b D.rm] true) := by simp [Hp.get_push]
  refine Wf.intro (sz := 59) rfl rfl fun K hn0 hr0 => ?_
  repeat refine Wc.assoc ?_
  refine Wc.seq fun K1 hn1 hx1 => ?_
  refine Wc.rg ?_
  refine Wo.val rfl (by simp only [MS, Nat.reduceBEq, Nat.reduceBNe, Nat.reduceEqDiff, reduceIte, if_true, if_false, reduceCtorEq, Nat.reduceAdd, Nat.reduceMul, Nat.reduceLeDiff, Nat.reduceLT, Nat.reduceDiv, Nat.reduceSub, cval, cv, TS T, EyeS.val] <;> rfl) rfl ?_
  refine Wo.val rfl (by simp only [MS, Nat.reduceBEq, Nat.reduceBNe, Nat.reduceEqDiff, reduceIte, if_true, if_false, reduceCtorEq, Nat.reduceAdd, Nat.reduceMul, Nat.reduceLeDiff, Nat.reduceLT, Nat.reduceDiv, Nat.reduceSub, cval, cv, TS T, EyeS.val] <;> rfl) rfl ?_
  refine Wo.val rfl (by first | rfl | (simp only [MS, Nat.reduceBEq, Nat.reduceBNe, Nat.reduceEqDiff, reduceIte, if_true, if_false, reduceCtorEq, Nat.reduceAdd, Nat.reduceMul, Nat.reduceLeDiff, Nat.reduceLT, Nat.reduceDiv, Nat.reduceSub, cval, cv, TS T, EyeS.val] <;> rfl)) rfl ?_
  refine Wo.nil ?_
  refine hn1 _ ?_
  generalize ((h.push (.blk (2 * 50) [E.nv, E.sv, .b E.mark, .i .i64 E.at_, .b E.rm] true)).push (.blk (2 * 50) [D.nv, D.sv, .b D.mark, .i .i64 D.at_, .b D.rm] true)) = h1 at hg1 hg2 hx0 ⊢
  have eE := hE.ext hx0
  have eD := hD.ext hx0
  obtain ⟨hEn, hEnx⟩ := eE.n.ix T.n
  obtain ⟨hEs, hEsx⟩ := eE.s.ix T.s
  obtain ⟨hDn, hDnx⟩ := eD.n.ix T.n
  obtain ⟨hDs, hDsx⟩ := eD.s.ix T.s
  rw [List.length_map] at hEn hEnx hEs hEsx hDn hDnx hDs hDsx
  rw [← hn] at hDn hDnx
  rw [← hs] at hDs hDsx
  repeat refine Wc.assoc ?_
  refine Wc.seq fun K2 hn2 hx2 => ?_
  refine Wc.rg ?_
  refine Wo.val rfl (by simp only [MS, Nat.reduceBEq, Nat.reduceBNe, Nat.reduceEqDiff, reduceIte, if_true, if_false, reduceCtorEq, Nat.reduceAdd, Nat.reduceMul, Nat.reduceLeDiff, Nat.reduceLT, Nat.reduceDiv, Nat.reduceSub, TS T, hg1, hg2, hEn, hEs, hDn, hDs, bne_self_eq_false] <;> rfl) rfl ?_
  refine Wo.val rfl (by simp only [MS, Nat.reduceBEq, Nat.reduceBNe, Nat.reduceEqDiff, reduceIte, if_true, if_false, reduceCtorEq, Nat.reduceAdd, Nat.reduceMul, Nat.reduceLeDiff, Nat.reduceLT, Nat.reduceDiv, Nat.reduceSub, loadA, partV, TS T, hg1, hg2, hEn, hEs, hDn, hDs, bne_self_eq_false] <;> rfl) rfl ?_
  refine Wo.val rfl (by simp only [MS, Nat.reduceBEq, Nat.reduceBNe, Nat.reduceEqDiff, reduceIte, if_true, if_false, reduceCtorEq, Nat.reduceAdd, Nat.reduceMul, Nat.reduceLeDiff, Nat.reduceLT, Nat.reduceDiv, Nat.reduceSub, cval, cv, TS T, hg1, hg2, hEn, hEs, hDn, hDs, bne_self_eq_false] <;> rfl) rfl ?_
  refine Wo.val rfl (by simp only [MS, Nat.reduceBEq, Nat.reduceBNe, Nat.reduceEqDiff, reduceIte, if_true, if_false, reduceCtorEq, Nat.reduceAdd, Nat.reduceMul, Nat.reduceLeDiff, Nat.reduceLT, Nat.reduceDiv, Nat.reduceSub, TS T, hg1, hg2, hEn, hEs, hDn, hDs, bne_self_eq_false] <;> rfl) rfl ?_
  refine Wo.val rfl (by simp only [MS, Nat.reduceBEq, Nat.reduceBNe, Nat.reduceEqDiff, reduceIte, if_true, if_false, reduceCtorEq, Nat.reduceAdd, Nat.reduceMul, Nat.reduceLeDiff, Nat.reduceLT, Nat.reduceDiv, Nat.reduceSub, loadA, partV, TS T, hg1, hg2, hEn, hEs, hDn, hDs, bne_self_eq_false] <;> rfl) rfl ?_
  refine Wo.val rfl (by simp only [MS, Nat.reduceBEq, Nat.reduceBNe, Nat.reduceEqDiff, reduceIte, if_true, if_false, reduceCtorEq, Nat.reduceAdd, Nat.reduceMul, Nat.reduceLeDiff, Nat.reduceLT, Nat.reduceDiv, Nat.reduceSub, cval, cv, TS T, hg1, hg2, hEn, hEs, hDn, hDs, bne_self_eq_false] <;> rfl) rfl ?_
  refine Wo.val rfl (by simp only [MS, Nat.reduceBEq, Nat.reduceBNe, Nat.reduceEqDiff, reduceIte, if_true, if_false, reduceCtorEq, Nat.reduceAdd, Nat.reduceMul, Nat.reduceLeDiff, Nat.reduceLT, Nat.reduceDiv, Nat.reduceSub, binA, arithA, strA, isC, cval, cv, TS T, hg1, hg2, hEn, hEs, hDn, hDs, bne_self_eq_false] <;> rfl) rfl ?_
  refine Wo.val rfl (by first | rfl | (simp only [MS, Nat.reduceBEq, Nat.reduceBNe, Nat.reduceEqDiff, reduceIte, if_true, if_false, reduceCtorEq, Nat.reduceAdd, Nat.reduceMul, Nat.reduceLeDiff, Nat.reduceLT, Nat.reduceDiv, Nat.reduceSub, TS T, hg1, hg2, hEn, hEs, hDn, hDs, bne_self_eq_false] <;> rfl)) rfl ?_
  refine Wo.val (by first | rfl | (simp only [wantedA, wantedP, evR, List.contains, List.elem, MS, Nat.reduceBEq, Nat.reduceBNe, Nat.reduceEqDiff, reduceIte, if_true, if_false, reduceCtorEq, Nat.reduceAdd, Nat.reduceMul, Nat.reduceLeDiff, Nat.reduceLT, Nat.reduceDiv, Nat.reduceSub, hg1, hg2, hEn, hEs, hDn, hDs, bne_self_eq_false] <;> rfl)) (by simp only [MS, Nat.reduceBEq, Nat.reduceBNe, Nat.reduceEqDiff, reduceIte, if_true, if_false, reduceCtorEq, Nat.reduceAdd, Nat.reduceMul, Nat.reduceLeDiff, Nat.reduceLT, Nat.reduceDiv, Nat.reduceSub, TS T, hg1, hg2, hEn, hEs, hDn, hDs, bne_self_eq_false] <;> rfl) rfl ?_
  refine Wo.val (by first | rfl | (simp only [wantedA, wantedP, evR, List.contains, List.elem, MS, Nat.reduceBEq, Nat.reduceBNe, Nat.reduceEqDiff, reduceIte, if_true, if_false, reduceCtorEq, Nat.reduceAdd, Nat.reduceMul, Nat.reduceLeDiff, Nat.reduceLT, Nat.reduceDiv, Nat.reduceSub, hg1, hg2, hEn, hEs, hDn, hDs, bne_self_eq_false] <;> rfl)) (by simp only [MS, Nat.reduceBEq, Nat.reduceBNe, Nat.reduceEqDiff, reduceIte, if_true, if_false, reduceCtorEq, Nat.reduceAdd, Nat.reduceMul, Nat.reduceLeDiff, Nat.reduceLT, Nat.reduceDiv, Nat.reduceSub, loadA, partV, TS T, hg1, hg2, hEn, hEs, hDn, hDs, bne_self_eq_false] <;> rfl) rfl ?_
  refine Wo.val (by first | rfl | (simp only [wantedA, wantedP, evR, List.contains, List.elem, MS, Nat.reduceBEq, Nat.reduceBNe, Nat.reduceEqDiff, reduceIte, if_true, if_false, reduceCtorEq, Nat.reduceAdd, Nat.reduceMul, Nat.reduceLeDiff, Nat.reduceLT, Nat.reduceDiv, Nat.reduceSub, hg1, hg2, hEn, hEs, hDn, hDs, bne_self_eq_false] <;> rfl)) (by simp only [MS, Nat.reduceBEq, Nat.reduceBNe, Nat.reduceEqDiff, reduceIte, if_true, if_false, reduceCtorEq, Nat.reduceAdd, Nat.reduceMul, Nat.reduceLeDiff, Nat.reduceLT, Nat.reduceDiv, Nat.reduceSub, cval, cv, TS T, hg1, hg2, hEn, hEs, hDn, hDs, bne_self_eq_false] <;> rfl) rfl ?_
  refine Wo.val (by first | rfl | (simp only [wantedA, wantedP, evR, List.contains, List.elem, MS, Nat.reduceBEq, Nat.reduceBNe, Nat.reduceEqDiff, reduceIte, if_true, if_false, reduceCtorEq, Nat.reduceAdd, Nat.reduceMul, Nat.reduceLeDiff, Nat.reduceLT, Nat.reduceDiv, Nat.reduceSub, hg1, hg2, hEn, hEs, hDn, hDs, bne_self_eq_false] <;> rfl)) (by simp only [MS, Nat.reduceBEq, Nat.reduceBNe, Nat.reduceEqDiff, reduceIte, if_true, if_false, reduceCtorEq, Nat.reduceAdd, Nat.reduceMul, Nat.reduceLeDiff, Nat.reduceLT, Nat.reduceDiv, Nat.reduceSub, TS T, hg1, hg2, hEn, hEs, hDn, hDs, bne_self_eq_false] <;> rfl) rfl ?_
  refine Wo.val (by first | rfl | (simp only [wantedA, wantedP, evR, List.contains, List.elem, MS, Nat.reduceBEq, Nat.reduceBNe, Nat.reduceEqDiff, reduceIte, if_true, if_false, reduceCtorEq, Nat.reduceAdd, Nat.reduceMul, Nat.reduceLeDiff, Nat.reduceLT, Nat.reduceDiv, Nat.reduceSub, hg1, hg2, hEn, hEs, hDn, hDs, bne_self_eq_false] <;> rfl)) (by simp only [MS, Nat.reduceBEq, Nat.reduceBNe, Nat.reduceEqDiff, reduceIte, if_true, if_false, reduceCtorEq, Nat.reduceAdd, Nat.reduceMul, Nat.reduceLeDiff, Nat.reduceLT, Nat.reduceDiv, Nat.reduceSub, loadA, partV, TS T, hg1, hg2, hEn, hEs, hDn, hDs, bne_self_eq_false] <;> rfl) rfl ?_
  refine Wo.val (by first | rfl | (simp only [wantedA, wantedP, evR, List.contains, List.elem, MS, Nat.reduceBEq, Nat.reduceBNe, Nat.reduceEqDiff, reduceIte, if_true, if_false, reduceCtorEq, Nat.reduceAdd, Nat.reduceMul, Nat.reduceLeDiff, Nat.reduceLT, Nat.reduceDiv, Nat.reduceSub, hg1, hg2, hEn, hEs, hDn, hDs, bne_self_eq_false] <;> rfl)) (by simp only [MS, Nat.reduceBEq, Nat.reduceBNe, Nat.reduceEqDiff, reduceIte, if_true, if_false, reduceCtorEq, Nat.reduceAdd, Nat.reduceMul, Nat.reduceLeDiff, Nat.reduceLT, Nat.reduceDiv, Nat.reduceSub, cval, cv, TS T, hg1, hg2, hEn, hEs, hDn, hDs, bne_self_eq_false] <;> rfl) rfl ?_
  refine Wo.val (by first | rfl | (simp only [wantedA, wantedP, evR, List.contains, List.elem, MS, Nat.reduceBEq, Nat.reduceBNe, Nat.reduceEqDiff, reduceIte, if_true, if_false, reduceCtorEq, Nat.reduceAdd, Nat.reduceMul, Nat.reduceLeDiff, Nat.reduceLT, Nat.reduceDiv, Nat.reduceSub, hg1, hg2, hEn, hEs, hDn, hDs, bne_self_eq_false] <;> rfl)) (by simp only [MS, Nat.reduceBEq, Nat.reduceBNe, Nat.reduceEqDiff, reduceIte, if_true, if_false, reduceCtorEq, Nat.reduceAdd, Nat.reduceMul, Nat.reduceLeDiff, Nat.reduceLT, Nat.reduceDiv, Nat.reduceSub, binA, arithA, strA, isC, cval, cv, TS T, hg1, hg2, hEn, hEs, hDn, hDs, bne_self_eq_false] <;> rfl) rfl ?_
  refine Wo.val rfl (by first | rfl | (simp only [MS, Nat.reduceBEq, Nat.reduceBNe, Nat.reduceEqDiff, reduceIte, if_true, if_false, reduceCtorEq, Nat.reduceAdd, Nat.reduceMul, Nat.reduceLeDiff, Nat.reduceLT, Nat.reduceDiv, Nat.reduceSub, cval, cv, TS T, hg1, hg2, hEn, hEs, hDn, hDs, bne_self_eq_false] <;> rfl)) rfl ?_
  refine Wo.nil ?_
  refine hn2 _ ?_
  repeat refine Wc.assoc ?_
  refine Wc.seq fun K3 hn3 hx3 => ?_
  refine Wc.cond (t := false) rfl (fun h => by cases h) fun _ => ?_
  refine Wc.skip (hn3 _ ?_)
  repeat refine Wc.assoc ?_
  refine Wc.seq fun K4 hn4 hx4 => ?_
  refine Wc.rg ?_
  refine Wo.val rfl (by first | rfl | (simp only [MS, Nat.reduceBEq, Nat.reduceBNe, Nat.reduceEqDiff, reduceIte, if_true, if_false, reduceCtorEq, Nat.reduceAdd, Nat.reduceMul, Nat.reduceLeDiff, Nat.reduceLT, Nat.reduceDiv, Nat.reduceSub, cval, cv, TS T] <;> rfl)) rfl ?_
  refine Wo.nil ?_
  refine hn4 _ ?_
  repeat refine Wc.assoc ?_
  refine Wc.seq fun K5 hn5 hx5 => ?_
  refine Wc.block fun K6 hb6 hx6 => ?_
  refine Wc.loop (fun k s => ∃ i fr, s = ⟨fr, [], h1⟩ ∧ i + k = E.ns.length ∧ look fr 2 = some (.p h.n 0) ∧ look fr 3 = some (.p (h.n + 1) 0) ∧ look fr 5 = some (.i .i64 (i : Nat))) E.ns.length (by omega) ⟨0, _, rfl, by omega, rfl, rfl, rfl⟩ ?_
  rintro k _ ⟨i, fr, rfl, hik, f2, f3, f5⟩ KL hnL hxL
  repeat refine Wc.assoc ?_
  refine Wc.seq fun K7 hn7 hx7 => ?_
  refine Wc.rg ?_
  refine Wo.val rfl (by first | rfl | (simp only [MS, Nat.reduceBEq, Nat.reduceBNe, Nat.reduceEqDiff, reduceIte, if_true, if_false, reduceCtorEq, Nat.reduceAdd, Nat.reduceMul, Nat.reduceLeDiff, Nat.reduceLT, Nat.reduceDiv, Nat.reduceSub, TS T, f2, f3, f5, hg1, hEn] <;> rfl)) rfl ?_
  refine Wo.val rfl (by simp only [MS, Nat.reduceBEq, Nat.reduceBNe, Nat.reduceEqDiff, reduceIte, if_true, if_false, reduceCtorEq, Nat.reduceAdd, Nat.reduceMul, Nat.reduceLeDiff, Nat.reduceLT, Nat.reduceDiv, Nat.reduceSub, TS T, f2, f3, f5, hg1, hEn] <;> rfl) rfl ?_
  refine Wo.val rfl (by simp only [MS, Nat.reduceBEq, Nat.reduceBNe, Nat.reduceEqDiff, reduceIte, if_true, if_false, reduceCtorEq, Nat.reduceAdd, Nat.reduceMul, Nat.reduceLeDiff, Nat.reduceLT, Nat.reduceDiv, Nat.reduceSub, loadA, partV, TS T, f2, f3, f5, hg1, hEn] <;> rfl) rfl ?_
  refine Wo.val rfl (by simp only [MS, Nat.reduceBEq, Nat.reduceBNe, Nat.reduceEqDiff, reduceIte, if_true, if_false, reduceCtorEq, Nat.reduceAdd, Nat.reduceMul, Nat.reduceLeDiff, Nat.reduceLT, Nat.reduceDiv, Nat.reduceSub, cval, cv, TS T, f2, f3, f5, hg1, hEn] <;> rfl) rfl ?_
  refine Wo.val rfl (by simp only [MS, Nat.reduceBEq, Nat.reduceBNe, Nat.reduceEqDiff, reduceIte, if_true, if_false, reduceCtorEq, Nat.reduceAdd, Nat.reduceMul, Nat.reduceLeDiff, Nat.reduceLT, Nat.reduceDiv, Nat.reduceSub, binA, arithA, strA, isC, cval, cv, TS T, f2, f3, f5, hg1, hEn] <;> rfl) rfl ?_
  refine Wo.nil ?_
  refine hn7 _ ?_
  refine Wc.seq fun K8 hn8 hx8 => ?_
  refine Wc.cond (t := decide ((i : Int) < (E.ns.length : Int))) rfl (fun hd => ?_) fun hd => ?_
  · refine Wc.skip (hn8 _ ?_)
    have hi : i < E.ns.length := by have := of_decide_eq_true hd; omega
    obtain ⟨b1, ty1, hi1, _, hb1⟩ := hEnx i hi
    obtain ⟨b2, ty2, hi2, _, hb2⟩ := hDnx i hi
    have g1 : (E.ns.map (V.i .i64))[i]? = some (.i .i64 E.ns[i]) := by simp [hi]
    have g2 : (D.ns.map (V.i .i64))[i]? = some (.i .i64 E.ns[i]) := by rw [← hn]; exact g1
    refine Wc.seq fun K9 hn9 hx9 => ?_
    refine Wc.block fun K10 hb10 hx10 => ?_
    repeat refine Wc.assoc ?_
    refine Wc.seq fun K11 hn11 hx11 => ?_
    refine Wc.drawn [.p 0 [30, 31, 32, 33, 34, 35, 36, 37, 38, 39, 40] none, .p 1 [31, 32, 33, 34, 35, 36, 37, 38, 39, 40] none, .p 2 [30, 31, 32, 33, 34, 35, 36, 37, 38, 39, 40] none, .p 3 [33, 34, 35, 36, 37, 38, 39, 40] none, .p 4 [34, 35, 36, 37, 38, 39, 40] none, .p 5 [30, 31, 32, 33, 34, 35, 36, 37, 38, 39, 40] none, .p 6 [30, 31, 32, 33, 34, 36, 37, 38, 39, 40] none, .p 7 [30, 31, 32, 33, 34, 35, 36, 37, 38, 39, 40] none, .p 8 [30, 31, 32, 33, 34, 38, 39, 40] none, .p 9 [30, 31, 32, 33, 34, 39, 40] none, .p 10 [40] none] (by kernel_rfl) ?_
    refine Wz.v rfl rfl rfl (by simp only [MS, Nat.reduceBEq, Nat.reduceBNe, Nat.reduceEqDiff, reduceIte, if_true, if_false, reduceCtorEq, Nat.reduceAdd, Nat.reduceMul, Nat.reduceLeDiff, Nat.reduceLT, Nat.reduceDiv, Nat.reduceSub, evR, List.contains, List.elem, TS T, f2, f3, f5, hg1, hg2, hi1, hi2, hb1, hb2, g1, g2, bne_self_eq_false] <;> rfl) rfl ?_
    refine Wz.ld rfl rfl rfl (by simp only [MS, Nat.reduceBEq, Nat.reduceBNe, Nat.reduceEqDiff, reduceIte, if_true, if_false, reduceCtorEq, Nat.reduceAdd, Nat.reduceMul, Nat.reduceLeDiff, Nat.reduceLT, Nat.reduceDiv, Nat.reduceSub, loadA, partV, evR, List.contains, List.elem, TS T, f2, f3, f5, hg1, hg2, hi1, hi2, hb1, hb2, g1, g2, bne_self_eq_false] <;> rfl) rfl ?_
    refine Wz.v rfl rfl rfl (by first | rfl | (simp only [MS, Nat.reduceBEq, Nat.reduceBNe, Nat.reduceEqDiff, reduceIte, if_true, if_false, reduceCtorEq, Nat.reduceAdd, Nat.reduceMul, Nat.reduceLeDiff, Nat.reduceLT, Nat.reduceDiv, Nat.reduceSub, evR, List.contains, List.elem, TS T, f2, f3, f5, hg1, hg2, hi1, hi2, hb1, hb2, g1, g2, bne_self_eq_false] <;> rfl)) rfl ?_
    refine Wz.v rfl rfl rfl (by simp only [MS, Nat.reduceBEq, Nat.reduceBNe, Nat.reduceEqDiff, reduceIte, if_true, if_false, reduceCtorEq, Nat.reduceAdd, Nat.reduceMul, Nat.reduceLeDiff, Nat.reduceLT, Nat.reduceDiv, Nat.reduceSub, cval, cv, evR, List.contains, List.elem, TS T, f2, f3, f5, hg1, hg2, hi1, hi2, hb1, hb2, g1, g2, bne_self_eq_false] <;> rfl) rfl ?_
    refine Wz.ld rfl rfl rfl (by simp only [MS, Nat.reduceBEq, Nat.reduceBNe, Nat.reduceEqDiff, reduceIte, if_true, if_false, reduceCtorEq, Nat.reduceAdd, Nat.reduceMul, Nat.reduceLeDiff, Nat.reduceLT, Nat.reduceDiv, Nat.reduceSub, loadA, partV, evR, List.contains, List.elem, TS T, f2, f3, f5, hg1, hg2, hi1, hi2, hb1, hb2, g1, g2, bne_self_eq_false] <;> rfl) rfl ?_
    refine Wz.v rfl rfl rfl (by simp only [MS, Nat.reduceBEq, Nat.reduceBNe, Nat.reduceEqDiff, reduceIte, if_true, if_false, reduceCtorEq, Nat.reduceAdd, Nat.reduceMul, Nat.reduceLeDiff, Nat.reduceLT, Nat.reduceDiv, Nat.reduceSub, evR, List.contains, List.elem, TS T, f2, f3, f5, hg1, hg2, hi1, hi2, hb1, hb2, g1, g2, bne_self_eq_false] <;> rfl) rfl ?_
    refine Wz.ld rfl rfl rfl (by simp only [MS, Nat.reduceBEq, Nat.reduceBNe, Nat.reduceEqDiff, reduceIte, if_true, if_false, reduceCtorEq, Nat.reduceAdd, Nat.reduceMul, Nat.reduceLeDiff, Nat.reduceLT, Nat.reduceDiv, Nat.reduceSub, loadA, partV, evR, List.contains, List.elem, TS T, f2, f3, f5, hg1, hg2, hi1, hi2, hb1, hb2, g1, g2, bne_self_eq_false] <;> rfl) rfl ?_
    refine Wz.v rfl rfl rfl (by first | rfl | (simp only [MS, Nat.reduceBEq, Nat.reduceBNe, Nat.reduceEqDiff, reduceIte, if_true, if_false, reduceCtorEq, Nat.reduceAdd, Nat.reduceMul, Nat.reduceLeDiff, Nat.reduceLT, Nat.reduceDiv, Nat.reduceSub, evR, List.contains, List.elem, TS T, f2, f3, f5, hg1, hg2, hi1, hi2, hb1, hb2, g1, g2, bne_self_eq_false] <;> rfl)) rfl ?_
    refine Wz.v rfl rfl rfl (by simp only [MS, Nat.reduceBEq, Nat.reduceBNe, Nat.reduceEqDiff, reduceIte, if_true, if_false, reduceCtorEq, Nat.reduceAdd, Nat.reduceMul, Nat.reduceLeDiff, Nat.reduceLT, Nat.reduceDiv, Nat.reduceSub, cval, cv, evR, List.contains, List.elem, TS T, f2, f3, f5, hg1, hg2, hi1, hi2, hb1, hb2, g1, g2, bne_self_eq_false] <;> rfl) rfl ?_
    refine Wz.ld rfl rfl rfl (by simp only [MS, Nat.reduceBEq, Nat.reduceBNe, Nat.reduceEqDiff, reduceIte, if_true, if_false, reduceCtorEq, Nat.reduceAdd, Nat.reduceMul, Nat.reduceLeDiff, Nat.reduceLT, Nat.reduceDiv, Nat.reduceSub, loadA, partV, evR, List.contains, List.elem, TS T, f2, f3, f5, hg1, hg2, hi1, hi2, hb1, hb2, g1, g2, bne_self_eq_false] <;> rfl) rfl ?_
    refine Wz.v rfl rfl rfl (by simp only [MS, Nat.reduceBEq, Nat.reduceBNe, Nat.reduceEqDiff, reduceIte, if_true, if_false, reduceCtorEq, Nat.reduceAdd, Nat.reduceMul, Nat.reduceLeDiff, Nat.reduceLT, Nat.reduceDiv, Nat.reduceSub, binA, arithA, strA, isC, cval, cv, evR, List.contains, List.elem, TS T, f2, f3, f5, hg1, hg2, hi1, hi2, hb1, hb2, g1, g2, bne_self_eq_false] <;> rfl) rfl ?_
    refine Wz.nil ?_
    refine hn11 _ ?_
    refine Wc.cond (t := false) rfl (fun h => by cases h) fun _ => ?_
    refine Wc.skip (hx10 _ _ (by simp) (hn9 _ ?_))
    have hw := w64 (n := i) (by omega)
    refine Wc.rg ?_
    refine Wo.val rfl (by first | rfl | (simp only [MS, Nat.reduceBEq, Nat.reduceBNe, Nat.reduceEqDiff, reduceIte, if_true, if_false, reduceCtorEq, Nat.reduceAdd, Nat.reduceMul, Nat.reduceLeDiff, Nat.reduceLT, Nat.reduceDiv, Nat.reduceSub, TS T, f5, hw] <;> rfl)) rfl ?_
    refine Wo.val rfl (by simp only [MS, Nat.reduceBEq, Nat.reduceBNe, Nat.reduceEqDiff, reduceIte, if_true, if_false, reduceCtorEq, Nat.reduceAdd, Nat.reduceMul, Nat.reduceLeDiff, Nat.reduceLT, Nat.reduceDiv, Nat.reduceSub, binA, arithA, strA, isC, cval, cv, TS T, f5, hw] <;> rfl) rfl ?_
    refine Wo.val rfl (by first | rfl | (simp only [MS, Nat.reduceBEq, Nat.reduceBNe, Nat.reduceEqDiff, reduceIte, if_true, if_false, reduceCtorEq, Nat.reduceAdd, Nat.reduceMul, Nat.reduceLeDiff, Nat.reduceLT, Nat.reduceDiv, Nat.reduceSub, cval, cv, TS T, f5, hw] <;> rfl)) rfl ?_
    refine Wo.nil ?_
    exact hnL _ (k - 1) (by omega) ⟨i + 1, _, rfl, by omega, by simp [look, f2], by simp [look, f3], rfl⟩
  · refine Wc.exit (hx8 _ _ (by simp) (hxL _ _ (by simp) (hb6 _ (hn5 _ ?_))))
    repeat refine Wc.assoc ?_
    refine Wc.seq fun K12 hn12 hx12 => ?_
    refine Wc.rg ?_
    refine Wo.val rfl (by first | rfl | (simp only [MS, Nat.reduceBEq, Nat.reduceBNe, Nat.reduceEqDiff, reduceIte, if_true, if_false, reduceCtorEq, Nat.reduceAdd, Nat.reduceMul, Nat.reduceLeDiff, Nat.reduceLT, Nat.reduceDiv, Nat.reduceSub, cval, cv, TS T] <;> rfl)) rfl ?_
    refine Wo.nil ?_
    refine hn12 _ ?_
    repeat refine Wc.assoc ?_
    refine Wc.seq fun K13 hn13 hx13 => ?_
    refine Wc.block fun K14 hb14 hx14 => ?_
    refine Wc.loop (fun k s => ∃ i fr, s = ⟨fr, [], h1⟩ ∧ i + k = E.ss.length ∧ look fr 2 = some (.p h.n 0) ∧ look fr 3 = some (.p (h.n + 1) 0) ∧ look fr 6 = some (.i .i64 (i : Nat))) E.ss.length (by omega) ⟨0, _, rfl, by omega, by simp [look, f2], by simp [look, f3], rfl⟩ ?_
    rintro k _ ⟨i, fr, rfl, hik, f2, f3, f6⟩ KL2 hnL2 hxL2
    repeat refine Wc.assoc ?_
    refine Wc.seq fun K15 hn15 hx15 => ?_
    refine Wc.rg ?_
    refine Wo.val rfl (by first | rfl | (simp only [MS, Nat.reduceBEq, Nat.reduceBNe, Nat.reduceEqDiff, reduceIte, if_true, if_false, reduceCtorEq, Nat.reduceAdd, Nat.reduceMul, Nat.reduceLeDiff, Nat.reduceLT, Nat.reduceDiv, Nat.reduceSub, TS T, f2, f3, f6, hg1, hEs] <;> rfl)) rfl ?_
    refine Wo.val rfl (by simp only [MS, Nat.reduceBEq, Nat.reduceBNe, Nat.reduceEqDiff, reduceIte, if_true, if_false, reduceCtorEq, Nat.reduceAdd, Nat.reduceMul, Nat.reduceLeDiff, Nat.reduceLT, Nat.reduceDiv, Nat.reduceSub, TS T, f2, f3, f6, hg1, hEs] <;> rfl) rfl ?_
    refine Wo.val rfl (by simp only [MS, Nat.reduceBEq, Nat.reduceBNe, Nat.reduceEqDiff, reduceIte, if_true, if_false, reduceCtorEq, Nat.reduceAdd, Nat.reduceMul, Nat.reduceLeDiff, Nat.reduceLT, Nat.reduceDiv, Nat.reduceSub, loadA, partV, TS T, f2, f3, f6, hg1, hEs] <;> rfl) rfl ?_
    refine Wo.val rfl (by simp only [MS, Nat.reduceBEq, Nat.reduceBNe, Nat.reduceEqDiff, reduceIte, if_true, if_false, reduceCtorEq, Nat.reduceAdd, Nat.reduceMul, Nat.reduceLeDiff, Nat.reduceLT, Nat.reduceDiv, Nat.reduceSub, cval, cv, TS T, f2, f3, f6, hg1, hEs] <;> rfl) rfl ?_
    refine Wo.val rfl (by simp only [MS, Nat.reduceBEq, Nat.reduceBNe, Nat.reduceEqDiff, reduceIte, if_true, if_false, reduceCtorEq, Nat.reduceAdd, Nat.reduceMul, Nat.reduceLeDiff, Nat.reduceLT, Nat.reduceDiv, Nat.reduceSub, binA, arithA, strA, isC, cval, cv, TS T, f2, f3, f6, hg1, hEs] <;> rfl) rfl ?_
    refine Wo.nil ?_
    refine hn15 _ ?_
    refine Wc.seq fun K16 hn16 hx16 => ?_
    refine Wc.cond (t := decide ((i : Int) < (E.ss.length : Int))) rfl (fun hd => ?_) fun hd => ?_
    · refine Wc.skip (hn16 _ ?_)
      have hi : i < E.ss.length := by have := of_decide_eq_true hd; omega
      obtain ⟨b1, ty1, hi1, _, hb1⟩ := hEsx i hi
      obtain ⟨b2, ty2, hi2, _, hb2⟩ := hDsx i hi
      have g1 : (E.ss.map V.s)[i]? = some (.s E.ss[i]) := by simp [hi]
      have g2 : (D.ss.map V.s)[i]? = some (.s E.ss[i]) := by rw [← hs]; exact g1
      refine Wc.seq fun K9 hn9 hx9 => ?_
      refine Wc.block fun K10 hb10 hx10 => ?_
      repeat refine Wc.assoc ?_
      refine Wc.seq fun K11 hn11 hx11 => ?_
      refine Wc.drawn [.p 0 [48, 49, 50, 51, 52, 53, 54, 55, 56, 57, 58] none, .p 1 [49, 50, 51, 52, 53, 54, 55, 56, 57, 58] none, .p 2 [48, 49, 50, 51, 52, 53, 54, 55, 56, 57, 58] none, .p 3 [51, 52, 53, 54, 55, 56, 57, 58] none, .p 4 [52, 53, 54, 55, 56, 57, 58] none, .p 5 [48, 49, 50, 51, 52, 53, 54, 55, 56, 57, 58] none, .p 6 [48, 49, 50, 51, 52, 54, 55, 56, 57, 58] none, .p 7 [48, 49, 50, 51, 52, 53, 54, 55, 56, 57, 58] none, .p 8 [48, 49, 50, 51, 52, 56, 57, 58] none, .p 9 [48, 49, 50, 51, 52, 57, 58] none, .p 10 [58] none] (by kernel_rfl) ?_
      refine Wz.v rfl rfl rfl (by simp only [MS, Nat.reduceBEq, Nat.reduceBNe, Nat.reduceEqDiff, reduceIte, if_true, if_false, reduceCtorEq, Nat.reduceAdd, Nat.reduceMul, Nat.reduceLeDiff, Nat.reduceLT, Nat.reduceDiv, Nat.reduceSub, evR, List.contains, List.elem, TS T, f2, f3, f6, hg1, hg2, hi1, hi2, hb1, hb2, g1, g2, bne_self_eq_false, beq_self_eq_true] <;> rfl) rfl ?_
      refine Wz.ld rfl rfl rfl (by simp only [MS, Nat.reduceBEq, Nat.reduceBNe, Nat.reduceEqDiff, reduceIte, if_true, if_false, reduceCtorEq, Nat.reduceAdd, Nat.reduceMul, Nat.reduceLeDiff, Nat.reduceLT, Nat.reduceDiv, Nat.reduceSub, loadA, partV, evR, List.contains, List.elem, TS T, f2, f3, f6, hg1, hg2, hi1, hi2, hb1, hb2, g1, g2, bne_self_eq_false, beq_self_eq_true] <;> rfl) rfl ?_
      refine Wz.v rfl rfl rfl (by first | rfl | (simp only [MS, Nat.reduceBEq, Nat.reduceBNe, Nat.reduceEqDiff, reduceIte, if_true, if_false, reduceCtorEq, Nat.reduceAdd, Nat.reduceMul, Nat.reduceLeDiff, Nat.reduceLT, Nat.reduceDiv, Nat.reduceSub, evR, List.contains, List.elem, TS T, f2, f3, f6, hg1, hg2, hi1, hi2, hb1, hb2, g1, g2, bne_self_eq_false, beq_self_eq_true] <;> rfl)) rfl ?_
      refine Wz.v rfl rfl rfl (by simp only [MS, Nat.reduceBEq, Nat.reduceBNe, Nat.reduceEqDiff, reduceIte, if_true, if_false, reduceCtorEq, Nat.reduceAdd, Nat.reduceMul, Nat.reduceLeDiff, Nat.reduceLT, Nat.reduceDiv, Nat.reduceSub, cval, cv, evR, List.contains, List.elem, TS T, f2, f3, f6, hg1, hg2, hi1, hi2, hb1, hb2, g1, g2, bne_self_eq_false, beq_self_eq_true] <;> rfl) rfl ?_
      refine Wz.ld rfl rfl rfl (by simp only [MS, Nat.reduceBEq, Nat.reduceBNe, Nat.reduceEqDiff, reduceIte, if_true, if_false, reduceCtorEq, Nat.reduceAdd, Nat.reduceMul, Nat.reduceLeDiff, Nat.reduceLT, Nat.reduceDiv, Nat.reduceSub, loadA, partV, evR, List.contains, List.elem, TS T, f2, f3, f6, hg1, hg2, hi1, hi2, hb1, hb2, g1, g2, bne_self_eq_false, beq_self_eq_true] <;> rfl) rfl ?_
      refine Wz.v rfl rfl rfl (by simp only [MS, Nat.reduceBEq, Nat.reduceBNe, Nat.reduceEqDiff, reduceIte, if_true, if_false, reduceCtorEq, Nat.reduceAdd, Nat.reduceMul, Nat.reduceLeDiff, Nat.reduceLT, Nat.reduceDiv, Nat.reduceSub, evR, List.contains, List.elem, TS T, f2, f3, f6, hg1, hg2, hi1, hi2, hb1, hb2, g1, g2, bne_self_eq_false, beq_self_eq_true] <;> rfl) rfl ?_
      refine Wz.ld rfl rfl rfl (by simp only [MS, Nat.reduceBEq, Nat.reduceBNe, Nat.reduceEqDiff, reduceIte, if_true, if_false, reduceCtorEq, Nat.reduceAdd, Nat.reduceMul, Nat.reduceLeDiff, Nat.reduceLT, Nat.reduceDiv, Nat.reduceSub, loadA, partV, evR, List.contains, List.elem, TS T, f2, f3, f6, hg1, hg2, hi1, hi2, hb1, hb2, g1, g2, bne_self_eq_false, beq_self_eq_true] <;> rfl) rfl ?_
      refine Wz.v rfl rfl rfl (by first | rfl | (simp only [MS, Nat.reduceBEq, Nat.reduceBNe, Nat.reduceEqDiff, reduceIte, if_true, if_false, reduceCtorEq, Nat.reduceAdd, Nat.reduceMul, Nat.reduceLeDiff, Nat.reduceLT, Nat.reduceDiv, Nat.reduceSub, evR, List.contains, List.elem, TS T, f2, f3, f6, hg1, hg2, hi1, hi2, hb1, hb2, g1, g2, bne_self_eq_false, beq_self_eq_true] <;> rfl)) rfl ?_
      refine Wz.v rfl rfl rfl (by simp only [MS, Nat.reduceBEq, Nat.reduceBNe, Nat.reduceEqDiff, reduceIte, if_true, if_false, reduceCtorEq, Nat.reduceAdd, Nat.reduceMul, Nat.reduceLeDiff, Nat.reduceLT, Nat.reduceDiv, Nat.reduceSub, cval, cv, evR, List.contains, List.elem, TS T, f2, f3, f6, hg1, hg2, hi1, hi2, hb1, hb2, g1, g2, bne_self_eq_false, beq_self_eq_true] <;> rfl) rfl ?_
      refine Wz.ld rfl rfl rfl (by simp only [MS, Nat.reduceBEq, Nat.reduceBNe, Nat.reduceEqDiff, reduceIte, if_true, if_false, reduceCtorEq, Nat.reduceAdd, Nat.reduceMul, Nat.reduceLeDiff, Nat.reduceLT, Nat.reduceDiv, Nat.reduceSub, loadA, partV, evR, List.contains, List.elem, TS T, f2, f3, f6, hg1, hg2, hi1, hi2, hb1, hb2, g1, g2, bne_self_eq_false, beq_self_eq_true] <;> rfl) rfl ?_
      refine Wz.v rfl rfl rfl (by simp only [MS, Nat.reduceBEq, Nat.reduceBNe, Nat.reduceEqDiff, reduceIte, if_true, if_false, reduceCtorEq, Nat.reduceAdd, Nat.reduceMul, Nat.reduceLeDiff, Nat.reduceLT, Nat.reduceDiv, Nat.reduceSub, binA, arithA, strA, isC, cval, cv, evR, List.contains, List.elem, TS T, f2, f3, f6, hg1, hg2, hi1, hi2, hb1, hb2, g1, g2, bne_self_eq_false, beq_self_eq_true] <;> rfl) rfl ?_
      refine Wz.nil ?_
      refine hn11 _ ?_
      refine Wc.cond (t := false) rfl (fun h => by cases h) fun _ => ?_
      refine Wc.skip (hx10 _ _ (by simp) (hn9 _ ?_))
      have hw := w64 (n := i) (by omega)
      refine Wc.rg ?_
      refine Wo.val rfl (by first | rfl | (simp only [MS, Nat.reduceBEq, Nat.reduceBNe, Nat.reduceEqDiff, reduceIte, if_true, if_false, reduceCtorEq, Nat.reduceAdd, Nat.reduceMul, Nat.reduceLeDiff, Nat.reduceLT, Nat.reduceDiv, Nat.reduceSub, TS T, f6, hw] <;> rfl)) rfl ?_
      refine Wo.val rfl (by simp only [MS, Nat.reduceBEq, Nat.reduceBNe, Nat.reduceEqDiff, reduceIte, if_true, if_false, reduceCtorEq, Nat.reduceAdd, Nat.reduceMul, Nat.reduceLeDiff, Nat.reduceLT, Nat.reduceDiv, Nat.reduceSub, binA, arithA, strA, isC, cval, cv, TS T, f6, hw] <;> rfl) rfl ?_
      refine Wo.val rfl (by first | rfl | (simp only [MS, Nat.reduceBEq, Nat.reduceBNe, Nat.reduceEqDiff, reduceIte, if_true, if_false, reduceCtorEq, Nat.reduceAdd, Nat.reduceMul, Nat.reduceLeDiff, Nat.reduceLT, Nat.reduceDiv, Nat.reduceSub, cval, cv, TS T, f6, hw] <;> rfl)) rfl ?_
      refine Wo.nil ?_
      exact hnL2 _ (k - 1) (by omega) ⟨i + 1, _, rfl, by omega, by simp [look, f2], by simp [look, f3], rfl⟩
    · refine Wc.exit (hx16 _ _ (by simp) (hxL2 _ _ (by simp) (hb14 _ (hn13 _ ?_))))
      refine Wc.seq fun K17 hn17 hx17 => ?_
      refine Wc.rg ?_
      refine Wo.val rfl (by first | rfl | (simp only [MS, Nat.reduceBEq, Nat.reduceBNe, Nat.reduceEqDiff, reduceIte, if_true, if_false, reduceCtorEq, Nat.reduceAdd, Nat.reduceMul, Nat.reduceLeDiff, Nat.reduceLT, Nat.reduceDiv, Nat.reduceSub, cval, cv, TS T] <;> rfl)) rfl ?_
      refine Wo.nil ?_
      exact hn17 _ (Wc.ret (hr0 _ _ [.b true] rfl ⟨rfl, hx0⟩))
end Go.Mx

/- The seat's 'look'. -/
namespace Go.Mx
open Go.Proofs
set_option maxRecDepth 100000
set_option maxHeartbeats 2000000

theorem S.flook_ok {tb fc} (T : S.Ty tb) {call call' : Caller} {lf : Nat} (hlf : 2000000000000 ≤ lf) (hc : ∀ args h, call' (.fn 28) args h = runF tb fc call lf Tryz.f28 args h)
    {G : Nat → Option BT} {h : Hp} {lv : V} {m : Nat} {C : Nat → Cl} {reg : Nat → Nat} (hT : TOk G h) {Tab : Nat → List Lf → Prop} (hTab : ∀ g ls, Tab g ls → SeeOk 3 9 call g ls) (hC : Clos Tab G h lv m C reg) :
    ∃ h' ob L, call' (.fn 28) [lv] h = some (.ret (.sl ob 0 m (some m) 5), h') ∧ Ext h h' ∧ TOk G h' ∧ h.n ≤ ob ∧ Eyes 3 9 h' ob m L ∧ (∀ i, i < m → ∀ b, (L i).priv b → h.n ≤ b) ∧ ∀ i, i < m → ((L i).ns, (L i).ss) = (C i).seen h ∧ (L i).ns.length ≤ 1000000000000 ∧ (L i).ss.length ≤ 1000000000000 := by
  suffices H : Wf tb fc call lf Tryz.f28 [lv] h (fun v h' => ∃ ob L, v = .sl ob 0 m (some m) 5 ∧ Ext h h' ∧ TOk G h' ∧ h.n ≤ ob ∧ Eyes 3 9 h' ob m L ∧ (∀ i, i < m → ∀ b, (L i).priv b → h.n ≤ b) ∧ ∀ i, i < m → ((L i).ns, (L i).ss) = (C i).seen h ∧ (L i).ns.length ≤ 1000000000000 ∧ (L i).ss.length ≤ 1000000000000) by
    obtain ⟨v, h', h1, ob, L, rfl, h2⟩ := H
    exact ⟨h', ob, L, by rw [hc]; exact h1, h2⟩
  have hmb := hC.small
  have hln : bltA tb .len #[29] [lv] = some (.i .i64 m) := by
    rcases hC.v with ⟨rfl, rfl⟩ | ⟨lb, ty, cs, rw, rfl, _⟩ <;> simp [bltA, T.t29]
  have hix : ∀ hi, Ext h hi → ∀ i, i < m → ∃ b, indexAddrA tb 29 lv (.i .i64 i) = some (.p b i) ∧ loadA tb hi 38 (.p b i) = some (.f (.func (C i).g) [] [.p (C i).a 0]) := by
    intro hi hx i him
    rcases hC.v with ⟨_, rfl⟩ | ⟨lb, ty, cs, rw, rfl, hlb, _, hg, hcs⟩
    · omega
    · exact ⟨lb, by simp [indexAddrA, T.t29, T.t38, him], by simp [loadA, T.t38, hx.old lb hlb, hg, partV, hcs i him]⟩
  have hms : makeSliceA tb h 51 (.i .i64 m) (.i .i64 m) = some (.sl h.n 0 m (some m) 5, h.push (.blk (2 * 50) (rep m [.nils, .nils, .b false, .i .i64 0, .b false]) true)) := by
    simp [makeSliceA, T.t51, T.t50, TI.zero, V.cells]; omega
  refine Wf.intro (sz := 23) rfl rfl fun K hn0 hr0 => ?_
  repeat refine Wc.assoc ?_
  refine Wc.seq fun K1 hn1 hx1 => ?_
  refine Wc.rg ?_
  refine Wo.val rfl (by first | rfl | (simp only [MS, Nat.reduceBEq, Nat.reduceBNe, Nat.reduceEqDiff, reduceIte, if_true, if_false, reduceCtorEq, Nat.reduceAdd, Nat.reduceMul, Nat.reduceLeDiff, Nat.reduceLT, Nat.reduceDiv, Nat.reduceSub, cval, cv, TS T] <;> rfl)) rfl ?_
  refine Wo.nil ?_
  refine hn1 _ ?_
  repeat refine Wc.assoc ?_
  refine Wc.seq fun K2 hn2 hx2 => ?_
  refine Wc.rg ?_
  refine Wo.val rfl (by first | rfl | (simp only [MS, Nat.reduceBEq, Nat.reduceBNe, Nat.reduceEqDiff, reduceIte, if_true, if_false, reduceCtorEq, Nat.reduceAdd, Nat.reduceMul, Nat.reduceLeDiff, Nat.reduceLT, Nat.reduceDiv, Nat.reduceSub, TS T, hln, hms] <;> rfl)) rfl ?_
  refine Wo.val rfl (by simp only [MS, Nat.reduceBEq, Nat.reduceBNe, Nat.reduceEqDiff, reduceIte, if_true, if_false, reduceCtorEq, Nat.reduceAdd, Nat.reduceMul, Nat.reduceLeDiff, Nat.reduceLT, Nat.reduceDiv, Nat.reduceSub, cval, cv, TS T, hln, hms] <;> rfl) rfl ?_
  refine Wo.val rfl (by simp only [MS, Nat.reduceBEq, Nat.reduceBNe, Nat.reduceEqDiff, reduceIte, if_true, if_false, reduceCtorEq, Nat.reduceAdd, Nat.reduceMul, Nat.reduceLeDiff, Nat.reduceLT, Nat.reduceDiv, Nat.reduceSub, cval, cv, TS T, hln, hms] <;> rfl) rfl ?_
  refine Wo.val rfl (by first | rfl | (simp only [MS, Nat.reduceBEq, Nat.reduceBNe, Nat.reduceEqDiff, reduceIte, if_true, if_false, reduceCtorEq, Nat.reduceAdd, Nat.reduceMul, Nat.reduceLeDiff, Nat.reduceLT, Nat.reduceDiv, Nat.reduceSub, cval, cv, TS T, hln, hms] <;> rfl)) rfl ?_
  refine Wo.nil ?_
  refine hn2 _ ?_
  have hx0 := Ext.push h (.blk (2 * 50) (rep m [.nils, .nils, .b false, .i .i64 0, .b false]) true)
  have hE0 := Eyes.new (ei := 3) (es := 9) h (2 * 50) m
  generalize h.push (.blk (2 * 50) (rep m [.nils, .nils, .b false, .i .i64 0, .b false]) true) = h1 at hx0 hE0 ⊢
  repeat refine Wc.assoc ?_
  refine Wc.seq fun K3 hn3 hx3 => ?_
  refine Wc.rg ?_
  refine Wo.val rfl (by first | rfl | (simp only [MS, Nat.reduceBEq, Nat.reduceBNe, Nat.reduceEqDiff, reduceIte, if_true, if_false, reduceCtorEq, Nat.reduceAdd, Nat.reduceMul, Nat.reduceLeDiff, Nat.reduceLT, Nat.reduceDiv, Nat.reduceSub, cval, cv, TS T] <;> rfl)) rfl ?_
  refine Wo.nil ?_
  refine hn3 _ ?_
  repeat refine Wc.assoc ?_
  refine Wc.seq fun K4 hn4 hx4 => ?_
  refine Wc.block fun K6 hb6 hx6 => ?_
  refine Wc.loop (fun k s => ∃ i fr hi L, s = ⟨fr, [], hi⟩ ∧ i + k = m ∧ Ext h hi ∧ TOk G hi ∧ Eyes 3 9 hi h.n m L ∧ look fr 0 = some lv ∧ look fr 3 = some (.sl h.n 0 m (some m) 5) ∧ look fr 4 = some (.i .i64 (i : Nat)) ∧ (∀ j, j < i → ((L j).ns, (L j).ss) = (C j).seen h) ∧ (∀ j, i ≤ j → L j = eye0) ∧ (∀ j, j < m → ∀ b, (L j).priv b → h.n ≤ b)) m (by omega) ⟨0, _, h1, _, rfl, by omega, hx0, hT.ext hx0, hE0, rfl, rfl, rfl, fun j hj => by omega, fun _ _ => rfl, fun j _ b hb => by (rcases hb with h | h <;> simp [eye0, blkOf] at h)⟩ ?_
  rintro k _ ⟨i, fr, hi, L, rfl, hik, hx, hTi, hEi, f0, f3, f4, hdone, hnew, hpv⟩ KL hnL hxL
  repeat refine Wc.assoc ?_
  refine Wc.seq fun K7 hn7 hx7 => ?_
  refine Wc.rg ?_
  refine Wo.val rfl (by first | rfl | (simp only [MS, Nat.reduceBEq, Nat.reduceBNe, Nat.reduceEqDiff, reduceIte, if_true, if_false, reduceCtorEq, Nat.reduceAdd, Nat.reduceMul, Nat.reduceLeDiff, Nat.reduceLT, Nat.reduceDiv, Nat.reduceSub, TS T, f0, f4, hln] <;> rfl)) rfl ?_
  refine Wo.val rfl (by first | rfl | (simp only [MS, Nat.reduceBEq, Nat.reduceBNe, Nat.reduceEqDiff, reduceIte, if_true, if_false, reduceCtorEq, Nat.reduceAdd, Nat.reduceMul, Nat.reduceLeDiff, Nat.reduceLT, Nat.reduceDiv, Nat.reduceSub, TS T, f0, f4, hln] <;> rfl)) rfl ?_
  refine Wo.val rfl (by simp only [MS, Nat.reduceBEq, Nat.reduceBNe, Nat.reduceEqDiff, reduceIte, if_true, if_false, reduceCtorEq, Nat.reduceAdd, Nat.reduceMul, Nat.reduceLeDiff, Nat.reduceLT, Nat.reduceDiv, Nat.reduceSub, cval, cv, TS T, f0, f4, hln] <;> rfl) rfl ?_
  refine Wo.val rfl (by simp only [MS, Nat.reduceBEq, Nat.reduceBNe, Nat.reduceEqDiff, reduceIte, if_true, if_false, reduceCtorEq, Nat.reduceAdd, Nat.reduceMul, Nat.reduceLeDiff, Nat.reduceLT, Nat.reduceDiv, Nat.reduceSub, binA, arithA, strA, isC, cval, cv, TS T, f0, f4, hln] <;> rfl) rfl ?_
  refine Wo.nil ?_
  refine hn7 _ ?_
  refine Wc.seq fun K8 hn8 hx8 => ?_
  refine Wc.cond (t := decide ((i : Int) < (m : Int))) rfl (fun hd => ?_) fun hd => ?_
  · refine Wc.skip (hn8 _ ?_)
    have him : i < m := by have := of_decide_eq_true hd; omega
    obtain ⟨lb, hia, hld⟩ := hix hi hx i him
    have ix2 : indexAddrA tb 51 (.sl h.n 0 m (some m) 5) (.i .i64 i) = some (.p h.n (5 * i)) := by simp [indexAddrA, T.t51, T.t50, him]; omega
    obtain ⟨htab, ⟨hw, hsb⟩, t, hGa, hreg, hlfs⟩ := hC.ok i him
    have hsee := hTab _ _ htab
    refine Wc.seq fun K9 hn9 hx9 => ?_
    refine Wc.block fun K10 hb10 hx10 => ?_
    refine Wc.drawn [.p 0 [14, 15, 16, 17, 18, 19, 20] none, .p 1 [14, 15, 16, 17, 18, 19, 20] none, .p 2 [16, 17, 18, 19, 20] none, .p 3 [17, 18, 19, 20] none, .p 4 [14, 15, 16, 17, 18, 19, 20] none, .p 5 [14, 15, 16, 17, 18, 19, 20] none, .p 6 [14, 15, 16, 17, 20] none, .e 7 [21] none 127] (by kernel_rfl) ?_
    refine Wz.v rfl rfl rfl (by first | rfl | (simp only [MS, Nat.reduceBEq, Nat.reduceBNe, Nat.reduceEqDiff, reduceIte, if_true, if_false, reduceCtorEq, Nat.reduceAdd, Nat.reduceMul, Nat.reduceLeDiff, Nat.reduceLT, Nat.reduceDiv, Nat.reduceSub, evR, List.contains, List.elem, TS T, f0, f3, f4, hia, hld, ix2] <;> rfl)) rfl ?_
    refine Wz.v rfl rfl rfl (by first | rfl | (simp only [MS, Nat.reduceBEq, Nat.reduceBNe, Nat.reduceEqDiff, reduceIte, if_true, if_false, reduceCtorEq, Nat.reduceAdd, Nat.reduceMul, Nat.reduceLeDiff, Nat.reduceLT, Nat.reduceDiv, Nat.reduceSub, evR, List.contains, List.elem, TS T, f0, f3, f4, hia, hld, ix2] <;> rfl)) rfl ?_
    refine Wz.v rfl rfl rfl (by simp only [MS, Nat.reduceBEq, Nat.reduceBNe, Nat.reduceEqDiff, reduceIte, if_true, if_false, reduceCtorEq, Nat.reduceAdd, Nat.reduceMul, Nat.reduceLeDiff, Nat.reduceLT, Nat.reduceDiv, Nat.reduceSub, cval, cv, evR, List.contains, List.elem, TS T, f0, f3, f4, hia, hld, ix2] <;> rfl) rfl ?_
    refine Wz.ld rfl rfl rfl (by simp only [MS, Nat.reduceBEq, Nat.reduceBNe, Nat.reduceEqDiff, reduceIte, if_true, if_false, reduceCtorEq, Nat.reduceAdd, Nat.reduceMul, Nat.reduceLeDiff, Nat.reduceLT, Nat.reduceDiv, Nat.reduceSub, partV, evR, List.contains, List.elem, TS T, f0, f3, f4, hia, hld, ix2] <;> rfl) rfl ?_
    refine Wz.v rfl rfl rfl (by first | rfl | (simp only [MS, Nat.reduceBEq, Nat.reduceBNe, Nat.reduceEqDiff, reduceIte, if_true, if_false, reduceCtorEq, Nat.reduceAdd, Nat.reduceMul, Nat.reduceLeDiff, Nat.reduceLT, Nat.reduceDiv, Nat.reduceSub, evR, List.contains, List.elem, TS T, f0, f3, f4, hia, hld, ix2] <;> rfl)) rfl ?_
    refine Wz.v rfl rfl rfl (by first | rfl | (simp only [MS, Nat.reduceBEq, Nat.reduceBNe, Nat.reduceEqDiff, reduceIte, if_true, if_false, reduceCtorEq, Nat.reduceAdd, Nat.reduceMul, Nat.reduceLeDiff, Nat.reduceLT, Nat.reduceDiv, Nat.reduceSub, evR, List.contains, List.elem, TS T, f0, f3, f4, hia, hld, ix2] <;> rfl)) rfl ?_
    refine Wz.v rfl rfl rfl (by simp only [MS, Nat.reduceBEq, Nat.reduceBNe, Nat.reduceEqDiff, reduceIte, if_true, if_false, reduceCtorEq, Nat.reduceAdd, Nat.reduceMul, Nat.reduceLeDiff, Nat.reduceLT, Nat.reduceDiv, Nat.reduceSub, cval, cv, evR, List.contains, List.elem, TS T, f0, f3, f4, hia, hld, ix2] <;> rfl) rfl ?_
    refine Wz.cl rfl rfl rfl rfl (by first | rfl | (simp only [MS, Nat.reduceBEq, Nat.reduceBNe, Nat.reduceEqDiff, reduceIte, if_true, if_false, reduceCtorEq, Nat.reduceAdd, Nat.reduceMul, Nat.reduceLeDiff, Nat.reduceLT, Nat.reduceDiv, Nat.reduceSub, cval, cv, evR, List.contains, List.elem, TS T, f0, f3, f4, hia, hld, ix2] <;> rfl)) (by first | rfl | (simp only [MS, Nat.reduceBEq, Nat.reduceBNe, Nat.reduceEqDiff, reduceIte, if_true, if_false, reduceCtorEq, Nat.reduceAdd, Nat.reduceMul, Nat.reduceLeDiff, Nat.reduceLT, Nat.reduceDiv, Nat.reduceSub, cval, cv, evR, List.contains, List.elem, TS T, f0, f3, f4, hia, hld, ix2] <;> rfl)) (fun _ => rfl) ?_
    have hLi : L i = eye0 := hnew i (Nat.le_refl _)
    have hGn : ∀ b, h.n ≤ b → G b = none := fun b hb => by
      cases hg : G b with
      | none => rfl
      | some t => have := (hT.blk b t hg).1; omega
    have P : Pre 3 9 G t.reg t.rm hi h.n (5 * i) (L i) := ⟨hTi, hEi.at_ i him, hGn _ (Nat.le_refl _), (fun b hb => by rw [hLi] at hb; rcases hb with h | h <;> simp [eye0, blkOf] at h), (fun h => by rw [hLi] at h; cases h), (fun h => by rw [hLi] at h; cases h)⟩
    obtain ⟨h', E', hcall, hpost, hseen⟩ := hsee G hi h.n (5 * i) (L i) (C i).a 0 t P hGa (by simpa using hlfs) (by rw [hLi]; simp [eye0]; omega)
    have hmk : (L i).mark = false := by rw [hLi]; rfl
    refine ⟨_, h', hcall, ?_, ?_, ?_⟩
    · repeat' first | exact ldsOk_nil | refine ldsOk_skip (by rfl) ?_
    · exact alsOk_nil
    refine Wz.nil ?_
    refine hx10 _ _ (by simp) (hn9 _ ?_)
    have hw := w64 (n := i) (by omega)
    refine Wc.rg ?_
    refine Wo.val rfl (by first | rfl | (simp only [MS, Nat.reduceBEq, Nat.reduceBNe, Nat.reduceEqDiff, reduceIte, if_true, if_false, reduceCtorEq, Nat.reduceAdd, Nat.reduceMul, Nat.reduceLeDiff, Nat.reduceLT, Nat.reduceDiv, Nat.reduceSub, TS T, f4, hw] <;> rfl)) rfl ?_
    refine Wo.val rfl (by simp only [MS, Nat.reduceBEq, Nat.reduceBNe, Nat.reduceEqDiff, reduceIte, if_true, if_false, reduceCtorEq, Nat.reduceAdd, Nat.reduceMul, Nat.reduceLeDiff, Nat.reduceLT, Nat.reduceDiv, Nat.reduceSub, binA, arithA, strA, isC, cval, cv, TS T, f4, hw] <;> rfl) rfl ?_
    refine Wo.val rfl (by first | rfl | (simp only [MS, Nat.reduceBEq, Nat.reduceBNe, Nat.reduceEqDiff, reduceIte, if_true, if_false, reduceCtorEq, Nat.reduceAdd, Nat.reduceMul, Nat.reduceLeDiff, Nat.reduceLT, Nat.reduceDiv, Nat.reduceSub, cval, cv, TS T, f4, hw] <;> rfl)) rfl ?_
    refine Wo.nil ?_
    have hgs : ∀ b t, G b = some t → h'.get b = hi.get b := fun b t hb => Saw.gsame P hpost.saw hb (.inl hmk)
    refine hnL _ (k - 1) (by omega) ⟨i + 1, _, h', _, rfl, by omega, ⟨Nat.le_trans hx.n hpost.saw.n, fun b hb => ?_⟩, hpost.ok, hEi.saw him hpost.saw hmk, by simp [look, f0], by simp [look, f3], rfl, fun j hj => ?_, fun j hj => ?_, fun j hj b hb => ?_⟩
    · rw [hpost.saw.old b (Nat.lt_of_lt_of_le hb hx.n) (by omega) (fun hp => by rw [hLi] at hp; rcases hp with h | h <;> simp [eye0, blkOf] at h) (by rw [hmk]; simp)]
      exact hx.old b hb
    · by_cases e : j = i
      · subst e
        simp only [if_true]
        rw [hseen hmk, hLi]
        have := Cl.seen_same hC hT him (h' := hi) (fun b t hb _ => hx.old b (hT.blk b t hb).1)
        rw [← this]; simp only [Cl.seen, eye0, List.drop_zero]
      · simp only [e, if_false]; exact hdone j (by omega)
    · have e : j ≠ i := by omega
      simp only [e, if_false]; exact hnew j (by omega)
    · by_cases e : j = i
      · subst e
        simp only [if_true] at hb
        rcases hpost.saw.priv b hb with h1 | h1
        · exact hpv j hj b h1
        · have := hx.n; omega
      · simp only [e, if_false] at hb; exact hpv j hj b hb
  · have hik' : i = m := by have := of_decide_eq_false hd; omega
    refine Wc.exit (hx8 _ _ (by simp) (hxL _ _ (by simp) (hb6 _ (hn4 _ ?_))))
    refine Wc.seq fun K17 hn17 hx17 => ?_
    refine Wc.rg ?_
    refine Wo.val rfl (by first | rfl | (simp only [MS, Nat.reduceBEq, Nat.reduceBNe, Nat.reduceEqDiff, reduceIte, if_true, if_false, reduceCtorEq, Nat.reduceAdd, Nat.reduceMul, Nat.reduceLeDiff, Nat.reduceLT, Nat.reduceDiv, Nat.reduceSub, TS T, f3] <;> rfl)) rfl ?_
    refine Wo.val rfl (by first | rfl | (simp only [MS, Nat.reduceBEq, Nat.reduceBNe, Nat.reduceEqDiff, reduceIte, if_true, if_false, reduceCtorEq, Nat.reduceAdd, Nat.reduceMul, Nat.reduceLeDiff, Nat.reduceLT, Nat.reduceDiv, Nat.reduceSub, cval, cv, TS T, f3] <;> rfl)) rfl ?_
    refine Wo.nil ?_
    refine hn17 _ (Wc.ret (hr0 _ _ [_] rfl ⟨h.n, L, rfl, hx, hTi, Nat.le_refl _, hEi, hpv, fun j hj => ⟨hdone j (by omega), ?_, ?_⟩⟩))
    · have h1 := hdone j (by omega)
      have h2 := flats_len h false (C j).ls (cellsOf h (C j).a) ([], [])
      have h3 : (L j).ns = ((C j).seen h).1 := by rw [← h1]
      obtain ⟨_, ⟨hw, _⟩, _⟩ := hC.ok j hj
      rw [h3]; simp [Cl.seen] at h2 ⊢; omega
    · have h1 := hdone j (by omega)
      have h3 : (L j).ss = ((C j).seen h).2 := by rw [← h1]
      obtain ⟨_, ⟨_, hs⟩, _⟩ := hC.ok j hj
      rw [h3]; exact hs h
end Go.Mx

/- The seat's 'alike' and 'look'. -/
namespace Go.Mx
open Go.Proofs
set_option maxRecDepth 100000
set_option maxHeartbeats 2000000

theorem S.ixE {tb} (T : S.Ty tb) {ob m i : Nat} (hi : i < m) : indexAddrA tb 51 (.sl ob 0 m (some m) 5) (.i .i64 i) = some (.p ob (5 * i)) := by
  simp [indexAddrA, T.t51, T.t50, hi]; omega

theorem S.falike_ok {tb fc} (T : S.Ty tb) {call call' : Caller} {lf : Nat} (hlf : 2000000000000 ≤ lf) (hc : ∀ args h, call' (.fn 30) args h = runF tb fc call lf Tryz.f30 args h)
    (h26 : ∀ {h : Hp} {E D : EyeS}, EyeV 3 9 h E → EyeV 3 9 h D → E.ns = D.ns → E.ss = D.ss → E.ns.length ≤ 1000000000000 → E.ss.length ≤ 1000000000000 → ∃ h', call (.fn 29) [E.val, D.val] h = some (.ret (.b true), h') ∧ Ext h h')
    {h : Hp} {o1 o2 m : Nat} {L1 L2 : Nat → EyeS} {but : Int} (e1 : Eyes 3 9 h o1 m L1) (e2 : Eyes 3 9 h o2 m L2) (hm : m ≤ 1000000) (hs : ∀ i : Nat, i < m → (i : Int) ≠ but → (L1 i).ns = (L2 i).ns ∧ (L1 i).ss = (L2 i).ss ∧ (L1 i).ns.length ≤ 1000000000000 ∧ (L1 i).ss.length ≤ 1000000000000) :
    ∃ h', call' (.fn 30) [.sl o1 0 m (some m) 5, .sl o2 0 m (some m) 5, .i .i64 but] h = some (.ret (.b true), h') ∧ Ext h h' := by
  suffices H : Wf tb fc call lf Tryz.f30 [.sl o1 0 m (some m) 5, .sl o2 0 m (some m) 5, .i .i64 but] h (fun v h' => v = .b true ∧ Ext h h') by
    obtain ⟨v, h', h1, rfl, h2⟩ := H
    exact ⟨h', by rw [hc]; exact h1, h2⟩
  refine Wf.intro (sz := 29) rfl rfl fun K hn0 hr0 => ?_
  repeat refine Wc.assoc ?_
  refine Wc.seq fun K1 hn1 hx1 => ?_
  refine Wc.rg ?_
  refine Wo.val rfl (by first | rfl | (simp only [MS, Nat.reduceBEq, Nat.reduceBNe, Nat.reduceEqDiff, reduceIte, if_true, if_false, reduceCtorEq, Nat.reduceAdd, Nat.reduceMul, Nat.reduceLeDiff, Nat.reduceLT, Nat.reduceDiv, Nat.reduceSub, cval, cv, TS T] <;> rfl)) rfl ?_
  refine Wo.nil ?_
  refine hn1 _ ?_
  repeat refine Wc.assoc ?_
  refine Wc.seq fun K2 hn2 hx2 => ?_
  refine Wc.rg ?_
  refine Wo.val rfl (by first | rfl | (simp only [MS, Nat.reduceBEq, Nat.reduceBNe, Nat.reduceEqDiff, reduceIte, if_true, if_false, reduceCtorEq, Nat.reduceAdd, Nat.reduceMul, Nat.reduceLeDiff, Nat.reduceLT, Nat.reduceDiv, Nat.reduceSub, cval, cv, TS T] <;> rfl)) rfl ?_
  refine Wo.nil ?_
  refine hn2 _ ?_
  repeat refine Wc.assoc ?_
  refine Wc.seq fun K3 hn3 hx3 => ?_
  refine Wc.block fun K6 hb6 hx6 => ?_
  refine Wc.loop (fun k s => ∃ i fr hi, s = ⟨fr, [], hi⟩ ∧ i + k = m ∧ Ext h hi ∧ look fr 0 = some (.sl o1 0 m (some m) 5) ∧ look fr 1 = some (.sl o2 0 m (some m) 5) ∧ look fr 2 = some (.i .i64 but) ∧ look fr 7 = some (.i .i64 (i : Nat))) m (by omega) ⟨0, _, h, rfl, by omega, Ext.refl h, rfl, rfl, rfl, rfl⟩ ?_
  rintro k _ ⟨i, fr, hi, rfl, hik, hx, f0, f1, f2, f7⟩ KL hnL hxL
  repeat refine Wc.assoc ?_
  refine Wc.seq fun K7 hn7 hx7 => ?_
  refine Wc.rg ?_
  refine Wo.val rfl (by first | rfl | (simp only [MS, Nat.reduceBEq, Nat.reduceBNe, Nat.reduceEqDiff, reduceIte, if_true, if_false, reduceCtorEq, Nat.reduceAdd, Nat.reduceMul, Nat.reduceLeDiff, Nat.reduceLT, Nat.reduceDiv, Nat.reduceSub, TS T, f0, f7] <;> rfl)) rfl ?_
  refine Wo.val rfl (by first | rfl | (simp only [MS, Nat.reduceBEq, Nat.reduceBNe, Nat.reduceEqDiff, reduceIte, if_true, if_false, reduceCtorEq, Nat.reduceAdd, Nat.reduceMul, Nat.reduceLeDiff, Nat.reduceLT, Nat.reduceDiv, Nat.reduceSub, TS T, f0, f7] <;> rfl)) rfl ?_
  refine Wo.val rfl (by simp only [MS, Nat.reduceBEq, Nat.reduceBNe, Nat.reduceEqDiff, reduceIte, if_true, if_false, reduceCtorEq, Nat.reduceAdd, Nat.reduceMul, Nat.reduceLeDiff, Nat.reduceLT, Nat.reduceDiv, Nat.reduceSub, bltA, intsA, intsA.go, cval, cv, TS T, f0, f7] <;> rfl) rfl ?_
  refine Wo.val rfl (by simp only [MS, Nat.reduceBEq, Nat.reduceBNe, Nat.reduceEqDiff, reduceIte, if_true, if_false, reduceCtorEq, Nat.reduceAdd, Nat.reduceMul, Nat.reduceLeDiff, Nat.reduceLT, Nat.reduceDiv, Nat.reduceSub, binA, arithA, strA, isC, cval, cv, TS T, f0, f7] <;> rfl) rfl ?_
  refine Wo.nil ?_
  refine hn7 _ ?_
  refine Wc.seq fun K8 hn8 hx8 => ?_
  refine Wc.cond (t := decide ((i : Int) < (m : Int))) rfl (fun hd => ?_) fun hd => ?_
  · refine Wc.skip (hn8 _ ?_)
    have him : i < m := by have := of_decide_eq_true hd; omega
    have ix1 := S.ixE T (ob := o1) him
    have ix2 := S.ixE T (ob := o2) him
    have ld1 := Eyes.ld T.t50 rfl rfl (e1.ext hx) him
    have ld2 := Eyes.ld T.t50 rfl rfl (e2.ext hx) him
    refine Wc.seq fun K9 hn9 hx9 => ?_
    refine Wc.block fun K10 hb10 hx10 => ?_
    repeat refine Wc.assoc ?_
    refine Wc.seq fun K11 hn11 hx11 => ?_
    have go : ∀ fr h2, Ext h h2 → look fr 0 = some (.sl o1 0 m (some m) 5) → look fr 1 = some (.sl o2 0 m (some m) 5) → look fr 2 = some (.i .i64 but) → look fr 7 = some (.i .i64 (i : Nat)) → look fr 28 = some (.b false) → K11 .normal ⟨fr, [], h2⟩ := by
      intro fr h2 hx f0 f1 f2 f7 f28
      refine hn11 _ ?_
      refine Wc.cond (t := false) f28 (fun h => by cases h) fun _ => ?_
      refine Wc.skip (hx10 _ _ (by simp) (hn9 _ ?_))
      have hw := w64 (n := i) (by omega)
      refine Wc.rg ?_
      refine Wo.val rfl (by first | rfl | (simp only [MS, Nat.reduceBEq, Nat.reduceBNe, Nat.reduceEqDiff, reduceIte, if_true, if_false, reduceCtorEq, Nat.reduceAdd, Nat.reduceMul, Nat.reduceLeDiff, Nat.reduceLT, Nat.reduceDiv, Nat.reduceSub, TS T, f7, hw] <;> rfl)) rfl ?_
      refine Wo.val rfl (by simp only [MS, Nat.reduceBEq, Nat.reduceBNe, Nat.reduceEqDiff, reduceIte, if_true, if_false, reduceCtorEq, Nat.reduceAdd, Nat.reduceMul, Nat.reduceLeDiff, Nat.reduceLT, Nat.reduceDiv, Nat.reduceSub, binA, arithA, strA, isC, cval, cv, TS T, f7, hw] <;> rfl) rfl ?_
      refine Wo.val rfl (by first | rfl | (simp only [MS, Nat.reduceBEq, Nat.reduceBNe, Nat.reduceEqDiff, reduceIte, if_true, if_false, reduceCtorEq, Nat.reduceAdd, Nat.reduceMul, Nat.reduceLeDiff, Nat.reduceLT, Nat.reduceDiv, Nat.reduceSub, cval, cv, TS T, f7, hw] <;> rfl)) rfl ?_
      refine Wo.nil ?_
      exact hnL _ (k - 1) (by omega) ⟨i + 1, _, h2, rfl, by omega, hx, by simp [look, f0], by simp [look, f1], by simp [look, f2], rfl⟩
    by_cases hb : (i : Int) = but
    · have hb' : ((i : Int) != but) = false := by simp [hb]
      refine Wc.drawn [.p 0 [14, 15, 16, 17, 18, 19, 20, 21, 22, 23, 24, 25, 27, 28] none, .p 1 [14, 15, 16, 17, 18, 19, 20, 21, 22, 23, 24, 25, 27, 28] none, .p 2 [16, 17, 18, 19, 20, 21, 22, 23, 24, 25, 27, 28] none, .p 3 [17, 18, 19, 20, 21, 22, 23, 24, 25, 27, 28] none, .p 4 [18, 19, 20, 21, 22, 23, 24, 25, 27, 28] (some (17, true)), .p 5 [18, 19, 20, 21, 22, 23, 24, 25, 27, 28] (some (17, true)), .p 6 [20, 21, 22, 23, 24, 25, 27, 28] (some (17, true)), .p 7 [21, 22, 23, 24, 25, 27, 28] (some (17, true)), .p 8 [18, 19, 20, 21, 22, 23, 24, 25, 27, 28] (some (17, true)), .p 9 [18, 19, 20, 21, 22, 23, 24, 25, 27, 28] (some (17, true)), .p 10 [18, 19, 20, 21, 24, 25, 27, 28] (some (17, true)), .p 11 [18, 19, 20, 21, 25, 27, 28] (some (17, true)), .e 12 [26, 27, 28] (some (17, true)) 4095, .p 13 [27, 28] (some (17, true)), .p 14 [28] none] (by kernel_rfl) ?_
      refine Wz.v rfl rfl rfl (by first | rfl | (simp only [MS, Nat.reduceBEq, Nat.reduceBNe, Nat.reduceEqDiff, reduceIte, if_true, if_false, reduceCtorEq, Nat.reduceAdd, Nat.reduceMul, Nat.reduceLeDiff, Nat.reduceLT, Nat.reduceDiv, Nat.reduceSub, evR, List.contains, List.elem, TS T, f0, f1, f2, f7, hb'] <;> rfl)) rfl ?_
      refine Wz.v rfl rfl rfl (by first | rfl | (simp only [MS, Nat.reduceBEq, Nat.reduceBNe, Nat.reduceEqDiff, reduceIte, if_true, if_false, reduceCtorEq, Nat.reduceAdd, Nat.reduceMul, Nat.reduceLeDiff, Nat.reduceLT, Nat.reduceDiv, Nat.reduceSub, evR, List.contains, List.elem, TS T, f0, f1, f2, f7, hb'] <;> rfl)) rfl ?_
      refine Wz.v rfl rfl rfl (by simp only [MS, Nat.reduceBEq, Nat.reduceBNe, Nat.reduceEqDiff, reduceIte, if_true, if_false, reduceCtorEq, Nat.reduceAdd, Nat.reduceMul, Nat.reduceLeDiff, Nat.reduceLT, Nat.reduceDiv, Nat.reduceSub, binA, arithA, strA, isC, cval, cv, evR, List.contains, List.elem, TS T, f0, f1, f2, f7, hb'] <;> rfl) rfl ?_
      refine Wz.v rfl rfl rfl (by first | rfl | (simp only [MS, Nat.reduceBEq, Nat.reduceBNe, Nat.reduceEqDiff, reduceIte, if_true, if_false, reduceCtorEq, Nat.reduceAdd, Nat.reduceMul, Nat.reduceLeDiff, Nat.reduceLT, Nat.reduceDiv, Nat.reduceSub, evR, List.contains, List.elem, TS T, f0, f1, f2, f7, hb'] <;> rfl)) rfl ?_
      refine Wz.skipP rfl (by first | rfl | (simp only [wantedA, wantedP, evR, List.contains, List.elem, MS, Nat.reduceBEq, Nat.reduceBNe, Nat.reduceEqDiff, reduceIte, if_true, if_false, reduceCtorEq, Nat.reduceAdd, Nat.reduceMul, Nat.reduceLeDiff, Nat.reduceLT, Nat.reduceDiv, Nat.reduceSub, f0, f1, f2, f7, hb'] <;> rfl)) rfl ?_
      refine Wz.skipP rfl (by first | rfl | (simp only [wantedA, wantedP, evR, List.contains, List.elem, MS, Nat.reduceBEq, Nat.reduceBNe, Nat.reduceEqDiff, reduceIte, if_true, if_false, reduceCtorEq, Nat.reduceAdd, Nat.reduceMul, Nat.reduceLeDiff, Nat.reduceLT, Nat.reduceDiv, Nat.reduceSub, f0, f1, f2, f7, hb'] <;> rfl)) rfl ?_
      refine Wz.skipP rfl (by first | rfl | (simp only [wantedA, wantedP, evR, List.contains, List.elem, MS, Nat.reduceBEq, Nat.reduceBNe, Nat.reduceEqDiff, reduceIte, if_true, if_false, reduceCtorEq, Nat.reduceAdd, Nat.reduceMul, Nat.reduceLeDiff, Nat.reduceLT, Nat.reduceDiv, Nat.reduceSub, f0, f1, f2, f7, hb'] <;> rfl)) rfl ?_
      refine Wz.skipP rfl (by first | rfl | (simp only [wantedA, wantedP, evR, List.contains, List.elem, MS, Nat.reduceBEq, Nat.reduceBNe, Nat.reduceEqDiff, reduceIte, if_true, if_false, reduceCtorEq, Nat.reduceAdd, Nat.reduceMul, Nat.reduceLeDiff, Nat.reduceLT, Nat.reduceDiv, Nat.reduceSub, f0, f1, f2, f7, hb'] <;> rfl)) rfl ?_
      refine Wz.skipP rfl (by first | rfl | (simp only [wantedA, wantedP, evR, List.contains, List.elem, MS, Nat.reduceBEq, Nat.reduceBNe, Nat.reduceEqDiff, reduceIte, if_true, if_false, reduceCtorEq, Nat.reduceAdd, Nat.reduceMul, Nat.reduceLeDiff, Nat.reduceLT, Nat.reduceDiv, Nat.reduceSub, f0, f1, f2, f7, hb'] <;> rfl)) rfl ?_
      refine Wz.skipP rfl (by first | rfl | (simp only [wantedA, wantedP, evR, List.contains, List.elem, MS, Nat.reduceBEq, Nat.reduceBNe, Nat.reduceEqDiff, reduceIte, if_true, if_false, reduceCtorEq, Nat.reduceAdd, Nat.reduceMul, Nat.reduceLeDiff, Nat.reduceLT, Nat.reduceDiv, Nat.reduceSub, f0, f1, f2, f7, hb'] <;> rfl)) rfl ?_
      refine Wz.skipP rfl (by first | rfl | (simp only [wantedA, wantedP, evR, List.contains, List.elem, MS, Nat.reduceBEq, Nat.reduceBNe, Nat.reduceEqDiff, reduceIte, if_true, if_false, reduceCtorEq, Nat.reduceAdd, Nat.reduceMul, Nat.reduceLeDiff, Nat.reduceLT, Nat.reduceDiv, Nat.reduceSub, f0, f1, f2, f7, hb'] <;> rfl)) rfl ?_
      refine Wz.skipP rfl (by first | rfl | (simp only [wantedA, wantedP, evR, List.contains, List.elem, MS, Nat.reduceBEq, Nat.reduceBNe, Nat.reduceEqDiff, reduceIte, if_true, if_false, reduceCtorEq, Nat.reduceAdd, Nat.reduceMul, Nat.reduceLeDiff, Nat.reduceLT, Nat.reduceDiv, Nat.reduceSub, f0, f1, f2, f7, hb'] <;> rfl)) rfl ?_
      refine Wz.skipE rfl (by first | rfl | (simp only [wantedA, wantedP, evR, List.contains, List.elem, MS, Nat.reduceBEq, Nat.reduceBNe, Nat.reduceEqDiff, reduceIte, if_true, if_false, reduceCtorEq, Nat.reduceAdd, Nat.reduceMul, Nat.reduceLeDiff, Nat.reduceLT, Nat.reduceDiv, Nat.reduceSub, f0, f1, f2, f7, hb'] <;> rfl)) rfl ?_
      refine Wz.skipP rfl (by first | rfl | (simp only [wantedA, wantedP, evR, List.contains, List.elem, MS, Nat.reduceBEq, Nat.reduceBNe, Nat.reduceEqDiff, reduceIte, if_true, if_false, reduceCtorEq, Nat.reduceAdd, Nat.reduceMul, Nat.reduceLeDiff, Nat.reduceLT, Nat.reduceDiv, Nat.reduceSub, f0, f1, f2, f7, hb'] <;> rfl)) rfl ?_
      refine Wz.v rfl rfl rfl (by first | rfl | (simp only [MS, Nat.reduceBEq, Nat.reduceBNe, Nat.reduceEqDiff, reduceIte, if_true, if_false, reduceCtorEq, Nat.reduceAdd, Nat.reduceMul, Nat.reduceLeDiff, Nat.reduceLT, Nat.reduceDiv, Nat.reduceSub, cval, cv, evR, List.contains, List.elem, TS T, f0, f1, f2, f7, hb'] <;> rfl)) rfl ?_
      refine Wz.nil ?_
      exact go _ _ hx (by simp [look, f0]) (by simp [look, f1]) (by simp [look, f2]) (by simp [look, f7]) rfl
    · have hb' : ((i : Int) != but) = true := by simp [hb]
      refine Wc.drawn [.p 0 [14, 15, 16, 17, 18, 19, 20, 21, 22, 23, 24, 25, 27, 28] none, .p 1 [14, 15, 16, 17, 18, 19, 20, 21, 22, 23, 24, 25, 27, 28] none, .p 2 [16, 17, 18, 19, 20, 21, 22, 23, 24, 25, 27, 28] none, .p 3 [17, 18, 19, 20, 21, 22, 23, 24, 25, 27, 28] none, .p 4 [18, 19, 20, 21, 22, 23, 24, 25, 27, 28] (some (17, true)), .p 5 [18, 19, 20, 21, 22, 23, 24, 25, 27, 28] (some (17, true)), .p 6 [20, 21, 22, 23, 24, 25, 27, 28] (some (17, true)), .p 7 [21, 22, 23, 24, 25, 27, 28] (some (17, true)), .p 8 [18, 19, 20, 21, 22, 23, 24, 25, 27, 28] (some (17, true)), .p 9 [18, 19, 20, 21, 22, 23, 24, 25, 27, 28] (some (17, true)), .p 10 [18, 19, 20, 21, 24, 25, 27, 28] (some (17, true)), .p 11 [18, 19, 20, 21, 25, 27, 28] (some (17, true)), .e 12 [26, 27, 28] (some (17, true)) 4095, .p 13 [27, 28] (some (17, true)), .p 14 [28] none] (by kernel_rfl) ?_
      refine Wz.v rfl rfl rfl (by first | rfl | (simp only [MS, Nat.reduceBEq, Nat.reduceBNe, Nat.reduceEqDiff, reduceIte, if_true, if_false, reduceCtorEq, Nat.reduceAdd, Nat.reduceMul, Nat.reduceLeDiff, Nat.reduceLT, Nat.reduceDiv, Nat.reduceSub, evR, List.contains, List.elem, TS T, f0, f1, f2, f7, hb', ix1, ix2, ld1, ld2] <;> rfl)) rfl ?_
      refine Wz.v rfl rfl rfl (by first | rfl | (simp only [MS, Nat.reduceBEq, Nat.reduceBNe, Nat.reduceEqDiff, reduceIte, if_true, if_false, reduceCtorEq, Nat.reduceAdd, Nat.reduceMul, Nat.reduceLeDiff, Nat.reduceLT, Nat.reduceDiv, Nat.reduceSub, evR, List.contains, List.elem, TS T, f0, f1, f2, f7, hb', ix1, ix2, ld1, ld2] <;> rfl)) rfl ?_
      refine Wz.v rfl rfl rfl (by simp only [MS, Nat.reduceBEq, Nat.reduceBNe, Nat.reduceEqDiff, reduceIte, if_true, if_false, reduceCtorEq, Nat.reduceAdd, Nat.reduceMul, Nat.reduceLeDiff, Nat.reduceLT, Nat.reduceDiv, Nat.reduceSub, binA, arithA, strA, isC, cval, cv, evR, List.contains, List.elem, TS T, f0, f1, f2, f7, hb', ix1, ix2, ld1, ld2] <;> rfl) rfl ?_
      refine Wz.v rfl rfl rfl (by first | rfl | (simp only [MS, Nat.reduceBEq, Nat.reduceBNe, Nat.reduceEqDiff, reduceIte, if_true, if_false, reduceCtorEq, Nat.reduceAdd, Nat.reduceMul, Nat.reduceLeDiff, Nat.reduceLT, Nat.reduceDiv, Nat.reduceSub, evR, List.contains, List.elem, TS T, f0, f1, f2, f7, hb', ix1, ix2, ld1, ld2] <;> rfl)) rfl ?_
      refine Wz.v rfl (by first | rfl | (simp only [wantedA, wantedP, evR, List.contains, List.elem, MS, Nat.reduceBEq, Nat.reduceBNe, Nat.reduceEqDiff, reduceIte, if_true, if_false, reduceCtorEq, Nat.reduceAdd, Nat.reduceMul, Nat.reduceLeDiff, Nat.reduceLT, Nat.reduceDiv, Nat.reduceSub, f0, f1, f2, f7, hb', ix1, ix2, ld1, ld2] <;> rfl)) rfl (by first | rfl | (simp only [MS, Nat.reduceBEq, Nat.reduceBNe, Nat.reduceEqDiff, reduceIte, if_true, if_false, reduceCtorEq, Nat.reduceAdd, Nat.reduceMul, Nat.reduceLeDiff, Nat.reduceLT, Nat.reduceDiv, Nat.reduceSub, evR, List.contains, List.elem, TS T, f0, f1, f2, f7, hb', ix1, ix2, ld1, ld2] <;> rfl)) rfl ?_
      refine Wz.v rfl (by first | rfl | (simp only [wantedA, wantedP, evR, List.contains, List.elem, MS, Nat.reduceBEq, Nat.reduceBNe, Nat.reduceEqDiff, reduceIte, if_true, if_false, reduceCtorEq, Nat.reduceAdd, Nat.reduceMul, Nat.reduceLeDiff, Nat.reduceLT, Nat.reduceDiv, Nat.reduceSub, f0, f1, f2, f7, hb', ix1, ix2, ld1, ld2] <;> rfl)) rfl (by first | rfl | (simp only [MS, Nat.reduceBEq, Nat.reduceBNe, Nat.reduceEqDiff, reduceIte, if_true, if_false, reduceCtorEq, Nat.reduceAdd, Nat.reduceMul, Nat.reduceLeDiff, Nat.reduceLT, Nat.reduceDiv, Nat.reduceSub, evR, List.contains, List.elem, TS T, f0, f1, f2, f7, hb', ix1, ix2, ld1, ld2] <;> rfl)) rfl ?_
      refine Wz.v rfl (by first | rfl | (simp only [wantedA, wantedP, evR, List.contains, List.elem, MS, Nat.reduceBEq, Nat.reduceBNe, Nat.reduceEqDiff, reduceIte, if_true, if_false, reduceCtorEq, Nat.reduceAdd, Nat.reduceMul, Nat.reduceLeDiff, Nat.reduceLT, Nat.reduceDiv, Nat.reduceSub, f0, f1, f2, f7, hb', ix1, ix2, ld1, ld2] <;> rfl)) rfl (by simp only [MS, Nat.reduceBEq, Nat.reduceBNe, Nat.reduceEqDiff, reduceIte, if_true, if_false, reduceCtorEq, Nat.reduceAdd, Nat.reduceMul, Nat.reduceLeDiff, Nat.reduceLT, Nat.reduceDiv, Nat.reduceSub, cval, cv, evR, List.contains, List.elem, TS T, f0, f1, f2, f7, hb', ix1, ix2, ld1, ld2] <;> rfl) rfl ?_
      refine Wz.ld rfl (by first | rfl | (simp only [wantedA, wantedP, evR, List.contains, List.elem, MS, Nat.reduceBEq, Nat.reduceBNe, Nat.reduceEqDiff, reduceIte, if_true, if_false, reduceCtorEq, Nat.reduceAdd, Nat.reduceMul, Nat.reduceLeDiff, Nat.reduceLT, Nat.reduceDiv, Nat.reduceSub, f0, f1, f2, f7, hb', ix1, ix2, ld1, ld2] <;> rfl)) rfl (by simp only [MS, Nat.reduceBEq, Nat.reduceBNe, Nat.reduceEqDiff, reduceIte, if_true, if_false, reduceCtorEq, Nat.reduceAdd, Nat.reduceMul, Nat.reduceLeDiff, Nat.reduceLT, Nat.reduceDiv, Nat.reduceSub, partV, evR, List.contains, List.elem, TS T, f0, f1, f2, f7, hb', ix1, ix2, ld1, ld2] <;> rfl) rfl ?_
      refine Wz.v rfl (by first | rfl | (simp only [wantedA, wantedP, evR, List.contains, List.elem, MS, Nat.reduceBEq, Nat.reduceBNe, Nat.reduceEqDiff, reduceIte, if_true, if_false, reduceCtorEq, Nat.reduceAdd, Nat.reduceMul, Nat.reduceLeDiff, Nat.reduceLT, Nat.reduceDiv, Nat.reduceSub, f0, f1, f2, f7, hb', ix1, ix2, ld1, ld2] <;> rfl)) rfl (by first | rfl | (simp only [MS, Nat.reduceBEq, Nat.reduceBNe, Nat.reduceEqDiff, reduceIte, if_true, if_false, reduceCtorEq, Nat.reduceAdd, Nat.reduceMul, Nat.reduceLeDiff, Nat.reduceLT, Nat.reduceDiv, Nat.reduceSub, evR, List.contains, List.elem, TS T, f0, f1, f2, f7, hb', ix1, ix2, ld1, ld2] <;> rfl)) rfl ?_
      refine Wz.v rfl (by first | rfl | (simp only [wantedA, wantedP, evR, List.contains, List.elem, MS, Nat.reduceBEq, Nat.reduceBNe, Nat.reduceEqDiff, reduceIte, if_true, if_false, reduceCtorEq, Nat.reduceAdd, Nat.reduceMul, Nat.reduceLeDiff, Nat.reduceLT, Nat.reduceDiv, Nat.reduceSub, f0, f1, f2, f7, hb', ix1, ix2, ld1, ld2] <;> rfl)) rfl (by first | rfl | (simp only [MS, Nat.reduceBEq, Nat.reduceBNe, Nat.reduceEqDiff, reduceIte, if_true, if_false, reduceCtorEq, Nat.reduceAdd, Nat.reduceMul, Nat.reduceLeDiff, Nat.reduceLT, Nat.reduceDiv, Nat.reduceSub, evR, List.contains, List.elem, TS T, f0, f1, f2, f7, hb', ix1, ix2, ld1, ld2] <;> rfl)) rfl ?_
      refine Wz.v rfl (by first | rfl | (simp only [wantedA, wantedP, evR, List.contains, List.elem, MS, Nat.reduceBEq, Nat.reduceBNe, Nat.reduceEqDiff, reduceIte, if_true, if_false, reduceCtorEq, Nat.reduceAdd, Nat.reduceMul, Nat.reduceLeDiff, Nat.reduceLT, Nat.reduceDiv, Nat.reduceSub, f0, f1, f2, f7, hb', ix1, ix2, ld1, ld2] <;> rfl)) rfl (by simp only [MS, Nat.reduceBEq, Nat.reduceBNe, Nat.reduceEqDiff, reduceIte, if_true, if_false, reduceCtorEq, Nat.reduceAdd, Nat.reduceMul, Nat.reduceLeDiff, Nat.reduceLT, Nat.reduceDiv, Nat.reduceSub, cval, cv, evR, List.contains, List.elem, TS T, f0, f1, f2, f7, hb', ix1, ix2, ld1, ld2] <;> rfl) rfl ?_
      refine Wz.ld rfl (by first | rfl | (simp only [wantedA, wantedP, evR, List.contains, List.elem, MS, Nat.reduceBEq, Nat.reduceBNe, Nat.reduceEqDiff, reduceIte, if_true, if_false, reduceCtorEq, Nat.reduceAdd, Nat.reduceMul, Nat.reduceLeDiff, Nat.reduceLT, Nat.reduceDiv, Nat.reduceSub, f0, f1, f2, f7, hb', ix1, ix2, ld1, ld2] <;> rfl)) rfl (by simp only [MS, Nat.reduceBEq, Nat.reduceBNe, Nat.reduceEqDiff, reduceIte, if_true, if_false, reduceCtorEq, Nat.reduceAdd, Nat.reduceMul, Nat.reduceLeDiff, Nat.reduceLT, Nat.reduceDiv, Nat.reduceSub, partV, evR, List.contains, List.elem, TS T, f0, f1, f2, f7, hb', ix1, ix2, ld1, ld2] <;> rfl) rfl ?_
      refine Wz.cl rfl (by first | rfl | (simp only [wantedA, wantedP, evR, List.contains, List.elem, MS, Nat.reduceBEq, Nat.reduceBNe, Nat.reduceEqDiff, reduceIte, if_true, if_false, reduceCtorEq, Nat.reduceAdd, Nat.reduceMul, Nat.reduceLeDiff, Nat.reduceLT, Nat.reduceDiv, Nat.reduceSub, f0, f1, f2, f7, hb', ix1, ix2, ld1, ld2] <;> rfl)) rfl rfl (by first | rfl | (simp only [MS, Nat.reduceBEq, Nat.reduceBNe, Nat.reduceEqDiff, reduceIte, if_true, if_false, reduceCtorEq, Nat.reduceAdd, Nat.reduceMul, Nat.reduceLeDiff, Nat.reduceLT, Nat.reduceDiv, Nat.reduceSub, cval, cv, evR, List.contains, List.elem, TS T, f0, f1, f2, f7, hb', ix1, ix2, ld1, ld2] <;> rfl)) (by first | rfl | (simp only [MS, Nat.reduceBEq, Nat.reduceBNe, Nat.reduceEqDiff, reduceIte, if_true, if_false, reduceCtorEq, Nat.reduceAdd, Nat.reduceMul, Nat.reduceLeDiff, Nat.reduceLT, Nat.reduceDiv, Nat.reduceSub, cval, cv, evR, List.contains, List.elem, TS T, f0, f1, f2, f7, hb', ix1, ix2, ld1, ld2] <;> rfl)) (fun _ => rfl) ?_
      obtain ⟨s1, s2, s3, s4⟩ := hs i him hb
      obtain ⟨h', hcall, hx'⟩ := h26 ((e1.ext hx).at_ i him).v ((e2.ext hx).at_ i him).v s1 s2 s3 s4
      refine ⟨_, h', hcall, ?_, ?_, ?_⟩
      · repeat' first | exact ldsOk_nil | refine ldsOk_skip (by rfl) ?_
      · exact alsOk_nil
      refine Wz.v rfl (by first | rfl | (simp only [wantedA, wantedP, evR, List.contains, List.elem, MS, Nat.reduceBEq, Nat.reduceBNe, Nat.reduceEqDiff, reduceIte, if_true, if_false, reduceCtorEq, Nat.reduceAdd, Nat.reduceMul, Nat.reduceLeDiff, Nat.reduceLT, Nat.reduceDiv, Nat.reduceSub, f0, f1, f2, f7, hb'] <;> rfl)) rfl (by simp only [MS, Nat.reduceBEq, Nat.reduceBNe, Nat.reduceEqDiff, reduceIte, if_true, if_false, reduceCtorEq, Nat.reduceAdd, Nat.reduceMul, Nat.reduceLeDiff, Nat.reduceLT, Nat.reduceDiv, Nat.reduceSub, unA, evR, List.contains, List.elem, TS T, f0, f1, f2, f7, hb'] <;> rfl) rfl ?_
      refine Wz.v rfl rfl rfl (by first | rfl | (simp only [MS, Nat.reduceBEq, Nat.reduceBNe, Nat.reduceEqDiff, reduceIte, if_true, if_false, reduceCtorEq, Nat.reduceAdd, Nat.reduceMul, Nat.reduceLeDiff, Nat.reduceLT, Nat.reduceDiv, Nat.reduceSub, cval, cv, evR, List.contains, List.elem, TS T, f0, f1, f2, f7, hb'] <;> rfl)) rfl ?_
      refine Wz.nil ?_
      exact go _ _ (hx.trans hx') (by simp [look, f0]) (by simp [look, f1]) (by simp [look, f2]) (by simp [look, f7]) rfl
  · refine Wc.exit (hx8 _ _ (by simp) (hxL _ _ (by simp) (hb6 _ (hn3 _ ?_))))
    refine Wc.seq fun K17 hn17 hx17 => ?_
    refine Wc.rg ?_
    refine Wo.val rfl (by first | rfl | (simp only [MS, Nat.reduceBEq, Nat.reduceBNe, Nat.reduceEqDiff, reduceIte, if_true, if_false, reduceCtorEq, Nat.reduceAdd, Nat.reduceMul, Nat.reduceLeDiff, Nat.reduceLT, Nat.reduceDiv, Nat.reduceSub, cval, cv, TS T] <;> rfl)) rfl ?_
    refine Wo.nil ?_
    exact hn17 _ (Wc.ret (hr0 _ _ [.b true] rfl ⟨rfl, hx⟩))
end Go.Mx

/- The seat's 'copied' and the copy of the arguments. -/
namespace Go.Mx
open Go.Proofs
set_option maxRecDepth 100000
set_option maxHeartbeats 2000000

theorem S.cp22 {tb} (T : S.Ty tb) : CpT tb 22 3 [.int .i64] where
  sl := ⟨_, T.t22, rfl⟩
  el := ⟨_, T.t3, rfl, rfl, by decide, fun j l hj => by
    match j with
    | 0 => cases hj; exact ⟨_, rfl, 0, rfl, rfl⟩
    | j + 1 => simp at hj⟩
  flat j l hj := by
    match j with
    | 0 => cases hj; rfl
    | j + 1 => simp at hj
  pos := by simp

/-- What a function that copies a list does. -/
def CopyOk (call : Caller) (g : Nat) (e : List Lf) : Prop := ∀ (G : Nat → Option BT) (r : Nat) (rm : Bool) (h : Hp) (v : V), TOk G h → (∀ b t, G b = some t → t.lfs.length ≤ 100000000000) → LfOk G r rm (.sl e) v →
  ∃ (n : Nat) (h' : Hp), n * e.length ≤ 100000000000 ∧ call (.fn g) [v] h = some (.ret (.sl h.n 0 n (some (n + 2)) e.length), h') ∧ Ext h h' ∧ h'.n = h.n + 1 ∧
    ∃ ty cs, h'.get h.n = some (.blk ty cs true) ∧ cs.length = (repL (n + 2) e).length ∧ ∀ (j : Nat) l x, (repL (n + 2) e)[j]? = some l → cs[j]? = some x → ∀ G r rm, LfOk G r rm l x

theorem S.fcopied_ok {tb fc} (T : S.Ty tb) {call call' : Caller} {lf : Nat} (hc : ∀ args h, call' (.fn 31) args h = runF tb fc call lf Tryz.f31 args h) : CopyOk call' 31 [.int .i64] := by
  intro G r rm h v hT hs hv
  obtain ⟨n, hln, hn, h1, h2, hms, hap, hx, hnn, hcs⟩ := copy_of (S.cp22 T) hT hs hv
  suffices H : Wf tb fc call lf Tryz.f31 [v] h (fun w h' => w = .sl h.n 0 n (some (n + 2)) 1 ∧ h' = h2) by
    obtain ⟨w, h', h1, rfl, rfl⟩ := H
    exact ⟨n, h', hn, by rw [hc]; exact h1, hx, hnn, hcs⟩
  have hw : IntKind.i64.wrap ((n : Int) + 2) = ((n + 2 : Nat) : Int) := by simp at hn; rw [wrap_i64] <;> omega
  simp only [List.length_cons, List.length_nil, Nat.zero_add] at hms hap
  refine Wf.intro (sz := 9) rfl rfl fun K hn0 hr0 => ?_
  repeat refine Wc.assoc ?_
  refine Wc.seq fun K1 hn1 hx1 => ?_
  refine Wc.rg ?_
  refine Wo.val rfl (by first | rfl | (simp only [MS, Nat.reduceBEq, Nat.reduceBNe, Nat.reduceEqDiff, reduceIte, if_true, if_false, reduceCtorEq, Nat.reduceAdd, Nat.reduceMul, Nat.reduceLeDiff, Nat.reduceLT, Nat.reduceDiv, Nat.reduceSub, cval, cv, TS T] <;> rfl)) rfl ?_
  refine Wo.nil ?_
  refine hn1 _ ?_
  repeat refine Wc.assoc ?_
  refine Wc.seq fun K2 hn2 hx2 => ?_
  refine Wc.rg ?_
  refine Wo.val rfl (by first | rfl | (simp only [MS, Nat.reduceBEq, Nat.reduceBNe, Nat.reduceEqDiff, reduceIte, if_true, if_false, reduceCtorEq, Nat.reduceAdd, Nat.reduceMul, Nat.reduceLeDiff, Nat.reduceLT, Nat.reduceDiv, Nat.reduceSub, TS T, hln, hw, hms, hap] <;> rfl)) rfl ?_
  refine Wo.val rfl (by simp only [MS, Nat.reduceBEq, Nat.reduceBNe, Nat.reduceEqDiff, reduceIte, if_true, if_false, reduceCtorEq, Nat.reduceAdd, Nat.reduceMul, Nat.reduceLeDiff, Nat.reduceLT, Nat.reduceDiv, Nat.reduceSub, cval, cv, TS T, hln, hw, hms, hap] <;> rfl) rfl ?_
  refine Wo.val rfl (by simp only [MS, Nat.reduceBEq, Nat.reduceBNe, Nat.reduceEqDiff, reduceIte, if_true, if_false, reduceCtorEq, Nat.reduceAdd, Nat.reduceMul, Nat.reduceLeDiff, Nat.reduceLT, Nat.reduceDiv, Nat.reduceSub, binA, arithA, strA, isC, cval, cv, TS T, hln, hw, hms, hap] <;> rfl) rfl ?_
  refine Wo.val rfl (by simp only [MS, Nat.reduceBEq, Nat.reduceBNe, Nat.reduceEqDiff, reduceIte, if_true, if_false, reduceCtorEq, Nat.reduceAdd, Nat.reduceMul, Nat.reduceLeDiff, Nat.reduceLT, Nat.reduceDiv, Nat.reduceSub, cval, cv, TS T, hln, hw, hms, hap] <;> rfl) rfl ?_
  refine Wo.val rfl (by first | rfl | (simp only [MS, Nat.reduceBEq, Nat.reduceBNe, Nat.reduceEqDiff, reduceIte, if_true, if_false, reduceCtorEq, Nat.reduceAdd, Nat.reduceMul, Nat.reduceLeDiff, Nat.reduceLT, Nat.reduceDiv, Nat.reduceSub, TS T, hln, hw, hms, hap] <;> rfl)) rfl ?_
  refine Wo.val rfl (by simp only [MS, Nat.reduceBEq, Nat.reduceBNe, Nat.reduceEqDiff, reduceIte, if_true, if_false, reduceCtorEq, Nat.reduceAdd, Nat.reduceMul, Nat.reduceLeDiff, Nat.reduceLT, Nat.reduceDiv, Nat.reduceSub, cval, cv, TS T, hln, hw, hms, hap] <;> rfl) rfl ?_
  refine Wo.val rfl (by first | rfl | (simp only [MS, Nat.reduceBEq, Nat.reduceBNe, Nat.reduceEqDiff, reduceIte, if_true, if_false, reduceCtorEq, Nat.reduceAdd, Nat.reduceMul, Nat.reduceLeDiff, Nat.reduceLT, Nat.reduceDiv, Nat.reduceSub, cval, cv, TS T, hln, hw, hms, hap] <;> rfl)) rfl ?_
  refine Wo.nil ?_
  exact hn2 _ (Wc.ret (hr0 _ _ [_] rfl ⟨rfl, rfl⟩))

/-- What a function that copies arguments does: with places of its own, in the region r'. -/
def OwnOk (call : Caller) (g : Nat) (ls : List Lf) : Prop := ∀ (G : Nat → Option BT) (r r' : Nat) (rm : Bool) (h : Hp) (xs : List V), TOk G h → (∀ b t, G b = some t → t.lfs.length ≤ 100000000000) → xs.length = ls.length → (∀ (j : Nat) l x, ls[j]? = some l → xs[j]? = some x → LfOk G r rm l x) →
  ∃ h' ys G', call (.fn g) [.agg xs] h = some (.ret (.agg ys), h') ∧ Ext h h' ∧ TOk G' h' ∧ ys.length = ls.length ∧ (∀ (j : Nat) l y, ls[j]? = some l → ys[j]? = some y → LfOk G' r' true l y) ∧
    (∀ b, b < h.n → G' b = G b) ∧ (∀ b t, h.n ≤ b → G' b = some t → t.reg = r' ∧ t.rm = true ∧ t.wr = true)


theorem S.fown_ok {tb fc} (T : S.Ty tb) {call call' : Caller} {lf : Nat} (hc : ∀ args h, call' (.fn 5) args h = runF tb fc call lf Tryz.f5 args h) (hcp : CopyOk call 31 [.int .i64]) : OwnOk call' 5 [.sl [.int .i64], .int .i64, .int .i64, .int .i64, .int .i64, .int .i64, .int .i64, .sl [.int .i64]] := by
  intro G r r' rm h xs hT hs hxl hxs
  obtain ⟨x0, x1, x2, x3, x4, x5, x6, x7, rfl⟩ : ∃ x0 x1 x2 x3 x4 x5 x6 x7, xs = [x0, x1, x2, x3, x4, x5, x6, x7] := by
    match xs, hxl with
    | [x0, x1, x2, x3, x4, x5, x6, x7], _ => exact ⟨_, _, _, _, _, _, _, _, rfl⟩
  have hx0 := hxs 0 _ _ rfl rfl
  have ho0 := hx0.one
  obtain ⟨n1, rfl, w1⟩ := hxs 1 _ _ rfl rfl
  obtain ⟨n2, rfl, w2⟩ := hxs 2 _ _ rfl rfl
  obtain ⟨n3, rfl, w3⟩ := hxs 3 _ _ rfl rfl
  obtain ⟨n4, rfl, w4⟩ := hxs 4 _ _ rfl rfl
  obtain ⟨n5, rfl, w5⟩ := hxs 5 _ _ rfl rfl
  obtain ⟨n6, rfl, w6⟩ := hxs 6 _ _ rfl rfl
  have hx7 := hxs 7 _ _ rfl rfl
  have ho7 := hx7.one
  obtain ⟨H0, hH0⟩ : ∃ H0, (h.push (.blk 48 [x0, .i .i64 n1, .i .i64 n2, .i .i64 n3, .i .i64 n4, .i .i64 n5, .i .i64 n6, x7] true)).push (.blk 48 [.nils, .i .i64 0, .i .i64 0, .i .i64 0, .i .i64 0, .i .i64 0, .i .i64 0, .nils] true) = H0 := ⟨_, rfl⟩
  have e0 : Ext h H0 := by rw [← hH0]; exact (Ext.push _ _).trans (Ext.push _ _)
  have b0 : H0.n = h.n + 2 := by rw [← hH0]; simp
  have g0 : H0.get h.n = some (.blk 48 [x0, .i .i64 n1, .i .i64 n2, .i .i64 n3, .i .i64 n4, .i .i64 n5, .i .i64 n6, x7] true) := by rw [← hH0]; simp [Hp.get_push]
  have z0 : H0.get (h.n + 1) = some (.blk 48 [.nils, .i .i64 0, .i .i64 0, .i .i64 0, .i .i64 0, .i .i64 0, .i .i64 0, .nils] true) := by rw [← hH0]; simp [Hp.get_push]
  obtain ⟨m0, k0, hn0, hc0, ex0, hl0, ty0, cs0, hg0, hcl0, hcs0⟩ := hcp G r rm H0 x0 (hT.ext e0) hs hx0
  rw [b0] at hc0 hl0 hg0
  simp only [List.length_cons, List.length_nil, Nat.zero_add] at hc0
  have gk0 : k0.get h.n = some (.blk 48 [x0, .i .i64 n1, .i .i64 n2, .i .i64 n3, .i .i64 n4, .i .i64 n5, .i .i64 n6, x7] true) := by rw [ex0.old _ (by omega)]; exact g0
  have zk0 : k0.get (h.n + 1) = some (.blk 48 [.nils, .i .i64 0, .i .i64 0, .i .i64 0, .i .i64 0, .i .i64 0, .i .i64 0, .nils] true) := by rw [ex0.old _ (by omega)]; exact z0
  obtain ⟨H1, hH1⟩ : ∃ H, k0.set h.n (.blk 48 [.sl (h.n + 2) 0 m0 (some (m0 + 2)) 1, .i .i64 n1, .i .i64 n2, .i .i64 n3, .i .i64 n4, .i .i64 n5, .i .i64 n6, x7] true) = H := ⟨_, rfl⟩
  have e1 : Ext h H1 := by rw [← hH1]; exact (e0.trans ex0).set (Nat.le_refl _) _
  have b1 : H1.n = h.n + 3 := by rw [← hH1, Hp.n_set, hl0]
  have g1 : H1.get h.n = some (.blk 48 [.sl (h.n + 2) 0 m0 (some (m0 + 2)) 1, .i .i64 n1, .i .i64 n2, .i .i64 n3, .i .i64 n4, .i .i64 n5, .i .i64 n6, x7] true) := by rw [← hH1]; exact Hp.get_set_self _ _ _
  have z1 : H1.get (h.n + 1) = some (.blk 48 [.nils, .i .i64 0, .i .i64 0, .i .i64 0, .i .i64 0, .i .i64 0, .i .i64 0, .nils] true) := by rw [← hH1, Hp.get_set_ne _ _ (by omega)]; exact zk0
  obtain ⟨m1, k1, hn1, hc1, ex1, hl1, ty1, cs1, hg1, hcl1, hcs1⟩ := hcp G r rm H1 x7 (hT.ext e1) hs hx7
  rw [b1] at hc1 hl1 hg1
  simp only [List.length_cons, List.length_nil, Nat.zero_add] at hc1
  have gk1 : k1.get h.n = some (.blk 48 [.sl (h.n + 2) 0 m0 (some (m0 + 2)) 1, .i .i64 n1, .i .i64 n2, .i .i64 n3, .i .i64 n4, .i .i64 n5, .i .i64 n6, x7] true) := by rw [ex1.old _ (by omega)]; exact g1
  have zk1 : k1.get (h.n + 1) = some (.blk 48 [.nils, .i .i64 0, .i .i64 0, .i .i64 0, .i .i64 0, .i .i64 0, .i .i64 0, .nils] true) := by rw [ex1.old _ (by omega)]; exact z1
  obtain ⟨H2, hH2⟩ : ∃ H, k1.set h.n (.blk 48 [.sl (h.n + 2) 0 m0 (some (m0 + 2)) 1, .i .i64 n1, .i .i64 n2, .i .i64 n3, .i .i64 n4, .i .i64 n5, .i .i64 n6, .sl (h.n + 3) 0 m1 (some (m1 + 2)) 1] true) = H := ⟨_, rfl⟩
  have e2 : Ext h H2 := by rw [← hH2]; exact (e1.trans ex1).set (Nat.le_refl _) _
  have b2 : H2.n = h.n + 4 := by rw [← hH2, Hp.n_set, hl1]
  have g2 : H2.get h.n = some (.blk 48 [.sl (h.n + 2) 0 m0 (some (m0 + 2)) 1, .i .i64 n1, .i .i64 n2, .i .i64 n3, .i .i64 n4, .i .i64 n5, .i .i64 n6, .sl (h.n + 3) 0 m1 (some (m1 + 2)) 1] true) := by rw [← hH2]; exact Hp.get_set_self _ _ _
  have z2 : H2.get (h.n + 1) = some (.blk 48 [.nils, .i .i64 0, .i .i64 0, .i .i64 0, .i .i64 0, .i .i64 0, .i .i64 0, .nils] true) := by rw [← hH2, Hp.get_set_ne _ _ (by omega)]; exact zk1
  have q0_1 : H1.get (h.n + 2) = some (.blk ty0 cs0 true) := by rw [← hH1, Hp.get_set_ne _ _ (by omega)]; exact hg0
  have q0_2 : H2.get (h.n + 2) = some (.blk ty0 cs0 true) := by rw [← hH2, Hp.get_set_ne _ _ (by omega), ex1.old _ (by omega)]; exact q0_1
  have q1_2 : H2.get (h.n + 3) = some (.blk ty1 cs1 true) := by rw [← hH2, Hp.get_set_ne _ _ (by omega)]; exact hg1
  suffices H : Wf tb fc call lf Tryz.f5 [.agg [x0, .i .i64 n1, .i .i64 n2, .i .i64 n3, .i .i64 n4, .i .i64 n5, .i .i64 n6, x7]] h (fun w h' => w = .agg [.sl (h.n + 2) 0 m0 (some (m0 + 2)) 1, .i .i64 n1, .i .i64 n2, .i .i64 n3, .i .i64 n4, .i .i64 n5, .i .i64 n6, .sl (h.n + 3) 0 m1 (some (m1 + 2)) 1] ∧ h' = H2.set (h.n + 1) (.blk 48 [.sl (h.n + 2) 0 m0 (some (m0 + 2)) 1, .i .i64 n1, .i .i64 n2, .i .i64 n3, .i .i64 n4, .i .i64 n5, .i .i64 n6, .sl (h.n + 3) 0 m1 (some (m1 + 2)) 1] true)) by
    obtain ⟨w, h', h1, rfl, rfl⟩ := H
    have exx : Ext h (H2.set (h.n + 1) (.blk 48 [.sl (h.n + 2) 0 m0 (some (m0 + 2)) 1, .i .i64 n1, .i .i64 n2, .i .i64 n3, .i .i64 n4, .i .i64 n5, .i .i64 n6, .sl (h.n + 3) 0 m1 (some (m1 + 2)) 1] true)) := e2.set (by omega) _
    obtain ⟨D, hD⟩ : ∃ D : List (Nat × List Lf), [(h.n + 2, repL (m0 + 2) [.int .i64]), (h.n + 3, repL (m1 + 2) [.int .i64])] = D := ⟨_, rfl⟩
    have hDf : ∀ p ∈ D, FlatAt (H2.set (h.n + 1) (.blk 48 [.sl (h.n + 2) 0 m0 (some (m0 + 2)) 1, .i .i64 n1, .i .i64 n2, .i .i64 n3, .i .i64 n4, .i .i64 n5, .i .i64 n6, .sl (h.n + 3) 0 m1 (some (m1 + 2)) 1] true)) p ∧ h.n + 2 ≤ p.1 := by
      intro p hp; rw [← hD] at hp; simp only [List.mem_cons, List.not_mem_nil, or_false] at hp
      rcases hp with rfl | rfl
      · exact ⟨⟨by simp; omega, by rw [repL_length]; simp at hn0 ⊢; omega, ty0, cs0, by rw [Hp.get_set_ne _ _ (by simp)]; exact q0_2, hcl0, fun j lf x a b => hcs0 j lf x a b⟩, by simp⟩
      · exact ⟨⟨by simp; omega, by rw [repL_length]; simp at hn1 ⊢; omega, ty1, cs1, by rw [Hp.get_set_ne _ _ (by simp)]; exact q1_2, hcl1, fun j lf x a b => hcs1 j lf x a b⟩, by simp⟩
    refine ⟨_, [.sl (h.n + 2) 0 m0 (some (m0 + 2)) 1, .i .i64 n1, .i .i64 n2, .i .i64 n3, .i .i64 n4, .i .i64 n5, .i .i64 n6, .sl (h.n + 3) 0 m1 (some (m1 + 2)) 1], addOwn G D r', by rw [hc]; exact h1, exx, (hT.ext exx).own (fun p hp => (hDf p hp).1) (fun p hp => hT.none (by have := (hDf p hp).2; omega)) r', rfl, ?_, ?_, ?_⟩
    · intro j l y hl hy
      match j with
      | 0 => cases hl; cases hy; exact addOwn_list (e := [.int .i64]) (by rw [← hD]; simp [look]) (by simp)
      | 1 => cases hl; cases hy; exact ⟨_, rfl, w1⟩
      | 2 => cases hl; cases hy; exact ⟨_, rfl, w2⟩
      | 3 => cases hl; cases hy; exact ⟨_, rfl, w3⟩
      | 4 => cases hl; cases hy; exact ⟨_, rfl, w4⟩
      | 5 => cases hl; cases hy; exact ⟨_, rfl, w5⟩
      | 6 => cases hl; cases hy; exact ⟨_, rfl, w6⟩
      | 7 => cases hl; cases hy; exact addOwn_list (e := [.int .i64]) (by rw [← hD]; simp [look]) (by simp)
      | j + 8 => simp at hl
    · intro b hb
      unfold addOwn
      cases hd : look D b with
      | none => rfl
      | some l => have h2 := (hDf _ (look_mem hd)).2; dsimp only at h2; omega
    · intro b t hb hbt
      unfold addOwn at hbt
      split at hbt
      · cases hbt; exact ⟨rfl, rfl, rfl⟩
      · rw [hT.none hb] at hbt; cases hbt
  have hne : h.n ≠ h.n + 1 := by omega
  have hne' : h.n + 1 ≠ h.n := by omega
  refine Wf.intro (sz := 12) rfl rfl fun K hn0 hr0 => ?_
  repeat refine Wc.assoc ?_
  refine Wc.seq fun K1 hnn1 hx1' => ?_
  refine Wc.rg ?_
  refine Wo.val rfl (by simp only [MS, Nat.reduceBEq, Nat.reduceBNe, Nat.reduceEqDiff, reduceIte, if_true, if_false, reduceCtorEq, Nat.reduceAdd, Nat.reduceMul, Nat.reduceLeDiff, Nat.reduceLT, Nat.reduceDiv, Nat.reduceSub, cval, cv, TS T] <;> rfl) rfl ?_
  refine Wo.val rfl (by simp only [MS, Nat.reduceBEq, Nat.reduceBNe, Nat.reduceEqDiff, reduceIte, if_true, if_false, reduceCtorEq, Nat.reduceAdd, Nat.reduceMul, Nat.reduceLeDiff, Nat.reduceLT, Nat.reduceDiv, Nat.reduceSub, TI.zero, TS T] <;> rfl) rfl ?_
  refine Wo.nil ?_
  refine hnn1 _ ?_
  have hH0' : (h.push (.blk 48 [x0, .i .i64 n1, .i .i64 n2, .i .i64 n3, .i .i64 n4, .i .i64 n5, .i .i64 n6, x7] true)).push (.blk 48 [.nils, .i .i64 0, .i .i64 0, .i .i64 0, .i .i64 0, .i .i64 0, .i .i64 0, .nils] true) = H0 := hH0
  rw [hH0']
  repeat refine Wc.assoc ?_
  refine Wc.seq fun K2 hnn2 hx2' => ?_
  refine Wc.rg ?_
  refine Wo.val rfl (by simp only [MS, Nat.reduceBEq, Nat.reduceBNe, Nat.reduceEqDiff, reduceIte, if_true, if_false, reduceCtorEq, Nat.reduceAdd, Nat.reduceMul, Nat.reduceLeDiff, Nat.reduceLT, Nat.reduceDiv, Nat.reduceSub, TS T, g0] <;> rfl) rfl ?_
  refine Wo.val rfl (by simp only [MS, Nat.reduceBEq, Nat.reduceBNe, Nat.reduceEqDiff, reduceIte, if_true, if_false, reduceCtorEq, Nat.reduceAdd, Nat.reduceMul, Nat.reduceLeDiff, Nat.reduceLT, Nat.reduceDiv, Nat.reduceSub, loadA, partV, TS T, g0] <;> rfl) rfl ?_
  refine Wo.cl rfl rfl rfl (by first | rfl | (simp only [MS, Nat.reduceBEq, Nat.reduceBNe, Nat.reduceEqDiff, reduceIte, if_true, if_false, reduceCtorEq, Nat.reduceAdd, Nat.reduceMul, Nat.reduceLeDiff, Nat.reduceLT, Nat.reduceDiv, Nat.reduceSub, cval, cv, TS T, g0] <;> rfl)) (by first | rfl | (simp only [MS, Nat.reduceBEq, Nat.reduceBNe, Nat.reduceEqDiff, reduceIte, if_true, if_false, reduceCtorEq, Nat.reduceAdd, Nat.reduceMul, Nat.reduceLeDiff, Nat.reduceLT, Nat.reduceDiv, Nat.reduceSub, cval, cv, TS T, g0] <;> rfl)) (fun _ => rfl) ?_
  refine ⟨_, k0, hc0, ?_⟩
  refine Wo.val rfl (by simp only [MS, Nat.reduceBEq, Nat.reduceBNe, Nat.reduceEqDiff, reduceIte, if_true, if_false, reduceCtorEq, Nat.reduceAdd, Nat.reduceMul, Nat.reduceLeDiff, Nat.reduceLT, Nat.reduceDiv, Nat.reduceSub, TS T, gk0, ho0, ho7,  and_self, true_and] <;> rfl) rfl ?_
  refine Wo.val rfl (by simp only [MS, Nat.reduceBEq, Nat.reduceBNe, Nat.reduceEqDiff, reduceIte, if_true, if_false, reduceCtorEq, Nat.reduceAdd, Nat.reduceMul, Nat.reduceLeDiff, Nat.reduceLT, Nat.reduceDiv, Nat.reduceSub, storeA, setAll, TI.zero, cval, cv, TS T, gk0, ho0, ho7,  and_self, true_and] <;> rfl) rfl ?_
  refine Wo.nil ?_
  refine hnn2 _ ?_
  rw [hH1]
  repeat refine Wc.assoc ?_
  refine Wc.seq fun K3 hnn3 hx3' => ?_
  refine Wc.rg ?_
  refine Wo.val rfl (by simp only [MS, Nat.reduceBEq, Nat.reduceBNe, Nat.reduceEqDiff, reduceIte, if_true, if_false, reduceCtorEq, Nat.reduceAdd, Nat.reduceMul, Nat.reduceLeDiff, Nat.reduceLT, Nat.reduceDiv, Nat.reduceSub, TS T, g1] <;> rfl) rfl ?_
  refine Wo.val rfl (by simp only [MS, Nat.reduceBEq, Nat.reduceBNe, Nat.reduceEqDiff, reduceIte, if_true, if_false, reduceCtorEq, Nat.reduceAdd, Nat.reduceMul, Nat.reduceLeDiff, Nat.reduceLT, Nat.reduceDiv, Nat.reduceSub, loadA, partV, TS T, g1] <;> rfl) rfl ?_
  refine Wo.cl rfl rfl rfl (by first | rfl | (simp only [MS, Nat.reduceBEq, Nat.reduceBNe, Nat.reduceEqDiff, reduceIte, if_true, if_false, reduceCtorEq, Nat.reduceAdd, Nat.reduceMul, Nat.reduceLeDiff, Nat.reduceLT, Nat.reduceDiv, Nat.reduceSub, cval, cv, TS T, g1] <;> rfl)) (by first | rfl | (simp only [MS, Nat.reduceBEq, Nat.reduceBNe, Nat.reduceEqDiff, reduceIte, if_true, if_false, reduceCtorEq, Nat.reduceAdd, Nat.reduceMul, Nat.reduceLeDiff, Nat.reduceLT, Nat.reduceDiv, Nat.reduceSub, cval, cv, TS T, g1] <;> rfl)) (fun _ => rfl) ?_
  refine ⟨_, k1, hc1, ?_⟩
  refine Wo.val rfl (by simp only [MS, Nat.reduceBEq, Nat.reduceBNe, Nat.reduceEqDiff, reduceIte, if_true, if_false, reduceCtorEq, Nat.reduceAdd, Nat.reduceMul, Nat.reduceLeDiff, Nat.reduceLT, Nat.reduceDiv, Nat.reduceSub, TS T, gk1, ho0, ho7,  and_self, true_and] <;> rfl) rfl ?_
  refine Wo.val rfl (by simp only [MS, Nat.reduceBEq, Nat.reduceBNe, Nat.reduceEqDiff, reduceIte, if_true, if_false, reduceCtorEq, Nat.reduceAdd, Nat.reduceMul, Nat.reduceLeDiff, Nat.reduceLT, Nat.reduceDiv, Nat.reduceSub, storeA, setAll, TI.zero, cval, cv, TS T, gk1, ho0, ho7,  and_self, true_and] <;> rfl) rfl ?_
  refine Wo.nil ?_
  refine hnn3 _ ?_
  rw [hH2]
  repeat refine Wc.assoc ?_
  refine Wc.seq fun K4 hnn4 hx4' => ?_
  refine Wc.rg ?_
  refine Wo.val rfl (by simp only [MS, Nat.reduceBEq, Nat.reduceBNe, Nat.reduceEqDiff, reduceIte, if_true, if_false, reduceCtorEq, Nat.reduceAdd, Nat.reduceMul, Nat.reduceLeDiff, Nat.reduceLT, Nat.reduceDiv, Nat.reduceSub, loadA, partV, TS T, g2, z2, hne, hne', ho0, ho7,  and_self, true_and] <;> rfl) rfl ?_
  refine Wo.val rfl (by simp only [MS, Nat.reduceBEq, Nat.reduceBNe, Nat.reduceEqDiff, reduceIte, if_true, if_false, reduceCtorEq, Nat.reduceAdd, Nat.reduceMul, Nat.reduceLeDiff, Nat.reduceLT, Nat.reduceDiv, Nat.reduceSub, storeA, setAll, TI.zero, cval, cv, TS T, g2, z2, hne, hne', ho0, ho7,  and_self, true_and] <;> rfl) rfl ?_
  refine Wo.nil ?_
  refine hnn4 _ (Wc.ret (hr0 _ _ [.agg [.sl (h.n + 2) 0 m0 (some (m0 + 2)) 1, .i .i64 n1, .i .i64 n2, .i .i64 n3, .i .i64 n4, .i .i64 n5, .i .i64 n6, .sl (h.n + 3) 0 m1 (some (m1 + 2)) 1]] ?_ ⟨rfl, rfl⟩))
  simp [Tryz.f5, resA, look, loadA, T.t24, partV]
end Go.Mx
