/- The law on the abstract machine, and on the model. -/
import Derived.Test.YtedekdoelkdniaaGreatDoorKp
import Derived.Test.YtedekdoelkdniaaGreatDoorKn1
import Derived.Test.YtedekdoelkdniaaGreatDoorKn2
import Derived.Test.YtedekdoelkdniaaGreatDoorKn3
import Derived.Test.YtedekdoelkdniaaGreatDoorKn4
import Derived.Test.YtedekdoelkdniaaGreatDoorKn5
set_option linter.all false
--@T
namespace Go.Mx
open Go.Proofs
set_option maxRecDepth 100000
set_option maxHeartbeats 4000000
theorem S.f3_ok {tb fc} (T : S.Ty tb) {call : Caller} {lf : Nat} {G : Nat → Option BT} {h : Hp} {xs : List V} (hT : TOk G h) (hG0 : ∀ b t, G b = some t → t.reg = 0 ∧ t.lfs.length ≤ 2000000000)
    (hxl : xs.length = S.ls.length) (hxs : ∀ (j : Nat) l x, S.ls[j]? = some l → xs[j]? = some x → LfOk G 0 false l x)
    (h4 : ∀ {G : Nat → Option BT} {h : Hp} {cb cty : Nat} {cw : Bool}, TOk G h → (∀ b t, G b = some t → t.reg = 0 ∧ t.lfs.length ≤ 2000000000) → (∀ (j : Nat) l x, S.ls[j]? = some l → xs[j]? = some x → LfOk G 0 false l x) → h.get cb = some (.blk cty ([7, 11, 15, 18, 20].map fun g => V.f (.func g) [] []) cw) → cb < h.n → G cb = none →
      ∃ h', call (.fn 4) [.agg xs, .f (.func 5) [] [], .f (.func 6) [] [], .sl cb 0 5 (some 5) 1] h = some (.ret (.b true), h') ∧ Ext h h')
    (h23 : ∀ h, call (.fn 24) [] h = some (.ret (.b true), h)) : ∃ h', runF tb fc call lf Tryz.f3 [.agg xs] h = some (.ret (.b true), h') := by
  suffices H : Wf tb fc call lf Tryz.f3 [.agg xs] h (fun w _ => w = .b true) by
    obtain ⟨w, h', h1, rfl⟩ := H
    exact ⟨h', h1⟩
  have hx5 : xs.length = 11 := hxl
  have xa : Ext h (h.push (.blk (2 * 27) xs true)) := Ext.push _ _
  have hldx : loadA tb (h.push (.blk (2 * 27) xs true)) 27 (.p h.n 0) = some (.agg xs) := by
    simp [loadA, T.t27, partV, hx5]
    rw [List.take_of_length_le (by omega)]
  have hbs : ∀ hh : Hp, buildSliceA tb hh 49 5 [(0, .f (.func 7) [] []), (1, .f (.func 11) [] []), (2, .f (.func 15) [] []), (3, .f (.func 18) [] []), (4, .f (.func 20) [] [])] = some (.sl hh.n 0 5 (some 5) 1, hh.push (.blk (2 * 40) ([7, 11, 15, 18, 20].map fun g => V.f (.func g) [] []) true)) := by
    intro hh
    simp [buildSliceA, T.t49, T.t40, fillA, rep, TI.zero, cl_f, on_f, setAll, cl_nilf]
  have xb := xa.trans (Ext.push (h.push (.blk (2 * 27) xs true)) (.blk (2 * 40) ([7, 11, 15, 18, 20].map fun g => V.f (.func g) [] []) true))
  obtain ⟨h', hcall, hx⟩ := h4 (hT.ext xb) hG0 hxs (Hp.get_push_self _ _) (by simp) (hT.none (by simp))
  refine Wf.intro (sz := 9) rfl rfl fun K hn0 hr0 => ?_
  repeat refine Wc.assoc ?_
  refine Wc.seq fun K1 hn1 hx1 => ?_
  refine Wc.rg ?_
  refine Wo.val rfl (by simp only [MS, Nat.reduceBEq, Nat.reduceBNe, Nat.reduceEqDiff, reduceIte, if_true, if_false, reduceCtorEq, Nat.reduceAdd, Nat.reduceMul, Nat.reduceLeDiff, Nat.reduceLT, Nat.reduceDiv, Nat.reduceSub, cval, cv, TS T] <;> rfl) rfl ?_
  refine Wo.val rfl (by first | rfl | (simp only [MS, Nat.reduceBEq, Nat.reduceBNe, Nat.reduceEqDiff, reduceIte, if_true, if_false, reduceCtorEq, Nat.reduceAdd, Nat.reduceMul, Nat.reduceLeDiff, Nat.reduceLT, Nat.reduceDiv, Nat.reduceSub, cval, cv, TS T] <;> rfl)) rfl ?_
  refine Wo.nil ?_
  refine hn1 _ ?_
  refine Wc.seq fun K2 hn2 hx2 => ?_
  refine Wc.rg ?_
  refine Wo.val rfl (by simp only [MS, Nat.reduceBEq, Nat.reduceBNe, Nat.reduceEqDiff, reduceIte, if_true, if_false, reduceCtorEq, Nat.reduceAdd, Nat.reduceMul, Nat.reduceLeDiff, Nat.reduceLT, Nat.reduceDiv, Nat.reduceSub, partV, TS T, hldx, hbs] <;> rfl) rfl ?_
  refine Wo.val rfl (by simp only [MS, Nat.reduceBEq, Nat.reduceBNe, Nat.reduceEqDiff, reduceIte, if_true, if_false, reduceCtorEq, Nat.reduceAdd, Nat.reduceMul, Nat.reduceLeDiff, Nat.reduceLT, Nat.reduceDiv, Nat.reduceSub, partsA, cval, cv, TS T, hldx, hbs] <;> rfl) rfl ?_
  refine Wo.cl rfl rfl rfl (by first | rfl | (simp only [MS, Nat.reduceBEq, Nat.reduceBNe, Nat.reduceEqDiff, reduceIte, if_true, if_false, reduceCtorEq, Nat.reduceAdd, Nat.reduceMul, Nat.reduceLeDiff, Nat.reduceLT, Nat.reduceDiv, Nat.reduceSub, cval, cv, TS T, hldx, hbs] <;> rfl)) (by first | rfl | (simp only [MS, Nat.reduceBEq, Nat.reduceBNe, Nat.reduceEqDiff, reduceIte, if_true, if_false, reduceCtorEq, Nat.reduceAdd, Nat.reduceMul, Nat.reduceLeDiff, Nat.reduceLT, Nat.reduceDiv, Nat.reduceSub, cval, cv, TS T, hldx, hbs] <;> rfl)) (fun _ => rfl) ?_
  refine ⟨_, h', hcall, ?_⟩
  refine Wo.val rfl (by first | rfl | (simp only [MS, Nat.reduceBEq, Nat.reduceBNe, Nat.reduceEqDiff, reduceIte, if_true, if_false, reduceCtorEq, Nat.reduceAdd, Nat.reduceMul, Nat.reduceLeDiff, Nat.reduceLT, Nat.reduceDiv, Nat.reduceSub, TS T] <;> rfl)) rfl ?_
  refine Wo.cl (by first | rfl | (simp only [wantedA, wantedP, evR, List.contains, List.elem, MS, Nat.reduceBEq, Nat.reduceBNe, Nat.reduceEqDiff, reduceIte, if_true, if_false, reduceCtorEq, Nat.reduceAdd, Nat.reduceMul, Nat.reduceLeDiff, Nat.reduceLT, Nat.reduceDiv, Nat.reduceSub] <;> rfl)) rfl rfl (by first | rfl | (simp only [MS, Nat.reduceBEq, Nat.reduceBNe, Nat.reduceEqDiff, reduceIte, if_true, if_false, reduceCtorEq, Nat.reduceAdd, Nat.reduceMul, Nat.reduceLeDiff, Nat.reduceLT, Nat.reduceDiv, Nat.reduceSub, cval, cv, TS T] <;> rfl)) (by first | rfl | (simp only [MS, Nat.reduceBEq, Nat.reduceBNe, Nat.reduceEqDiff, reduceIte, if_true, if_false, reduceCtorEq, Nat.reduceAdd, Nat.reduceMul, Nat.reduceLeDiff, Nat.reduceLT, Nat.reduceDiv, Nat.reduceSub, cval, cv, TS T] <;> rfl)) (fun _ => rfl) ?_
  refine ⟨_, h', h23 h', ?_⟩
  refine Wo.val rfl (by first | rfl | (simp only [MS, Nat.reduceBEq, Nat.reduceBNe, Nat.reduceEqDiff, reduceIte, if_true, if_false, reduceCtorEq, Nat.reduceAdd, Nat.reduceMul, Nat.reduceLeDiff, Nat.reduceLT, Nat.reduceDiv, Nat.reduceSub, cval, cv, TS T] <;> rfl)) rfl ?_
  refine Wo.val rfl (by first | rfl | (simp only [MS, Nat.reduceBEq, Nat.reduceBNe, Nat.reduceEqDiff, reduceIte, if_true, if_false, reduceCtorEq, Nat.reduceAdd, Nat.reduceMul, Nat.reduceLeDiff, Nat.reduceLT, Nat.reduceDiv, Nat.reduceSub, cval, cv, TS T] <;> rfl)) rfl ?_
  refine Wo.nil ?_
  exact hn2 _ (Wc.ret (hr0 _ _ [.b true] rfl rfl))
noncomputable def S.ct2 (f : Nat) : Option (List V → Hp → Option (En × Hp)) := if f = 24 then some ctTrue else S.ct f
theorem S.ct2Ok : CtOk Tryz.prog S.ct2 := by
  intro B g k hk args h r M w argsr hr H hA
  unfold S.ct2 at hk
  split at hk
  · rename_i e; subst e; cases hk
    exact .inl (ctTrue_ok (fun w => S.alive44 w) hr H hA)
  · exact S.ctOk B g k hk hr H hA
def S.lf : Nat := 200000000000000000000
noncomputable def S.D (d : Nat) : Caller := callD S.tb S.fc S.ct2 S.lf d
theorem S.hlf : 2000000000000 ≤ S.lf := by decide
theorem S.Ds {g : Nat} {fn : Func} (hf : Tryz.prog.funcs[g]? = some fn) (h1 : g ≠ 24) (h2 : g ≠ 104) (h3 : g ≠ 168) (d : Nat) (args : List V) (h : Hp) : S.D (d + 1) (.fn g) args h = runF S.tb S.fc (S.D d) S.lf fn args h := by
  have hfc : S.fc g = some fn := hf
  have hct : S.ct2 g = none := by simp [S.ct2, S.ct, h1, h2, h3]
  simp only [S.D, callD, hct, hfc]
theorem S.see32 (d : Nat) : SeeOk 3 9 (S.D (d + 1)) 32 [.int .i64] := S.f32_ok S.ty (S.Ds Tryz.func32 (by decide) (by decide) (by decide) d)
theorem S.see31 (d : Nat) : SeeOk 3 9 (S.D (d + 2)) 31 [.int .i64, .int .i64, .int .i64, .int .i64] := S.f31_ok S.ty (S.Ds Tryz.func31 (by decide) (by decide) (by decide) (d + 1)) (S.see32 d)
theorem S.all34_10 (d : Nat) : AllOk 3 9 (S.D (d + 2)) 34 32 [.int .i64] := S.f34_ok S.ty S.hlf (S.Ds Tryz.func34 (by decide) (by decide) (by decide) (d + 1)) rfl (S.see32 d)
theorem S.see10 (d : Nat) : SeeOk 3 9 (S.D (d + 3)) 10 [.sl [.int .i64]] := S.f10_ok S.ty (S.Ds Tryz.func10 (by decide) (by decide) (by decide) (d + 2)) (S.all34_10 d)
theorem S.see36 (d : Nat) : SeeOk 3 9 (S.D (d + 2)) 36 [.int .i64, .int .i64] := S.f36_ok S.ty S.hlf (S.Ds Tryz.func36 (by decide) (by decide) (by decide) (d + 1)) (S.see32 d)
theorem S.all35_14 (d : Nat) : AllOk 3 9 (S.D (d + 3)) 35 36 [.int .i64, .int .i64] := S.f35_ok S.ty S.hlf (S.Ds Tryz.func35 (by decide) (by decide) (by decide) (d + 2)) rfl (S.see36 d)
theorem S.see14 (d : Nat) : SeeOk 3 9 (S.D (d + 4)) 14 [.sl [.int .i64, .int .i64]] := S.f14_ok S.ty (S.Ds Tryz.func14 (by decide) (by decide) (by decide) (d + 3)) (S.all35_14 d)
theorem S.see6 (d : Nat) : SeeOk 3 9 (S.D (d + 5)) 6 [.int .i64, .int .i64, .int .i64, .int .i64, .int .i64, .int .i64, .int .i64, .int .i64, .sl [.int .i64], .sl [.int .i64], .sl [.int .i64, .int .i64]] := S.f6_ok S.ty (S.Ds Tryz.func6 (by decide) (by decide) (by decide) (d + 4)) (S.see10 (d + 1)) (S.see14 d) (S.see31 (d + 2)) (S.see32 (d + 3))
theorem S.see9 (d : Nat) : SeeOk 3 9 (S.D (d + 4)) 9 [.sl [.int .i64]] := S.f9_ok (S.Ds Tryz.func9 (by decide) (by decide) (by decide) (d + 3)) (S.see10 d)
theorem S.see13 (d : Nat) : SeeOk 3 9 (S.D (d + 5)) 13 [.sl [.int .i64, .int .i64]] := S.f13_ok (S.Ds Tryz.func13 (by decide) (by decide) (by decide) (d + 4)) (S.see14 d)
theorem S.see17 (d : Nat) : SeeOk 3 9 (S.D (d + 5)) 17 [.sl [.int .i64, .int .i64]] := S.f17_ok (S.Ds Tryz.func17 (by decide) (by decide) (by decide) (d + 4)) (S.see14 d)
theorem S.see22 (d : Nat) : SeeOk 3 9 (S.D (d + 4)) 22 [.sl [.int .i64]] := S.f22_ok (S.Ds Tryz.func22 (by decide) (by decide) (by decide) (d + 3)) (S.see10 d)
theorem S.see23 (d : Nat) : SeeOk 3 9 (S.D (d + 4)) 23 [.sl [.int .i64]] := S.f23_ok (S.Ds Tryz.func23 (by decide) (by decide) (by decide) (d + 3)) (S.see10 d)
theorem S.tab (d : Nat) (g : Nat) (ls : List Lf) (h : S.Tab g ls) : SeeOk 3 9 (S.D (d + 5)) g ls := by
  have h2 := look_mem h
  simp only [S.tabL, List.mem_cons, Prod.mk.injEq, List.not_mem_nil, or_false] at h2
  rcases h2 with ⟨rfl, rfl⟩ | ⟨rfl, rfl⟩ | ⟨rfl, rfl⟩ | ⟨rfl, rfl⟩ | ⟨rfl, rfl⟩
  · exact S.see9 (d + 1)
  · exact S.see13 d
  · exact S.see17 d
  · exact S.see22 (d + 1)
  · exact S.see23 (d + 1)
theorem S.dup29 (d : Nat) : DupOk mk1 (S.D (d + 1)) 29 [.sl [.int .i64]] := (S.f29_ok S.ty (S.Ds Tryz.func29 (by decide) (by decide) (by decide) d)).dup (by decide) (by decide)
theorem S.dup30 (d : Nat) : DupOk mk1 (S.D (d + 1)) 30 [.sl [.int .i64, .int .i64]] := (S.f30_ok S.ty (S.Ds Tryz.func30 (by decide) (by decide) (by decide) d)).dup (by decide) (by decide)
theorem S.dup5 (d : Nat) : DupOk .agg (S.D (d + 2)) 5 [.int .i64, .int .i64, .int .i64, .int .i64, .int .i64, .int .i64, .int .i64, .int .i64, .sl [.int .i64], .sl [.int .i64], .sl [.int .i64, .int .i64]] := S.f5_ok S.ty (S.Ds Tryz.func5 (by decide) (by decide) (by decide) (d + 1)) (S.dup29 d) (S.dup30 d)
theorem S.own (d : Nat) : OwnOk (S.D (d + 2)) 5 S.ls := (S.dup5 d).own
theorem S.hct (g : Nat) (h : S.nc g = true) : S.ct2 g = none := by
  simp only [S.nc, Bool.not_eq_true', Bool.or_eq_false_iff] at h
  have e : ∀ a, Nat.beq g a = false → g ≠ a := fun a ha he => by subst he; simp at ha
  simp [S.ct2, S.ct, e _ h.1.1, e _ h.1.2, e _ h.2]
theorem S.call7 : CallsOk S.Tab (S.D 12) 7 S.ls := Az.callsOk (C := Az.cfgC S.tb S.fc S.nc) (Az.cfgC_ok _ _ _) (ct := S.ct2) S.hct (lf := S.lf) (by decide) S.htab S.run7
theorem S.call11 : CallsOk S.Tab (S.D 12) 11 S.ls := Az.callsOk (C := Az.cfgC S.tb S.fc S.nc) (Az.cfgC_ok _ _ _) (ct := S.ct2) S.hct (lf := S.lf) (by decide) S.htab S.run11
theorem S.call15 : CallsOk S.Tab (S.D 12) 15 S.ls := Az.callsOk (C := Az.cfgC S.tb S.fc S.nc) (Az.cfgC_ok _ _ _) (ct := S.ct2) S.hct (lf := S.lf) (by decide) S.htab S.run15
theorem S.call18 : CallsOk S.Tab (S.D 12) 18 S.ls := Az.callsOk (C := Az.cfgC S.tb S.fc S.nc) (Az.cfgC_ok _ _ _) (ct := S.ct2) S.hct (lf := S.lf) (by decide) S.htab S.run18
theorem S.call20 : CallsOk S.Tab (S.D 12) 20 S.ls := Az.callsOk (C := Az.cfgC S.tb S.fc S.nc) (Az.cfgC_ok _ _ _) (ct := S.ct2) S.hct (lf := S.lf) (by decide) S.htab S.run20
theorem S.hy : S.Hy (S.D 12) where
  own := S.own 10
  see := S.see6 7
  tab := S.tab 7
  great hE hl := S.fgreat_ok S.ty S.hlf (S.Ds Tryz.func25 (by decide) (by decide) (by decide) 11) hE hl
  look hT hC := S.flook_ok S.ty S.hlf (S.Ds Tryz.func26 (by decide) (by decide) (by decide) 11) hT (S.tab 6) hC
  same hE hD hn hs hl hl2 := S.fsame_ok S.ty S.hlf (S.Ds Tryz.func27 (by decide) (by decide) (by decide) 11) hE hD hn hs hl hl2
  alike e1 e2 hm hs := S.falike_ok S.ty S.hlf (S.Ds Tryz.func28 (by decide) (by decide) (by decide) 11) (fun hE hD hn hs hl hl2 => S.fsame_ok S.ty S.hlf (S.Ds Tryz.func27 (by decide) (by decide) (by decide) 10) hE hD hn hs hl hl2) e1 e2 hm hs
theorem S.law {G : Nat → Option BT} {h : Hp} {xs : List V} (hT : TOk G h) (hG0 : ∀ b t, G b = some t → t.reg = 0 ∧ t.lfs.length ≤ 2000000000)
    (hxl : xs.length = S.ls.length) (hxs : ∀ (j : Nat) l x, S.ls[j]? = some l → xs[j]? = some x → LfOk G 0 false l x) : ∃ h', callD S.tb S.fc S.ct2 S.lf 14 (.it 3) [.agg xs] h = some (.ret (.b true), h') := by
  have hfc : S.fc 3 = some Tryz.f3 := Tryz.func3
  have e : callD S.tb S.fc S.ct2 S.lf 14 (.it 3) [.agg xs] h = runF S.tb S.fc (S.D 13) S.lf Tryz.f3 [.agg xs] h := by simp only [callD, hfc, S.D]
  rw [e]
  refine S.f3_ok S.ty hT hG0 hxl hxs (fun hT hG0 hxs hcb hcl gcb => ?_) (fun h => ?_)
  · refine S.fapart_ok S.ty S.bd S.hlf (S.Ds Tryz.func4 (by decide) (by decide) (by decide) 12) S.hy (gs := [7, 11, 15, 18, 20]) (by decide) (fun i g hg => ?_) hT hG0 hxl hxs hcb hcl gcb
    match i with
    | 0 => cases hg; exact S.call7
    | 1 => cases hg; exact S.call11
    | 2 => cases hg; exact S.call15
    | 3 => cases hg; exact S.call18
    | 4 => cases hg; exact S.call20
    | i + 5 => simp at hg
  · simp [S.D, callD, S.ct2, ctTrue]
end Go.Mx

namespace Go.Mx
open Go.Proofs
set_option maxRecDepth 100000
set_option maxHeartbeats 4000000
theorem S.runs {h : Hp} {xs : List V} {G : Nat → Option BT} (hT : TOk G h) (hG0 : ∀ b t, G b = some t → t.reg = 0 ∧ t.lfs.length ≤ 2000000000) (hxl : xs.length = S.ls.length) (hxs : ∀ (j : Nat) l x, S.ls[j]? = some l → xs[j]? = some x → LfOk G 0 false l x)
    {w : World} {M : Mod} {args : Array Value} (H : HRel M ⟨w, fun _ => False⟩ h w) (hA : VRels M [.agg xs] args.toList) : Calls Tryz.prog 3 args w fun e w' => e = .returned (.bool true) ∧ RowKit.Below w.heap.size w w' := by
  obtain ⟨h', hr⟩ := S.law hT hG0 hxl hxs
  obtain ⟨_, h2⟩ := (callD_ok S.mixed S.tbOk S.fcOk S.ct2Ok 14).it hr H hA
  refine (callsIn_wide.1 h2).mono ?_
  rintro e w' ⟨M', hle, H', y, rfl, hv⟩
  simp only [VRel] at hv; subst hv
  exact ⟨rfl, H'.os, H'.tape, H'.output, H'.size, fun k hk => H'.old k hk (fun h => h)⟩
theorem S.walk {n0 : Int} {n1 : Int} {n2 : Int} {n3 : Int} {n4 : Int} {n5 : Int} {n6 : Int} {n7 : Int} {sv8 : Value} {sv9 : Value} {sv10 : Value} {w : World} (w0 : (Lit.int .i64 n0).wf = true) (w1 : (Lit.int .i64 n1).wf = true) (w2 : (Lit.int .i64 n2).wf = true) (w3 : (Lit.int .i64 n3).wf = true) (w4 : (Lit.int .i64 n4).wf = true) (w5 : (Lit.int .i64 n5).wf = true) (w6 : (Lit.int .i64 n6).wf = true) (w7 : (Lit.int .i64 n7).wf = true)
    (hs8 : IsRows w [.int .i64] sv8) (hs9 : IsRows w [.int .i64] sv9) (hs10 : IsRows w [.int .i64, .int .i64] sv10) :
    Calls Tryz.prog 3 #[.agg #[.int .i64 n0, .int .i64 n1, .int .i64 n2, .int .i64 n3, .int .i64 n4, .int .i64 n5, .int .i64 n6, .int .i64 n7, sv8, sv9, sv10]] w fun e w' => e = .returned (.bool true) ∧ RowKit.Below w.heap.size w w' := by
  have I0 := Imp.start w
  obtain ⟨M1, h1, G1, x8, I1, le1, gg1, r8, l8⟩ := I0.rows (by decide) (by decide) hs8
  obtain ⟨M2, h2, G2, x9, I2, le2, gg2, r9, l9⟩ := I1.rows (by decide) (by decide) hs9
  obtain ⟨M3, h3, G3, x10, I3, le3, gg3, r10, l10⟩ := I2.rows (by decide) (by decide) hs10
  replace r8 := r8.mono le2
  replace l8 := l8.gext gg2
  replace r8 := r8.mono le3
  replace l8 := l8.gext gg3
  replace r9 := r9.mono le3
  replace l9 := l9.gext gg3
  refine S.runs (xs := [V.i .i64 n0, V.i .i64 n1, V.i .i64 n2, V.i .i64 n3, V.i .i64 n4, V.i .i64 n5, V.i .i64 n6, V.i .i64 n7, x8, x9, x10]) I3.ok I3.low rfl (fun j l y hl hy => ?_) I3.rel ?_
  · match j with
    | 0 => cases hl; cases hy; exact ⟨_, rfl, wrap_wf w0⟩
    | 1 => cases hl; cases hy; exact ⟨_, rfl, wrap_wf w1⟩
    | 2 => cases hl; cases hy; exact ⟨_, rfl, wrap_wf w2⟩
    | 3 => cases hl; cases hy; exact ⟨_, rfl, wrap_wf w3⟩
    | 4 => cases hl; cases hy; exact ⟨_, rfl, wrap_wf w4⟩
    | 5 => cases hl; cases hy; exact ⟨_, rfl, wrap_wf w5⟩
    | 6 => cases hl; cases hy; exact ⟨_, rfl, wrap_wf w6⟩
    | 7 => cases hl; cases hy; exact ⟨_, rfl, wrap_wf w7⟩
    | 8 => cases hl; cases hy; exact l8
    | 9 => cases hl; cases hy; exact l9
    | 10 => cases hl; cases hy; exact l10
    | j + 11 => simp [S.ls] at hl
  · refine ⟨?_, trivial⟩
    simp only [VRel]
    exact ⟨_, rfl, by simp only [VRel], by simp only [VRel], by simp only [VRel], by simp only [VRel], by simp only [VRel], by simp only [VRel], by simp only [VRel], by simp only [VRel], r8, r9, r10, trivial⟩
end Go.Mx
