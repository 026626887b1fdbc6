/- The law and its card: for all arguments of bulk at most 1048576 the law returns true, and its arguments read behind it as before. -/
import Derived.Test.YtedekdoelkdniaaGreatDoorCards
import Derived.Test.YtedekdoelkdniaaGreatDoorTie
import Derived.WalkKit
import Derived.ProofKit
import Derived.OpenShut
import Derived.Deep.DeepHandedRow
import Derived.Lib.LaidTab
import Derived.Test.YtedekdoelkdniaaGreatDoorKq
set_option linter.all false
namespace Go.Proofs.YtedekdoelkdniaaGreatDoor
open Go.ChangeShapes Go.WideShapes Go.ChangeAt Go.RowKit
theorem own : ownKnob Tryz.prog.godebug = none := by kernel_rfl
theorem laidOut : laidOutB Tryz.prog = true := by kernel_rfl
theorem cells3 : Tryz.prog.cellsOf 3 = 1 := by kernel_rfl
theorem cells23 : Tryz.prog.cellsOf 23 = 4 := by kernel_rfl
theorem cells24 : Tryz.prog.cellsOf 24 = 1 := by kernel_rfl
theorem cells25 : Tryz.prog.cellsOf 25 = 1 := by kernel_rfl
theorem cells27 : Tryz.prog.cellsOf 27 = 11 := by kernel_rfl
theorem cells61 : Tryz.prog.cellsOf 61 = 2 := by kernel_rfl
theorem kinds27 : Tryz.prog.cellTypes Tryz.prog.depth 27 = some [3, 3, 3, 3, 3, 3, 3, 3, 24, 24, 25] := by kernel_rfl
theorem read27 : Tryz.prog.readableRec 27 = true := by kernel_rfl
theorem row27 : 27 < Tryz.prog.types.size := of_decide_eq_true (by kernel_rfl)
theorem post_of_below {H : Type} {enc : TypeId × Value → H} {P : Program} {f : Func} {s : ChangeSpec} {apart fresh handsOn again : Bool} {W W' : World} {args : Array Value} {v : Value} {ds gs : List (DataW H)} {before pa pv : List MemPlace}
    (hW : DataW.Whole enc P f.params.toList s.vars apart W args.toList ds gs before)
    (hres : ∀ (b : Nat) (sp : Nat → Bool) (hd : Bool), DataW.TrodAll enc P W' b sp hd f.resultTypes.toList (v.resultList f.resultTypes.size) (s.fn H (ds ++ gs)).results [])
    (hargs : ∀ sp : Nat → Bool, (∀ p ∈ before, sp p.block = true) → DataW.TrodAll enc P W' 0 sp true f.params.toList args.toList (s.fn H (ds ++ gs)).args pa)
    (hvars : ∀ sp : Nat → Bool, (∀ p ∈ before, sp p.block = true) → DataW.TrodVars enc P W' sp s.vars (s.fn H (ds ++ gs)).vars pv)
    (hps : before = pa ++ pv) (hb : Below W.heap.size W W')
    (hok : ∀ (j : Nat) (t : TypeId) (r : Value), f.resultTypes[j]? = some t → (v.resultList f.resultTypes.size)[j]? = some r → Value.okWide P W' .any 0 t r) :
    s.post enc P f apart fresh handsOn again W args v W' := by
  have hlt : ∀ p ∈ before, p.block < W.heap.size := fun p hp => hW.lt p hp
  have hold : ∀ p ∈ before, (fun b => decide (b < W.heap.size)) p.block = true := fun p hp => by simpa using hlt p hp
  refine ⟨ds, gs, before, [], pa, pv, hW, hres _ _ _, hargs _ hold, hvars _ hold, World.keptBut_mono (fun p hp => ⟨hp, ?_⟩) (hb.frame (· ∈ before)), fun _ => ?_⟩
  · rw [hps, List.mem_append] at hp
    exact Or.inr hp
  · obtain ⟨_, _, _, _, _, hz, hn⟩ := hW
    refine ⟨hok, _, _, ([] ++ pa) ++ pv, ⟨[] ++ pa, pv, trodAll_append (hargs _ (fun _ _ => rfl)) (hres _ _ _), hvars _ (fun _ _ => rfl), rfl, ?_, ?_⟩, ?_⟩
    · intro b off hp
      have hin : MemPlace.cell b off ∈ before := by rw [hps]; simpa using hp
      rw [hb.frozen (hlt _ hin)]
      exact hz b off hin
    · intro ha
      have := hn ha
      rw [hps] at this
      simpa using this
    · intro p hp _
      rw [hps]
      simpa using hp
theorem flat61 : Go.Mx.FlatTy Tryz.prog 61 [Go.Mx.Lf.int IntKind.i64, Go.Mx.Lf.int IntKind.i64] := by
  refine .array Tryz.underlying61 cells61 (Go.Mx.FlatTy.int Tryz.underlying3 cells3) (fun j hj => ?_)
  match j with
  | 0 => exact ⟨0, by decide, by decide, by decide, rfl⟩
  | 1 => exact ⟨1, by decide, by decide, by decide, rfl⟩
  | j + 2 => simp at hj; omega
theorem bulk_pos {H : Type} (d : DataW H) : 1 ≤ Rows.uptoBulk d := by
  cases d with
  | lit l => cases l <;> simp [Rows.uptoBulk]
  | _ => simp [Rows.uptoBulk]
theorem bulk_len {H : Type} : ∀ l : List (DataW H), l.length ≤ Rows.uptoBulkAll l
  | [] => by simp [Rows.uptoBulkAll]
  | d :: r => by have := bulk_len r; have := bulk_pos d; simp only [Rows.uptoBulkAll, List.length_cons]; omega
theorem bulk_slice {H : Type} {d : DataW H} (h : Rows.uptoBulk d ≤ 1048576) (a b : List (DataW H)) (e : d = .slice a b) : a.length + b.length ≤ 1048576 := by
  subst e
  have := bulk_len a; have := bulk_len b
  simp only [Rows.uptoBulk] at h; omega
set_option maxRecDepth 100000 in
set_option maxHeartbeats 4000000 in
theorem contract (H : Type) (enc : TypeId × Value → H) (W : World) (base : Nat) (args : Array Value) (ds gs : List (DataW H)) (before : List MemPlace)
    (hval : ∀ (j : Nat) t v, Tryz.f3.params[j]? = some t → args[j]? = some v → Value.okWide Tryz.prog W .any base t v)
    (hW : DataW.Whole enc Tryz.prog Tryz.f3.params.toList Rows.topSharedSeamSpec.vars false W args.toList ds gs before) (hk : Rows.uptoSmall H (ds ++ gs) = true) :
    Calls Tryz.prog 3 args W fun e W' => ∃ v, e = .returned v ∧ Rows.topSharedSeamSpec.post enc Tryz.prog Tryz.f3 false true false false W args v W' := by
  have hW' := hW
  obtain ⟨p, q, hA0, hV, rfl, hfz, hnd⟩ := hW
  have hA : DataW.TrodAll enc Tryz.prog W 0 (fun _ => true) true Tryz.f3.params.toList args.toList ds p := hA0
  rw [Tryz.params3] at hA hval
  obtain ⟨v0, vs0, d0, ds0, p0, q0, hargs, rfl, rfl, h0, r0⟩ := trodAll_cons hA
  obtain ⟨rfl, rfl, rfl⟩ := trodAll_nil r0
  obtain rfl : args = #[v0] := by cases args; simp_all
  obtain ⟨rfl, rfl⟩ := trodVars_none hV
  have h0k := h0
  have hok := hval 0 27 v0 rfl rfl
  obtain ⟨cs, rfl, hcs, ts, hts, _, hcell⟩ : ∃ cs, v0 = .agg cs ∧ cs.size = 11 ∧ Row.okWide Tryz.prog W .any base 27 cs := by
    simpa [Value.okWide, Tryz.underlying27, cells27] using hok
  rw [kinds27] at hts; cases hts
  obtain ⟨fuel, hf⟩ := h0
  obtain ⟨c0, c1, c2, c3, c4, c5, c6, c7, c8, c9, c10, rfl⟩ : ∃ c0 c1 c2 c3 c4 c5 c6 c7 c8 c9 c10, cs = #[c0, c1, c2, c3, c4, c5, c6, c7, c8, c9, c10] := by
    rcases cs with ⟨l⟩
    match l, hcs with
    | [c0, c1, c2, c3, c4, c5, c6, c7, c8, c9, c10], _ => exact ⟨_, _, _, _, _, _, _, _, _, _, _, rfl⟩
  obtain ⟨xsr, nr, enr, hxr, _, hxlr, hfsr⟩ := DataW.trod_struct Tryz.underlying27 hf
  obtain ⟨yr_0, yr_1, yr_2, yr_3, yr_4, yr_5, yr_6, yr_7, rfl⟩ : ∃ yr_0 yr_1 yr_2 yr_3 yr_4 yr_5 yr_6 yr_7, xsr = [yr_0, yr_1, yr_2, yr_3, yr_4, yr_5, yr_6, yr_7] := by
    match xsr, hxlr with
    | [yr_0, yr_1, yr_2, yr_3, yr_4, yr_5, yr_6, yr_7], _ => exact ⟨_, _, _, _, _, _, _, _, rfl⟩
  have fr_0 := hfsr 0 _ rfl
  have fr_1 := hfsr 1 _ rfl
  have fr_2 := hfsr 2 _ rfl
  have fr_3 := hfsr 3 _ rfl
  have fr_4 := hfsr 4 _ rfl
  have fr_5 := hfsr 5 _ rfl
  have fr_6 := hfsr 6 _ rfl
  have fr_7 := hfsr 7 _ rfl
  simp only [cells3, cells23, cells24, cells25, cells27, cells61, Value.cells, List.drop_zero, List.drop_succ_cons, List.take_succ_cons, List.take_zero, List.getElem?_cons_zero, List.getElem?_cons_succ] at fr_0 fr_1 fr_2 fr_3 fr_4 fr_5 fr_6 fr_7
  obtain ⟨xsr_0, nr_0, enr_0, hxr_0, _, hxlr_0, hfsr_0⟩ := DataW.trod_struct Tryz.underlying23 fr_0
  obtain ⟨yr_0_0, yr_0_1, yr_0_2, yr_0_3, rfl⟩ : ∃ yr_0_0 yr_0_1 yr_0_2 yr_0_3, xsr_0 = [yr_0_0, yr_0_1, yr_0_2, yr_0_3] := by
    match xsr_0, hxlr_0 with
    | [yr_0_0, yr_0_1, yr_0_2, yr_0_3], _ => exact ⟨_, _, _, _, rfl⟩
  subst hxr_0
  have fr_0_0 := hfsr_0 0 _ rfl
  have fr_0_1 := hfsr_0 1 _ rfl
  have fr_0_2 := hfsr_0 2 _ rfl
  have fr_0_3 := hfsr_0 3 _ rfl
  simp only [cells3, cells23, cells24, cells25, cells27, cells61, Value.cells, List.drop_zero, List.drop_succ_cons, List.take_succ_cons, List.take_zero, List.getElem?_cons_zero, List.getElem?_cons_succ] at fr_0_0 fr_0_1 fr_0_2 fr_0_3
  have hbk := of_decide_eq_true hk
  have hd := congrArg Prod.fst hxr
  have hpl := congrArg Prod.snd hxr
  dsimp only at hd hpl
  rw [hd] at hbk
  simp only [List.map_cons, List.map_nil, List.append_nil, List.cons_append, List.nil_append, Rows.uptoBulkAll, Rows.uptoBulk] at hbk
  simp only [List.flatMap_cons, List.flatMap_nil, List.append_nil] at hpl
  have hs8 : Go.Mx.IsRows W [.int .i64] c8 := by
    obtain ⟨u, hu, h3⟩ := hcell 8 _ rfl
    obtain rfl : u = 24 := by simpa using hu.symm
    refine Go.Mx.IsRows.of (base2 := base) (fun _ => rfl) Tryz.underlying24 (Go.Mx.FlatTy.int Tryz.underlying3 cells3) (by decide) fr_5 hfz (fun p hp => ?_) ?_ (bulk_slice (by omega))
    · simp only [List.append_nil]; rw [hpl]; simp only [List.mem_append]; simp [hp]
    · simpa using h3
  have hs9 : Go.Mx.IsRows W [.int .i64] c9 := by
    obtain ⟨u, hu, h3⟩ := hcell 9 _ rfl
    obtain rfl : u = 24 := by simpa using hu.symm
    refine Go.Mx.IsRows.of (base2 := base) (fun _ => rfl) Tryz.underlying24 (Go.Mx.FlatTy.int Tryz.underlying3 cells3) (by decide) fr_6 hfz (fun p hp => ?_) ?_ (bulk_slice (by omega))
    · simp only [List.append_nil]; rw [hpl]; simp only [List.mem_append]; simp [hp]
    · simpa using h3
  have hs10 : Go.Mx.IsRows W [.int .i64, .int .i64] c10 := by
    obtain ⟨u, hu, h3⟩ := hcell 10 _ rfl
    obtain rfl : u = 25 := by simpa using hu.symm
    refine Go.Mx.IsRows.of (base2 := base) (fun _ => rfl) Tryz.underlying25 flat61 (by decide) fr_7 hfz (fun p hp => ?_) ?_ (bulk_slice (by omega))
    · simp only [List.append_nil]; rw [hpl]; simp only [List.mem_append]; simp [hp]
    · simpa using h3
  obtain ⟨n0, e0, rfl, w0⟩ := DataW.trod_int Tryz.underlying3 fr_0_0
  obtain ⟨n1, e1, rfl, w1⟩ := DataW.trod_int Tryz.underlying3 fr_0_1
  obtain ⟨n2, e2, rfl, w2⟩ := DataW.trod_int Tryz.underlying3 fr_0_2
  obtain ⟨n3, e3, rfl, w3⟩ := DataW.trod_int Tryz.underlying3 fr_0_3
  obtain ⟨n4, e4, rfl, w4⟩ := DataW.trod_int Tryz.underlying3 fr_1
  obtain ⟨n5, e5, rfl, w5⟩ := DataW.trod_int Tryz.underlying3 fr_2
  obtain ⟨n6, e6, rfl, w6⟩ := DataW.trod_int Tryz.underlying3 fr_3
  obtain ⟨n7, e7, rfl, w7⟩ := DataW.trod_int Tryz.underlying3 fr_4
  obtain rfl : c0 = _ := List.head_eq_of_cons_eq e0
  obtain rfl : c1 = _ := List.head_eq_of_cons_eq e1
  obtain rfl : c2 = _ := List.head_eq_of_cons_eq e2
  obtain rfl : c3 = _ := List.head_eq_of_cons_eq e3
  obtain rfl : c4 = _ := List.head_eq_of_cons_eq e4
  obtain rfl : c5 = _ := List.head_eq_of_cons_eq e5
  obtain rfl : c6 = _ := List.head_eq_of_cons_eq e6
  obtain rfl : c7 = _ := List.head_eq_of_cons_eq e7
  have walk : Calls Tryz.prog 3 #[.agg #[.int .i64 n0, .int .i64 n1, .int .i64 n2, .int .i64 n3, .int .i64 n4, .int .i64 n5, .int .i64 n6, .int .i64 n7, c8, c9, c10]] W fun e w' => e = .returned (.bool true) ∧ Below W.heap.size W w' :=
    Go.Mx.S.walk w0 w1 w2 w3 w4 w5 w6 w7 hs8 hs9 hs10
  clear hA0
  simp only [List.append_nil] at hW'
  refine walk.mono fun e W' ⟨he, hb⟩ => ?_
  subst he
  refine ⟨_, rfl, post_of_below (pa := p0) (pv := []) hW' (fun _ _ _ => trodAll_cons_mk (shut_bool Tryz.underlying4 _) trodAll_mk0) (fun sp hs => ?_) (fun _ _ => rfl) (by simp) hb (ok_one (by kernel_rfl) rfl (okWide_bool_mk Tryz.underlying4 _))⟩
  have := trodAll_cons_mk (WideElems.Trod_stays laidOut read27 row27 h0k (fun p hp => hb.same (hW'.lt p (by simpa using hp))) (fun p hp => hs p (by simpa using hp))) (trodAll_mk0 (held := true) (base := 0) (spare := sp) (enc := enc) (P := Tryz.prog) (w := W'))
  show DataW.TrodAll enc Tryz.prog W' 0 sp true _ _ [d0] p0
  rw [Tryz.params3]
  simpa using this
def lay0 : Obj → Obj
  | .cells _ t frozen => .cells (#[1, 10, 100, 1000, 10000, 100000, 1000000, 10000000, 100000000, 1000000000, 10000000000, 100000000000, 1000000000000, 10000000000000, 100000000000000, 1000000000000000, 10000000000000000, 100000000000000000, 1000000000000000000, 10000000000000000000].map (Value.int .u64)) t frozen
  | o => o
def lay2 : Obj → Obj
  | .cells _ t frozen => .cells (#[0, 1, 28, 2, 29, 14, 24, 3, 30, 22, 20, 15, 25, 17, 4, 8, 31, 27, 13, 23, 21, 19, 16, 7, 26, 12, 18, 6, 11, 5, 10, 9].map (Value.int .u8)) t frozen
  | o => o
def lay3 : Obj → Obj
  | .cells _ t frozen => .cells (#[0, 1, 56, 2, 57, 49, 28, 3, 61, 58, 42, 50, 38, 29, 17, 4, 62, 47, 59, 36, 45, 43, 51, 22, 53, 39, 33, 30, 24, 18, 12, 5, 63, 55, 48, 27, 60, 41, 37, 16, 46, 35, 44, 21, 52, 32, 23, 11, 54, 26, 40, 15, 34, 20, 31, 10, 25, 14, 19, 9, 13, 8, 7, 6].map (Value.int .u8)) t frozen
  | o => o
noncomputable def laidWorld (os : Os) : World :=
  { World.holding Tryz.prog os ⟨#[], #[], []⟩ with heap := (((World.holding Tryz.prog os ⟨#[], #[], []⟩).heap.modify 0 lay0).modify 2 lay2).modify 3 lay3 }
noncomputable def wArgs : Array Value := #[.agg #[.int .i64 0, .int .i64 0, .int .i64 0, .int .i64 0, .int .i64 0, .int .i64 0, .int .i64 0, .int .i64 0, .slice none 0 0, .slice none 0 0, .slice none 0 0]]
def wRead {H : Type} : List (DataW H) := [.agg [.agg [.lit (.int .i64 0), .lit (.int .i64 0), .lit (.int .i64 0), .lit (.int .i64 0)], .lit (.int .i64 0), .lit (.int .i64 0), .lit (.int .i64 0), .lit (.int .i64 0), .nil, .nil, .nil]]
theorem laid_met (os : Os) : laidMet Tryz.prog Rows.topSharedSeamUptoRow.laid ((laidWorld os).forCall (fun _ _ => 0) ⟨#[], wArgs, []⟩).memory :=
  laidMet_of_run' 8 (by kernel_rfl) (by kernel_rfl)
theorem reads (os : Os) {H : Type} (enc : TypeId × Value → H) : ∃ places, DataW.whole enc Tryz.prog ((laidWorld os).forCall (fun _ _ => 0) ⟨#[], wArgs, []⟩).memory Tryz.f3.params.toList Rows.topSharedSeamSpec.vars false wArgs.toList 8 = some (wRead, [], places) :=
  ⟨[], by kernel_rfl⟩
set_option maxRecDepth 100000 in
theorem liftedUpto (os : Os) (started : os.Started) (H : Type) (enc : TypeId × Value → H) (F : Stop.Interp) :
    ReturnsInHanded {} Tryz.checked os 3 .any ((Rows.OpenSpec.upto Rows.topSharedSeamSpec).preRow enc Tryz.prog Tryz.f3 Rows.topSharedSeamUptoRow.domain false Rows.topSharedSeamUptoRow.laid) (((Rows.OpenSpec.upto Rows.topSharedSeamSpec).at F).post enc Tryz.prog Tryz.f3 false true false false) := by
  obtain ⟨places, hx⟩ := reads os enc
  refine returnsInHanded_of_row (C := Tryz.checked) (s := Rows.OpenSpec.upto Rows.topSharedSeamSpec) own started (by kernel_rfl) Tryz.func3
    (witness_row_at (enc := enc) (C := Tryz.checked) false (laidWorld os) wArgs rfl (by kernel_rfl) (by kernel_rfl) (by kernel_rfl)
      (OpenSpec.preRow_of_cond 8 hx (by kernel_rfl) (fun k hk => by cases hk; kernel_rfl) (by kernel_rfl) (laid_met os))) ?_
  intro W base args ds gs before hval hW _ hcond _ hL _ _
  exact contract H enc W base args ds gs before hval hW (hcond _ rfl)
set_option maxRecDepth 100000 in
theorem saidUpto : Rows.TopSharedSeamUptoSaid :=
  OpenClaim.holds_of_cond 3 Tryz.f3 rfl rfl rfl rfl rfl rfl rfl ⟨rfl, rfl, rfl, rfl, rfl⟩ rfl rfl rfl rfl rfl (by kernel_rfl) Tryz.func3 (by kernel_rfl)
    (of_decide_eq_true (by kernel_rfl)) (by unfold Func.isWrapper; first | (rw [if_pos (by decide +kernel)]; kernel_rfl) | (rw [if_neg (by decide +kernel)]; exact ⟨rfl, rfl⟩))
    (fun os started H enc _ F => by rw [OpenClaim.pre_eq_preRow]; exact liftedUpto os started H enc F)
theorem plain (f : FuncId) (fn : Func) (hf : Tryz.pinned.checked.prog.funcNamed "raddle/raddletop.TopSharedSeam" = some f) (hfn : Tryz.pinned.checked.prog.funcs[f]? = some fn) :
    true = Tryz.pinned.checked.prog.looks [] ∧ ∀ (j : Nat) t, fn.params[j]? = some t → Tryz.pinned.checked.prog.wantsStandIn t = false := by
  obtain rfl : f = 3 := Option.some.inj ((show Tryz.prog.funcNamed "raddle/raddletop.TopSharedSeam" = some 3 by kernel_rfl).symm.trans hf) |>.symm
  obtain rfl : fn = Tryz.f3 := (Option.some.inj (Tryz.func3.symm.trans hfn)).symm
  refine ⟨by kernel_rfl, fun j t ht => ?_⟩
  rw [Tryz.params3] at ht
  obtain rfl : t = 27 := by simpa using Array.mem_of_getElem? ht
  exact (show Tryz.prog.wantsStandIn 27 = false by kernel_rfl)
theorem cardUpto : Rows.TopSharedSeamUptoCardSaid :=
  Claim7.holds_tied_plain_at .later [] _ _ _ _ saidUpto (fun _ h => by cases h) (by kernel_rfl) (fun _ h => by cases h) topSharedSeamUpto_row_tie rfl ⟨rfl, rfl⟩ (by kernel_rfl) rfl plain (by kernel_rfl)
end Go.Proofs.YtedekdoelkdniaaGreatDoor
