/- The abstract machine: operations on memory, maps, strings. -/
import Derived.MapKept
import Derived.Laws.RangeAny
import Derived.LoopNIn
import Derived.Scope
import Derived.Lib.UnsafeStr
import Derived.Test.YtedekdoelkdniaaGreatDoorKc
set_option linter.all false
namespace Go.Mx
def csrcA (h : Hp) (z n : Nat) (x : V) : Option (Nat × List V) :=
  match x with
  | .nils => some (0, [])
  | .se _ _ => some (0, [])
  | .sl b o m _ z' => if m = 0 then some (0, []) else if z' = z then (match h.get b with
    | some (.blk _ cells _) => if o + m * z ≤ cells.length then some (min m n, (cells.drop o).take (min m n * z)) else none
    | _ => none) else none
  | .s l => if z = 1 then some (min l.length n, (l.take (min l.length n)).map fun c => .i .u8 c.toNat) else none
  | _ => none
def copyA (tb : Nat → Option TI) (h : Hp) (dT : Nat) (d x : V) : Option (V × Hp) :=
  match tb dT with
  | none => none
  | some di => match di.d with
    | .slice e => (match tb e with
      | none => none
      | some te => (match d with
        | .nils => (match csrcA h te.size 0 x with
          | some _ => some (.i .i64 0, h)
          | none => none)
        | .se _ _ => (match csrcA h te.size 0 x with
          | some _ => some (.i .i64 0, h)
          | none => none)
        | .sl b o n _ z => if z = te.size then (match csrcA h te.size n x with
          | none => none
          | some (k, xs) => (match h.get b with
            | some (.blk ty cells true) => if o + k * z ≤ cells.length ∧ xs.all V.one = true then some (.i .i64 k, h.set b (.blk ty (setAll cells o xs) true)) else none
            | _ => if k = 0 then some (.i .i64 0, h) else none)) else none
        | _ => none))
    | _ => none
theorem run_csrcA {P : Program} {M : Mod} {B : Base} {h : Hp} {w : World} (H : HRel M B h w) {z n k : Nat} {x : V} {xs : List V} {X : Value} (hs : csrcA h z n x = some (k, xs)) (hx : VRel M x X) :
    ∃ (m : Nat) (new : Array Value), (Builtin.lenOf X).run P w = .ok m w ∧ Nat.min m n = k ∧ (Builtin.firstCells z k X).run P w = .ok new w ∧ VRels M xs new.toList ∧ xs.length = k * z := by
  unfold csrcA at hs
  split at hs
  · cases hs
    simp only [VRel] at hx; subst hx
    exact ⟨0, #[], by simp [Builtin.lenOf], by simp, by simp [Builtin.firstCells], by simp [VRels], by simp⟩
  · cases hs
    simp only [VRel] at hx
    obtain ⟨_, o, c, rfl, _⟩ := hx
    exact ⟨0, #[], by simp [Builtin.lenOf], by simp, by simp [Builtin.firstCells, loadCells, loadCellsFrom], by simp [VRels], by simp⟩
  · rename_i b o m cap z'
    by_cases hm0 : m = 0
    · rw [if_pos hm0] at hs
      cases hs
      subst hm0
      simp only [VRel] at hx
      obtain ⟨_, c, rfl, _⟩ := hx
      exact ⟨0, #[], by simp [Builtin.lenOf], by simp, by simp [Builtin.firstCells, loadCells, loadCellsFrom], by simp [VRels], by simp⟩
    rw [if_neg hm0] at hs
    split at hs <;> first | (cases hs; done) | skip
    rename_i hz; subst hz
    split at hs <;> first | (cases hs; done) | skip
    rename_i ty cells rw_ hg
    split at hs <;> first | (cases hs; done) | skip
    rename_i hle
    cases hs
    simp only [VRel] at hx
    obtain ⟨hb, c, rfl, _⟩ := hx
    obtain ⟨cs, fr, a1, a2, a3, a4, a5, a6, a7, a8⟩ := H.blk b _ hg hb
    have hmz : min m n * z' ≤ m * z' := Nat.mul_le_mul_right _ (Nat.min_le_left _ _)
    have hr := ((VRels.of_block a5 (by omega)).drop o).take (min m n * z')
    have e2 : List.take (min m n * z') (List.drop o (List.take cells.length (List.drop (M.bas b) cs.toList))) = List.take (min m n * z') (List.drop (M.bas b + o) cs.toList) := by
      rw [List.drop_take, List.drop_drop, List.take_take]
      congr 1; omega
    rw [e2] at hr
    refine ⟨m, ((cs.toList.drop (M.bas b + o)).take (min m n * z')).toArray, by simp [Builtin.lenOf], rfl, ?_, by simpa using hr, by simp; omega⟩
    have := run_loadCells_block (P := P) (w := w) a1 (M.bas b + o) (min m n * z') (by omega)
    simp only [Builtin.firstCells, this]
  · rename_i l
    split at hs <;> first | (cases hs; done) | skip
    rename_i h1; subst h1
    cases hs
    simp only [VRel] at hx; subst hx
    have e1 : (ByteArray.mk l.toArray).size = l.length := by simp [ByteArray.size]
    have e2 : (ByteArray.mk l.toArray).extract 0 (min l.length n) = ⟨(l.take (min l.length n)).toArray⟩ := by rw [bytes_extract]; simp
    refine ⟨l.length, ((l.take (min l.length n)).map fun c => Value.int .u8 c.toNat).toArray, by simp [Builtin.lenOf, e1], rfl, ?_, ?_, by simp⟩
    · simp only [Builtin.firstCells, e2]; simp
    · refine VRels.of_get (by simp) fun j x y hx hy => ?_
      simp only [List.getElem?_map, Option.map_eq_some_iff] at hx hy
      obtain ⟨c, hc, rfl⟩ := hx
      obtain ⟨c', hc', rfl⟩ := hy
      rw [hc] at hc'; cases hc'
      simp [VRel]
  · cases hs
theorem run_copyA {P : Program} {tb : Nat → Option TI} (hT : TbOk P tb) {M : Mod} {B : Base} {h h' : Hp} {w : World} (H : HRel M B h w) {dT sT ty : Nat} {X D : Value} {d x v : V} (hdr : VRel M d D) (hxr : VRel M x X) (hc : copyA tb h dT d x = some (v, h')) :
    ∃ w' z, (Builtin.copy_ #[dT, sT] ty #[D, X]).run P w = .ok z w' ∧ HRel M B h' w' ∧ VRel M v z := by
  unfold copyA at hc
  split at hc
  · cases hc
  rename_i di hd
  have us := (hT.is hd).runUnd w
  split at hc <;> first | (cases hc; done) | skip
  rename_i e hde
  rw [hde] at us
  split at hc
  · cases hc
  rename_i te he
  have hsz := (hT.is he).size w
  split at hc
  · split at hc <;> first | (cases hc; done) | skip
    rename_i r hs
    obtain ⟨k, xs⟩ := r
    cases hc
    simp only [VRel] at hdr; subst hdr
    obtain ⟨m, new, r1, r2, r3, r4, r5⟩ := run_csrcA (P := P) H hs hxr
    obtain rfl : k = 0 := by rw [← r2]; simp
    exact ⟨w, goInt 0, by simp [Builtin.copy_, us, r1, hsz, r3], H, by simp [VRel, goInt]⟩
  · split at hc <;> first | (cases hc; done) | skip
    rename_i r hs
    obtain ⟨k, xs⟩ := r
    cases hc
    simp only [VRel] at hdr
    obtain ⟨_, o, c, rfl, _⟩ := hdr
    obtain ⟨m, new, r1, r2, r3, r4, r5⟩ := run_csrcA (P := P) H hs hxr
    obtain rfl : k = 0 := by rw [← r2]; simp
    have hn : new = #[] := by
      have a1 := r4.length
      rw [r5] at a1
      exact Array.eq_empty_of_size_eq_zero (by simpa using a1.symm)
    subst hn
    exact ⟨w, goInt 0, by simp [Builtin.copy_, us, r1, hsz, r3, storeCells], H, by simp [VRel, goInt]⟩
  · rename_i b o n cap z
    split at hc <;> first | (cases hc; done) | skip
    rename_i hz; subst hz
    split at hc
    · cases hc
    rename_i k xs hs
    obtain ⟨m, new, r1, r2, r3, r4, r5⟩ := run_csrcA (P := P) H hs hxr
    simp only [VRel] at hdr
    obtain ⟨hb, c, rfl, _⟩ := hdr
    have r2' : m.min n = k := r2
    split at hc
    · rename_i bty cells hg
      split at hc <;> first | (cases hc; done) | skip
      rename_i hcc
      cases hc
      obtain ⟨w', r, H'⟩ := H.setAll (P := P) hb (j := o) hg (by omega) r4 hcc.2
      refine ⟨w', goInt k, ?_, H', by simp [VRel, goInt]⟩
      simp only [Builtin.copy_, List.getElem?_toArray, List.getElem?_cons_zero, List.getElem?_cons_succ, Sem.run_bind, us, Result.andThen_ok, Sem.run_pure, r1, hsz, r2', r3, r]
    · split at hc <;> first | (cases hc; done) | skip
      rename_i hk; subst hk
      cases hc
      have hn : new = #[] := by
        have a1 := r4.length
        rw [r5] at a1
        exact Array.eq_empty_of_size_eq_zero (by simpa using a1.symm)
      subst hn
      refine ⟨w, goInt 0, ?_, H, by simp [VRel, goInt]⟩
      simp only [Builtin.copy_, List.getElem?_toArray, List.getElem?_cons_zero, List.getElem?_cons_succ, Sem.run_bind, us, Result.andThen_ok, Sem.run_pure, r1, hsz, r2', r3]
      simp [storeCells]
  · cases hc
def arrSliceA (tb : Nat → Option TI) (h : Hp) (t : Nat) (x : V) (lo hi mx : Option Int) : Option V :=
  match tb t, x with
  | some ti, .p b o => (match ti.d with
    | .array n e => (match tb e, h.get b with
      | some te, some (.blk _ cells _) => if o + n * te.size ≤ cells.length then (match bnds n n lo hi mx with
        | some (l, hh, m) => if m = l then some (.sl b o 0 (some 0) te.size) else some (.sl b (o + l * te.size) (hh - l) (some (m - l)) te.size)
        | none => none) else none
      | _, _ => none)
    | _ => none)
  | _, _ => none
theorem run_arrSliceA {P : Program} {tb : Nat → Option TI} (hT : TbOk P tb) {M : Mod} {B : Base} {h : Hp} {w : World} (H : HRel M B h w) {ev : Operand → Option V} {evr : Operand → Value} (hev : ∀ x v, ev x = some v → VRel M v (evr x))
    {t : Nat} {x v : V} {X : Value} {lo hi mx : Option Operand} {l' h' m' : Option Int} (h1 : bnd ev lo = some l') (h2 : bnd ev hi = some h') (h3 : bnd ev mx = some m')
    (hs : arrSliceA tb h t x l' h' m' = some v) (hx : VRel M x X) : ∃ z, (Instr.sliceAt t X (lo.map evr) (hi.map evr) (mx.map evr)).run P w = .ok z w ∧ VRel M v z := by
  unfold arrSliceA at hs
  split at hs <;> first | (cases hs; done) | skip
  rename_i ti b o ht
  have us := (hT.is ht).runUnd w
  split at hs <;> first | (cases hs; done) | skip
  rename_i n e hd
  rw [hd] at us
  split at hs <;> first | (cases hs; done) | skip
  rename_i te ty cells rw_ he hg
  split at hs <;> first | (cases hs; done) | skip
  rename_i hle
  split at hs <;> first | (cases hs; done) | skip
  rename_i l hh m hb
  simp only [VRel] at hx
  obtain ⟨hbn, rfl⟩ := hx
  obtain ⟨cs, fr, a1, a2, a3, a4, a5, a6, a7, a8⟩ := H.blk b _ hg hbn
  have hr := run_bnds (P := P) hev h1 h2 h3 hb false w
  have q := bnds_le (.inl (Nat.le_refl n)) hb
  have hsz := (hT.is he).size w
  refine ⟨.slice (some (if m = l then (⟨M.blk b, M.bas b + o, none⟩ : Addr) else (⟨M.blk b, M.bas b + o, none⟩ : Addr).add (l * te.size))) (hh - l) (m - l), ?_, ?_⟩
  · simp [Instr.sliceAt, us, Instr.sureAddr, hr, hsz]
  · have e1 : (m - l) * te.size + l * te.size = m * te.size := by rw [← Nat.add_mul]; congr 1; omega
    have e2 : m * te.size ≤ n * te.size := Nat.mul_le_mul_right _ q.2.2
    have e3 : (hh - l) * te.size ≤ (m - l) * te.size := Nat.mul_le_mul_right _ (by omega)
    split at hs <;> rename_i hml <;> cases hs
    · have : hh - l = 0 := by omega
      have h0 : m - l = 0 := by omega
      simp only [VRel, hml, if_true, this, Nat.sub_self]
      exact ⟨hbn, 0, rfl, by omega, by omega, by omega, rfl, by omega⟩
    · simp only [VRel, hml, if_false, addr_add]
      exact ⟨hbn, m - l, by rw [Nat.add_assoc], by omega, by omega, by omega, rfl, by omega⟩
def heapA (tb : Nat → Option TI) (ev : Operand → Option V) (o : Op) (h : Hp) : Option (V × Hp) :=
  match o with
  | .load t x => (match ev x with
    | some p => (match loadA tb h t p with
      | some v => some (v, h)
      | none => none)
    | none => none)
  | .store t x y => (match ev x, ev y with
    | some p, some v => (match storeA tb h t p v with
      | some h' => some (.tup [], h')
      | none => none)
    | _, _ => none)
  | .alloc t => (match tb t with
    | some ti => some (.p h.n 0, h.push (.blk (2 * t) ti.zero true))
    | none => none)
  | .box t x => (match ev x with
    | some v => some (.p h.n 0, h.push (.blk (2 * t) v.cells true))
    | none => none)
  | .build t ps => (match partsA ev ps.toList with
    | some l => (match buildA tb t l with
      | some v => some (v, h)
      | none => none)
    | none => none)
  | .buildSlice t n ps => (match partsA ev ps.toList with
    | some l => buildSliceA tb h t n l
    | none => none)
  | .makeSlice t n c => (match ev n, ev c with
    | some a, some d => makeSliceA tb h t a d
    | _, _ => none)
  | .slice t x lo hi none => (match ev x, bnd ev lo, bnd ev hi with
    | some a, some l, some hh => (match arrSliceA tb h t a l hh none with
      | some v => some (v, h)
      | none => none)
    | _, _, _ => none)
  | .call c => (match c.callee with
    | .builtin .append => (match c.argTypes.toList, c.args.toList with
      | [sT, xT], [s, x] => (match ev s, ev x with
        | some a, some d => appendA tb h sT xT a d
        | _, _ => none)
      | _, _ => none)
    | .builtin .copy => (match c.argTypes.toList, c.args.toList with
      | [dT, _], [s, x] => (match ev s, ev x with
        | some a, some d => copyA tb h dT a d
        | _, _ => none)
      | _, _ => none)
    | _ => none)
  | _ => none
theorem run_heapA {P : Program} {tb : Nat → Option TI} (hT : TbOk P tb) {M : Mod} {B : Base} {h h' : Hp} {w : World} (H : HRel M B h w) {ev : Operand → Option V} {evr : Operand → Value} (hev : ∀ x v, ev x = some v → VRel M v (evr x))
    {o : Oper} {v : V} (ho : heapA tb ev o.op h = some (v, h')) : ∃ M' w' z, ((execOp evr o).run P w = .ok (.value z) w' ∨ ((execOp evr o).run P w = .ok .skip w' ∧ z = undef)) ∧ M.le M' ∧ HRel M' B h' w' ∧ VRel M' v z := by
  unfold heapA at ho
  unfold execOp
  split at ho <;> (try (rename_i hop; rw [hop]))
  · split at ho <;> first | (cases ho; done) | skip
    rename_i p hx
    split at ho <;> first | (cases ho; done) | skip
    rename_i v hl
    cases ho
    obtain ⟨z, hz, hv⟩ := run_loadA (P := P) hT H hl (hev _ _ hx)
    exact ⟨M, w, z, .inl (by simp [hz]), Mod.le.refl M, H, hv⟩
  · split at ho <;> first | (cases ho; done) | skip
    rename_i p v hx hy
    split at ho <;> first | (cases ho; done) | skip
    rename_i hs
    cases ho
    obtain ⟨w', hr, H'⟩ := run_storeA (P := P) hT H hs (hev _ _ hx) (hev _ _ hy)
    exact ⟨M, w', undef, .inr ⟨by simp [hr], rfl⟩, Mod.le.refl M, H', by simp only [VRel, undef]; exact ⟨#[], rfl, by simp [VRels]⟩⟩
  · rename_i t
    split at ho <;> first | (cases ho; done) | skip
    rename_i ti ht
    cases ho
    obtain ⟨z, hz, hzv⟩ := (hT.is ht).zero
    have hf := H.fresh t (tag := 2 * t) (by omega) (hzv M).cells
    refine ⟨_, _, .pointer (some ⟨w.heap.size, 0, none⟩), .inl ?_, M.le_push H.okM _ _ _ _, hf, ?_⟩
    · simp [Instr.alloc, hz, newVar, newRow]
    · have := M.push_rel w.heap.size 0 ti.zero.length z.cells.size 0
      rw [H.n] at this
      simpa [TI.zero] using this
  · rename_i t x
    split at ho <;> first | (cases ho; done) | skip
    rename_i a hx
    cases ho
    have hf := H.fresh t (tag := 2 * t) (by omega) (hev _ _ hx).cells
    refine ⟨_, _, .pointer (some ⟨w.heap.size, 0, none⟩), .inl ?_, M.le_push H.okM _ _ _ _, hf, ?_⟩
    · simp [Instr.box, newVar, newRow]
    · have := M.push_rel w.heap.size 0 a.cells.length (evr x).cells.size 0
      rw [H.n] at this
      simpa using this
  · rename_i t ps
    split at ho <;> first | (cases ho; done) | skip
    rename_i l hl
    split at ho <;> first | (cases ho; done) | skip
    rename_i v hb
    cases ho
    obtain ⟨p1, p2⟩ := partsA_rel hev hl
    obtain ⟨z, hz, hv⟩ := run_buildA (P := P) hT hb (PS := ps.map fun (i, x) => (i, evr x)) (by simpa using p1) (by simpa using p2) w
    exact ⟨M, w, z, .inl (by simp [hz]), Mod.le.refl M, H, hv⟩
  · rename_i t n ps
    split at ho <;> first | (cases ho; done) | skip
    rename_i l hl
    obtain ⟨p1, p2⟩ := partsA_rel hev hl
    obtain ⟨M', w', z, hz, r⟩ := run_buildSliceA (P := P) hT H ho (PS := ps.map fun (i, x) => (i, evr x)) (by simpa using p1) (by simpa using p2)
    exact ⟨M', w', z, .inl (by simp [hz]), r⟩
  · split at ho <;> first | (cases ho; done) | skip
    rename_i hx hy
    obtain ⟨M', w', z, hz, r⟩ := run_makeSliceA (P := P) hT H ho (hev _ _ hx) (hev _ _ hy)
    exact ⟨M', w', z, .inl (by simp [hz]), r⟩
  · rename_i t x lo hi
    split at ho <;> first | (cases ho; done) | skip
    rename_i hx h1 h2
    split at ho <;> first | (cases ho; done) | skip
    rename_i hs
    cases ho
    obtain ⟨z, hz, hv⟩ := run_arrSliceA (P := P) (mx := none) (m' := none) hT H hev h1 h2 (by simp [bnd]) hs (hev _ _ hx)
    simp only [Option.map_none] at hz
    exact ⟨M, w, z, .inl (by simp [hz]), Mod.le.refl M, H, hv⟩
  · rename_i c
    split at ho <;> first | (cases ho; done) | skip
    · rename_i hc
      split at ho <;> first | (cases ho; done) | skip
      rename_i sT xT s x hat har
      split at ho <;> first | (cases ho; done) | skip
      rename_i hs hx
      have e1 : c.argTypes = #[sT, xT] := by apply Array.ext'; simpa using hat
      have e2 : c.args = #[s, x] := by apply Array.ext'; simpa using har
      obtain ⟨M', w', z, hz, r⟩ := run_appendA (P := P) (ty := o.type) hT H (hev _ _ hs) (hev _ _ hx) ho
      exact ⟨M', w', z, .inl (by simp [resolve, hc, invoke, builtin, e1, e2, hz]), r⟩
    · rename_i hc
      split at ho <;> first | (cases ho; done) | skip
      rename_i dT sT s x hat har
      split at ho <;> first | (cases ho; done) | skip
      rename_i hs hx
      have e1 : c.argTypes = #[dT, sT] := by apply Array.ext'; simpa using hat
      have e2 : c.args = #[s, x] := by apply Array.ext'; simpa using har
      obtain ⟨w', z, hz, H', hv⟩ := run_copyA (P := P) (sT := sT) (ty := o.type) hT H (hev _ _ hs) (hev _ _ hx) ho
      exact ⟨M, w', z, .inl (by simp [resolve, hc, invoke, builtin, e1, e2, hz]), Mod.le.refl M, H', hv⟩
  · cases ho
end Go.Mx

namespace Go.Mx
def sameA : TypeDesc → V → V → Option Bool
  | .int _, .i k a, .i k' b => if k = k' then some (decide (a = b)) else none
  | .string, .s a, .s b => some (decide (a = b))
  | .bool, .b a, .b b => some (a == b)
  | _, _, _ => none
def findA (d : TypeDesc) (k : V) : List (V × V × Nat) → Nat → Option (Option (Nat × V))
  | [], _ => some none
  | (k', v, _) :: r, i => match sameA d k k' with
    | some true => some (some (i, v))
    | some false => findA d k r (i + 1)
    | none => none
def keyA : TypeDesc → V → Bool
  | .int _, .i _ _ => true
  | .string, .s _ => true
  | .bool, .b _ => true
  | _, _ => false
def lookA (tb : Nat → Option TI) (et : Nat) (ok : Bool) : Option (Nat × V) → Option V
  | some (_, v) => some (if ok then .tup [v, .b true] else v)
  | none => (match tb et with
    | some te => some (if ok then .tup [te.zv, .b false] else te.zv)
    | none => none)
def setEnt (k v : V) : List (V × V × Nat) → Nat → List (V × V × Nat)
  | [], _ => []
  | (_, _, s) :: r, 0 => (k, v, s) :: r
  | e :: r, i + 1 => e :: setEnt k v r i
def nextMapA (h : Hp) (b m since : Nat) (seen : List Nat) (last : Nat) (es : List (V × V × Nat)) (clock : Nat) : Option (V × Hp) :=
  if es.all (fun e => decide (e.2.2 < since)) && decide (since ≤ last) then
    (match es.filter fun e => !seen.contains e.2.2 with
    | [] => some (.tup [.b false], h)
    | [(k, v, s)] => some (.tup [.b true, k, v], h.set b (.oth (.iter m since (seen ++ [s]) clock)))
    | _ => none)
  else none
def bytesA : List V → Option (List UInt8)
  | [] => some []
  | .i .u8 n :: r => (match bytesA r with
    | some l => if 0 ≤ n ∧ n < 256 then some (n.toNat.toUInt8 :: l) else none
    | none => none)
  | _ => none
def objA (tb : Nat → Option TI) (ev : Operand → Option V) (o : Op) (h : Hp) : Option (V × Hp) :=
  match o with
  | .makeMap t r => (match r with
    | none => some (.m h.n, h.push (.oth (.map [] 0)))
    | some x => (match tb t, ev x with
      | some ti, some (.i _ _) => (match ti.d with
        | .map _ _ => some (.m h.n, h.push (.oth (.map [] 0)))
        | _ => none)
      | _, _ => none))
  | .lookup t x k ok => (match tb t with
    | some ti => (match ti.d with
      | .map kt et => (match tb kt, ev x, ev k with
        | some tk, some xv, some kv => if keyA tk.d kv then
            (match xv with
            | .nilm => (match lookA tb et ok none with
              | some v => some (v, h)
              | none => none)
            | .m b => (match h.get b with
              | some (.oth (.map es _)) => (match findA tk.d kv es 0 with
                | some r => (match lookA tb et ok r with
                  | some v => some (v, h)
                  | none => none)
                | none => none)
              | _ => none)
            | _ => none) else none
        | _, _, _ => none)
      | _ => none)
    | none => none)
  | .mapUpdate t x k y => (match tb t with
    | some ti => (match ti.d with
      | .map kt _ => (match tb kt, ev x, ev k, ev y with
        | some tk, some (.m b), some kv, some v => if keyA tk.d kv then
            (match h.get b with
            | some (.oth (.map es clock)) => (match findA tk.d kv es 0 with
              | some (some (i, _)) => some (.tup [], h.set b (.oth (.map (setEnt kv v es i) clock)))
              | some none => some (.tup [], h.set b (.oth (.map (es ++ [(kv, v, clock)]) (clock + 1))))
              | none => none)
            | _ => none) else none
        | _, _, _, _ => none)
      | _ => none)
    | none => none)
  | .range t x => (match tb t with
    | some ti => (match ti.d, ev x with
      | .string, some (.s l) => some (.p h.n 0, h.push (.oth (.str l 0)))
      | .map _ _, some (.m b) => (match h.get b with
        | some (.oth (.map _ clock)) => some (.p h.n 0, h.push (.oth (.iter b clock [] clock)))
        | _ => none)
      | _, _ => none)
    | none => none)
  | .next x isStr => (match ev x with
    | some (.p b 0) => (match h.get b, isStr with
      | some (.oth (.str l pos)), true => (match l.drop pos with
        | [] => some (.tup [.b false], h)
        | c :: _ => if c.toNat < 128 then some (.tup [.b true, .i .i64 pos, .i .i32 c.toNat], h.set b (.oth (.str l (pos + 1)))) else none)
      | some (.oth (.iter m since seen last)), false => (match h.get m with
        | some (.oth (.map es clock)) => nextMapA h b m since seen last es clock
        | _ => none)
      | _, _ => none)
    | _ => none)
  | .entry x => (match ev x with
    | some (.p b 0) => (match h.get b with
      | some (.oth (.iter m _ seen last)) => (match h.get m, seen.getLast? with
        | some (.oth (.map es clock)), some st => if clock = last then (match es.find? (fun e => e.2.2 == st) with
          | some e => some (.tup [e.1, e.2.1], h)
          | none => none) else none
        | _, _ => none)
      | _ => none)
    | _ => none)
  | .call c => (match c.callee with
    | .builtin .len => (match c.argTypes.toList, evs ev c.args.toList with
      | [t], some [.m b] => (match tb t, h.get b with
        | some ti, some (.oth (.map es _)) => (match ti.d with
          | .map _ _ => some (.i .i64 es.length, h)
          | _ => none)
        | _, _ => none)
      | _, _ => none)
    | .builtin .unsafeSliceData => (match evs ev c.args.toList with
      | some [.nils] => some (.nilp, h)
      | some [.sl b o n _ _] => if 0 < n then some (.p b o, h) else none
      | _ => none)
    | .builtin .unsafeString => (match c.argTypes.toList, evs ev c.args.toList with
      | [_, _], some [.nilp, .i .i64 0] => some (.s [], h)
      | [pt, _], some [.p b o, .i .i64 n] => (match tb pt, h.get b with
        | some tp, some (.blk ty cells true) => (match tp.d with
          | .pointer e => (match tb e with
            | some te => if te.size = 1 ∧ e = ty / 2 ∧ 0 < n ∧ o + n.toNat ≤ cells.length ∧ n ≤ 9223372036854775807 then
              (match bytesA ((cells.drop o).take n.toNat) with
              | some l => some (.s l, h.set b (.blk (2 * (ty / 2)) cells false))
              | none => none) else none
            | none => none)
          | _ => none)
        | _, _ => none)
      | _, _ => none)
    | .builtin .clear => (match c.argTypes.toList, evs ev c.args.toList with
      | [t], some [x] => (match tb t with
        | some ti => (match ti.d, x with
          | .slice _, .nils => some (.tup [], h)
          | .slice _, .se _ _ => some (.tup [], h)
          | .slice e, .sl b o n _ z => (match tb e, h.get b with
            | some te, some (.blk ty cells true) =>
              if 0 < n ∧ z = te.size ∧ te.zero.length = te.size ∧ o + n * z ≤ cells.length ∧ te.zero.all V.one = true then
                some (.tup [], h.set b (.blk ty (setAll cells o (rep n te.zero)) true)) else none
            | _, _ => none)
          | _, _ => none)
        | none => none)
      | _, _ => none)
    | .builtin .delete => (match c.argTypes.toList, evs ev c.args.toList with
      | t :: _, some [.m b, kv] => (match tb t, h.get b with
        | some ti, some (.oth (.map es clock)) => (match ti.d with
          | .map kt _ => (match tb kt with
            | some tk => if keyA tk.d kv then (match findA tk.d kv es 0 with
              | some (some (i, _)) => some (.tup [], h.set b (.oth (.map (es.eraseIdx i) clock)))
              | some none => some (.tup [], h.set b (.oth (.map es clock)))
              | none => none) else none
            | none => none)
          | _ => none)
        | _, _ => none)
      | _, _ => none)
    | _ => none)
  | .slice t x lo hi none => (match ev x, bnd ev lo, bnd ev hi with
    | some (.sl b o n none z), some l', some (some h') => (match tb t, h.get b with
      | some ti, some (.blk _ cells _) => (match ti.d with
        | .slice e => (match tb e with
          | some te => if te.size = z ∧ 0 < z then (match bnds n ((cells.length - o) / z) l' (some h') none with
            | some (l, hh, _) => if l < hh then some (.sl b (o + l * z) (hh - l) none z, h) else none
            | none => none) else none
          | none => none)
        | _ => none)
      | _, _ => none)
    | _, _, _ => none)
  | .convert s d x => (match tb s, tb d, ev x with
    | some si, some di, some (.p b o) => (match h.get b with
      | some (.blk ty cells rw) => (match si.d, di.d with
        | .pointer t, .unsafePointer => (match tb t with
          | some ti => if 0 < ti.size ∧ o < cells.length then some (.p b o, h) else none
          | none => none)
        | .unsafePointer, .pointer t => (match tb t with
          | some ti => if rw = true ∧ t = ty / 2 ∧ ty % 2 = 0 ∧ o = 0 ∧ 0 < ti.size ∧ ti.size ≤ cells.length then some (.p b o, h) else none
          | none => none)
        | _, _ => none)
      | _ => none)
    | _, _, _ => none)
  | _ => none
end Go.Mx

namespace Go.Mx
inductive Ex where
  | normal
  | ret
  | exit (id : Nat)
  | goto (l : Nat)
  | panic (v : V)
  deriving Inhabited
inductive En where
  | ret (v : V)
  | panic (v : V)
  deriving Inhabited
inductive Tg where
  | fn (f : Nat)
  | it (f : Nat)
  | yield (l : Nat)
  deriving Inhabited
abbrev Caller := Tg → List V → Hp → Option (En × Hp)
inductive Dfr where
  | col (b : Nat)
  | fn (f : Fn) (cap args : List V)
  deriving Inhabited
structure St where
  fr : List (Nat × V)
  ds : List Dfr
  h : Hp
def DRel (M : Mod) : Dfr → Deferred → Prop
  | .col b, d => M.ok b ∧ d = { target := .collected (M.blk b), args := #[] }
  | .fn f cap args, d => ∃ cs as, d = { target := .fn f cs, args := as } ∧ VRels M cap cs.toList ∧ VRels M args as.toList
def DRels (M : Mod) : List Dfr → List Deferred → Prop
  | [], [] => True
  | x :: xs, y :: ys => DRel M x y ∧ DRels M xs ys
  | _, _ => False
theorem DRel.mono0 {M M' : Mod} (h : M.le0 M') {x : Dfr} {y : Deferred} (hx : DRel M x y) : DRel M' x y := by
  cases x with
  | col b => obtain ⟨h1, h2⟩ := hx; exact ⟨(h.same b h1).1, by rw [(h.same b h1).2.1]; exact h2⟩
  | fn f cap args => obtain ⟨cs, as, h1, h2, h3⟩ := hx; exact ⟨cs, as, h1, h2.mono0 h, h3.mono0 h⟩
theorem DRels.mono0 {M M' : Mod} (h : M.le0 M') : ∀ {xs : List Dfr} {ys : List Deferred}, DRels M xs ys → DRels M' xs ys
  | [], [], _ => trivial
  | _ :: _, _ :: _, hx => ⟨hx.1.mono0 h, hx.2.mono0 h⟩
  | [], _ :: _, hx => hx.elim
  | _ :: _, [], hx => hx.elim
theorem DRels.mono {M M' : Mod} (h : M.le M') {xs : List Dfr} {ys : List Deferred} (hx : DRels M xs ys) : DRels M' xs ys := hx.mono0 h.toLe0
theorem DRels.nil_iff {M : Mod} {ys : List Deferred} (h : DRels M [] ys) : ys = [] := by cases ys with
  | nil => rfl
  | cons => exact h.elim
def evF (fr : List (Nat × V)) : Operand → Option V
  | .tmp t => look fr t
  | .const v => cval v
  | .func f => some (.f (.func f) [] [])
  | .global _ => none
theorem evF_rel {M : Mod} {sz : Nat} {fr : List (Nat × V)} {a : Act} (h : FRel M sz fr a.tmps) : ∀ x v, evF fr x = some v → VRel M v (a.eval x) := by
  intro x v hx
  cases x with
  | tmp t =>
    obtain ⟨y, hy, hv⟩ := h.2 t v hx
    have : a.eval (.tmp t) = y := by simp [Act.eval, hy]
    rw [this]; exact hv
  | const c => exact cval_rel hx
  | global g => simp [evF] at hx
  | func f => simp [evF] at hx; subst hx; simp only [VRel, Act.eval]; exact ⟨#[], #[], rfl, by simp [VRels], by simp [VRels]⟩
def putF (sz : Nat) (fr : List (Nat × V)) (dst : Option Nat) (v : V) : Option (List (Nat × V)) :=
  match dst with
  | none => some fr
  | some d => if d < sz then some ((d, v) :: fr) else none
theorem putF_rel {M : Mod} {sz : Nat} {fr fr' : List (Nat × V)} {a : Act} {dst : Option Nat} {v : V} {y : Value} (h : FRel M sz fr a.tmps) (hp : putF sz fr dst v = some fr') (hv : VRel M v y) : FRel M sz fr' (a.put dst y).tmps := by
  unfold putF at hp
  split at hp
  · cases hp; exact h
  · rename_i d
    split at hp <;> first | (cases hp; done) | skip
    rename_i hd
    cases hp
    refine ⟨by simp [Act.put, h.1], fun t x hx => ?_⟩
    simp only [look] at hx
    split at hx
    · rename_i e
      cases hx
      have : d = t := by simpa using e
      subst this
      exact ⟨y, by simp only [Act.put]; rw [Array.getElem?_setIfInBounds_self_of_lt (by rw [h.1]; exact hd)], hv⟩
    · rename_i e
      have : d ≠ t := by simpa using e
      obtain ⟨z, hz, hvz⟩ := h.2 t x hx
      exact ⟨z, by simp only [Act.put]; rw [Array.getElem?_setIfInBounds_ne this]; exact hz, hvz⟩
inductive Res where
  | val (v : V) (h : Hp)
  | dfr (d : Dfr) (h : Hp)
  | pan (v : V) (h : Hp)
def backR : Option (En × Hp) → Option Res
  | some (.ret v, h) => some (.val v h)
  | some (.panic v, h) => some (.pan v h)
  | none => none
def stepOp (tb : Nat → Option TI) (call : Caller) (ro : Option Nat) (ev : Operand → Option V) (o : Op) (h : Hp) : Option Res :=
  match pureA tb ev o with
  | some v => some (.val v h)
  | none => match heapA tb ev o h with
    | some (v, h) => some (.val v h)
    | none => match objA tb ev o h with
     | some (v, h) => some (.val v h)
     | none => match o with
      | .call c => (match c.callee with
        | .value f => (match ev f, evs ev c.args.toList with
          | some (.f (.func g) first cap), some as => backR (call (.fn g) (first ++ as ++ cap) h)
          | some (.y l), some as => backR (call (.yield l) as h)
          | _, _ => none)
        | _ => none)
      | .defer c => (match ro, c.callee with
        | none, .value f => (match ev f, evs ev c.args.toList with
          | some (.f g first cap), some as => some (.dfr (.fn g cap (first ++ as)) h)
          | _, _ => none)
        | _, _ => none)
      | .panic x => (match ev x with
        | some (.ifc t v) => some (.pan (.ifc t v) h)
        | _ => none)
      | _ => none
def runOp (tb : Nat → Option TI) (call : Caller) (ro : Option Nat) (sz : Nat) (o : Oper) (s : St) : Option (Ex × St) :=
  match stepOp tb call ro (evF s.fr) o.op s.h with
  | some (.val v h) => (match putF sz s.fr o.dst v with
    | some fr => some (.normal, ⟨fr, s.ds, h⟩)
    | none => none)
  | some (.dfr d h) => (match putF sz s.fr o.dst (.tup []) with
    | some fr => some (.normal, ⟨fr, d :: s.ds, h⟩)
    | none => none)
  | some (.pan v h) => some (.panic v, ⟨s.fr, s.ds, h⟩)
  | none => none
def wantedA (ops : Array Oper) (fr : List (Nat × V)) (o : Oper) : Option Bool :=
  match o.guard with
  | none => some true
  | some (j, want) => match ops[j]? with
    | none => none
    | some p => match p.dst with
      | none => none
      | some d => match look fr d with
        | some (.b t) => some (t == want)
        | some (.tup _) => some false
        | _ => none
def runOps (tb : Nat → Option TI) (call : Caller) (ro : Option Nat) (sz : Nat) (ops : Array Oper) : List Oper → St → Option (Ex × St)
  | [], s => some (.normal, s)
  | o :: r, s => match wantedA ops s.fr o with
    | none => none
    | some false => (match putF sz s.fr o.dst (.tup []) with
      | some fr => runOps tb call ro sz ops r ⟨fr, s.ds, s.h⟩
      | none => none)
    | some true => match runOp tb call ro sz o s with
      | some (.normal, s') => runOps tb call ro sz ops r s'
      | x => x
end Go.Mx

namespace Go.Mx
theorem HRel.put {M : Mod} {B : Base} {h : Hp} {w w' : World} (H : HRel M B h w) {b : Nat} {ob ob' : Ob} (hok : M.ok b) (hg : h.get b = some ob) (hl : ob.live = true) (hw : ob.wr = true) (hob : ObRel M B b w' ob')
    (h1 : w'.os = w.os) (h2 : w'.tape = w.tape) (h3 : w'.output = w.output) (h4 : w'.heap.size = w.heap.size) (h5 : ∀ k, k ≠ M.blk b → w'.heap[k]? = w.heap[k]?) : HRel M B (h.set b ob') w' := by
  have hown : B.w0.heap.size ≤ M.blk b ∨ B.wr (M.blk b) := by
    have := H.blk b ob hg hok
    cases ob with
    | dead => simp [Ob.live] at hl
    | oth k => exact this.2.1
    | blk ty cells rw =>
      obtain ⟨cs, fr, a1, a2, a3, a4, a5, a6, a7, a8⟩ := this
      exact (a6 hw).1
  refine ⟨H.n, h1.trans H.os, h2.trans H.tape, h3.trans H.output, by rw [h4]; exact H.size, fun k hk hn => ?_, ?_, H.okn, ?_, ?_⟩
  · rw [h5 k (fun e => ?_)]
    · exact H.old k hk hn
    · subst e
      rcases hown with hw | hw
      · omega
      · exact hn hw
  · intro i o hi
    by_cases e : i = b
    · subst e; exact H.lt i _ hg
    · rw [Hp.get_set_ne _ _ e] at hi; exact H.lt i o hi
  · intro i o hi hk
    by_cases e : i = b
    · subst e; rw [Hp.get_set_self] at hi; cases hi; exact hob
    · rw [Hp.get_set_ne _ _ e] at hi
      refine (H.blk i o hi hk).mono (Mod.le0.refl M) hk fun hl2 => h5 _ ?_
      exact fun e2 => H.sep b i ob o (Ne.symm e) hg hi hok hk hl hl2 hw e2.symm
  · intro i j o o' hne hi hj hki hkj hli hlj hwi
    by_cases e : i = b
    · subst e
      have e' : j ≠ i := fun x => hne x.symm
      rw [Hp.get_set_ne _ _ e'] at hj
      exact H.sep i j ob o' hne hg hj hki hkj hl hlj hw
    · rw [Hp.get_set_ne _ _ e] at hi
      by_cases e' : j = b
      · subst e'
        exact H.sep i j o ob hne hi hg hki hkj hli hl hwi
      · rw [Hp.get_set_ne _ _ e'] at hj
        exact H.sep i j o o' hne hi hj hki hkj hli hlj hwi
def putO (w : World) (r : Nat) (o : Obj) : World := { w with heap := w.heap.setIfInBounds r o }
theorem HRel.putOth {M : Mod} {B : Base} {h : Hp} {w : World} (H : HRel M B h w) {b : Nat} {k k' : Oth} (hok : M.ok b) (hg : h.get b = some (.oth k)) {o : Obj} (ho : ORel M k' o) : HRel M B (h.set b (.oth k')) (putO w (M.blk b) o) := by
  have hlt := H.blk_lt hg hok rfl
  obtain ⟨_, h2, h3⟩ := H.blk b _ hg hok
  refine H.put hok hg rfl rfl ⟨⟨o, by simp [putO, hlt], ho⟩, h2, h3⟩ rfl rfl rfl (by simp [putO]) fun j hj => ?_
  simp [putO, Array.getElem?_setIfInBounds_ne (Ne.symm hj)]
theorem HRel.pushOb {M : Mod} {B : Base} {h : Hp} {w : World} (H : HRel M B h w) (o : Obj) {len siz : Nat} {ob : Ob} (hob : ObRel (M.push w.heap.size 0 len siz) B h.n (w.alloc o) ob) : HRel (M.push w.heap.size 0 len siz) B (h.push ob) (w.alloc o) := by
  have hle := M.le_push H.okM w.heap.size 0 len siz
  have hMn := H.n
  have hold : ∀ k, k < w.heap.size → (w.alloc o).heap[k]? = w.heap[k]? := fun k hk => RowKit.Below.heap_alloc w _ k hk
  have hblt : ∀ id ob, h.get id = some ob → M.ok id → ob.live = true → M.blk id < w.heap.size := fun id ob hg hk hl => H.blk_lt hg hk hl
  have hoks : ∀ id, (M.push w.heap.size 0 len siz).ok id → id ≠ h.n → M.ok id := fun id hk e => by
    rcases hk with hk | hk
    · exact absurd (hk.trans hMn) e
    · exact hk.2
  refine ⟨by simp [Mod.push, hMn], H.os, H.tape, H.output, by simp only [World.size_alloc]; have := H.size; omega, fun k hk hw => (hold k (by have := H.size; omega)).trans (H.old k hk hw), ?_, ?_, ?_, ?_⟩
  · intro id ob hg
    by_cases e : id = h.n
    · subst e; simp
    · rw [Hp.get_push_ne _ _ e] at hg
      have := H.lt id ob hg; simp; omega
  · intro id hk
    by_cases e : id = h.n
    · subst e; simp
    · have := H.okn id (hoks id hk e); simp; omega
  · intro id ob hg hk
    by_cases e : id = h.n
    · subst e
      rw [Hp.get_push_self] at hg; cases hg
      exact hob
    · rw [Hp.get_push_ne _ _ e] at hg
      have hk' := hoks id hk e
      exact (H.blk id ob hg hk').mono hle.toLe0 hk' fun hl => hold _ (hblt id ob hg hk' hl)
  · intro id id' ob ob' hne hg hg' hk hk' hl hl' hr
    have hb1 : ∀ i, i ≠ h.n → (M.push w.heap.size 0 len siz).blk i = M.blk i := fun i hi => by simp [Mod.push, hMn, hi]
    have hb2 : (M.push w.heap.size 0 len siz).blk h.n = w.heap.size := by simp [Mod.push, hMn]
    by_cases e : id = h.n
    · have e' : id' ≠ h.n := fun x => hne (e.trans x.symm)
      rw [Hp.get_push_ne _ _ e'] at hg'
      have := hblt id' ob' hg' (hoks id' hk' e') hl'
      rw [e, hb2, hb1 _ e']; omega
    · rw [Hp.get_push_ne _ _ e] at hg
      by_cases e' : id' = h.n
      · have := hblt id ob hg (hoks id hk e) hl
        rw [e', hb2, hb1 _ e]; omega
      · rw [Hp.get_push_ne _ _ e'] at hg'
        rw [hb1 _ e, hb1 _ e']
        exact H.sep id id' ob ob' hne hg hg' (hoks id hk e) (hoks id' hk' e') hl hl' hr
theorem HRel.pushOth {M : Mod} {B : Base} {h : Hp} {w : World} (H : HRel M B h w) {k : Oth} {o : Obj} (ho : ORel M k o) : HRel (M.push w.heap.size 0 0 0) B (h.push (.oth k)) (w.alloc o) := by
  have hle := M.le_push H.okM w.heap.size 0 0 0
  have hb2 : (M.push w.heap.size 0 0 0).blk h.n = w.heap.size := by simp [Mod.push, H.n]
  refine H.pushOb o ⟨⟨o, by rw [hb2]; exact World.alloc_heap_new w _, ho.mono0 hle.toLe0⟩, .inl (by rw [hb2]; exact H.size), by simp [Mod.push, H.n]⟩
theorem oth_of {M : Mod} {B : Base} {h : Hp} {w : World} (H : HRel M B h w) {b : Nat} {k : Oth} (hok : M.ok b) (hg : h.get b = some (.oth k)) : ∃ o, w.heap[M.blk b]? = some o ∧ ORel M k o ∧ M.bas b = 0 := by
  obtain ⟨⟨o, h1, h2⟩, _, h3⟩ := H.blk b _ hg hok
  exact ⟨o, h1, h2, h3⟩
theorem run_getO {P : Program} {w : World} {r : Nat} {o : Obj} (h : w.heap[r]? = some o) (hc : ∀ c t f, o ≠ .cells c t f) : (getObj r).run P w = .ok o w := by
  cases o <;> first
    | (simp [getObj, Sem.run, h]; done)
    | exact absurd rfl (hc _ _ _)
theorem run_setO {P : Program} {w : World} {r : Nat} {o : Obj} (o' : Obj) (h : w.heap[r]? = some o) (hc : ∀ c t f, o ≠ .cells c t f) : (setObj r o').run P w = .ok () (putO w r o') := by
  cases o <;> first
    | (simp [setObj, Sem.run, h, putO]; done)
    | exact absurd rfl (hc _ _ _)
end Go.Mx

namespace Go.Mx
theorem run_checkKeyA {P : Program} {w : World} {kt n : Nat} {d : TypeDesc} {M : Mod} {k : V} {K : Value} (hu : (underlying kt).run P w = .ok d w) (hk : keyA d k = true) (hv : VRel M k K) (e : Bool) :
    (Instr.checkKey e (n + 1) kt K).run P w = .ok () w := by
  unfold keyA at hk
  split at hk <;> first | (cases hk; done) | skip
  all_goals
    simp only [VRel] at hv; subst hv
    simp [Instr.checkKey, hu]
theorem bytes_beq (a b : List UInt8) : ((⟨a.toArray⟩ : ByteArray) == ⟨b.toArray⟩) = decide (a = b) := by
  show (a.toArray == b.toArray) = decide (a = b)
  rw [Bool.eq_iff_iff]; simp
theorem sameA_rel {M : Mod} {d : TypeDesc} {k k' : V} {K K' : Value} {r : Bool} (h : sameA d k k' = some r) (hk : VRel M k K) (hk' : VRel M k' K') : Instr.sameNow d K K' = some r ∧ (r = true → K' = K) := by
  unfold sameA at h
  split at h <;> first | (cases h; done) | skip
  · simp only [VRel] at hk hk'; subst hk; subst hk'
    split at h <;> first | (cases h; done) | skip
    rename_i hkk; subst hkk; cases h
    simp only [Instr.sameNow, if_true]
    refine ⟨by congr 1, fun hr => ?_⟩
    have := of_decide_eq_true hr
    subst this; rfl
  · simp only [VRel] at hk hk'; subst hk; subst hk'; cases h
    simp only [Instr.sameNow, bytes_beq]
    refine ⟨trivial, fun hr => ?_⟩
    have := of_decide_eq_true hr
    subst this; rfl
  · simp only [VRel] at hk hk'; subst hk; subst hk'; cases h
    simp only [Instr.sameNow]
    refine ⟨trivial, fun hr => ?_⟩
    have := eq_of_beq hr
    subst this; rfl
theorem MapRel.length {M : Mod} : ∀ {es : List (V × V × Nat)} {E : List MapEntry}, MapRel M es E → es.length = E.length
  | [], [], _ => rfl
  | (_, _, _) :: r, e :: E, h => by simp only [MapRel] at h; simp [MapRel.length h.2.2.2]
  | [], _ :: _, h => by simp [MapRel] at h
  | _ :: _, [], h => by simp [MapRel] at h
theorem findA_rel {M : Mod} {d : TypeDesc} {k : V} {K : Value} (hk : VRel M k K) : ∀ {es : List (V × V × Nat)} {E : List MapEntry} {i : Nat} {r : Option (Nat × V)}, findA d k es i = some r → MapRel M es E →
    ∃ r', Instr.findNow d K E i = some r' ∧ (match r with
      | none => r' = none
      | some (j, v) => ∃ y e, r' = some (j, y) ∧ VRel M v y ∧ i ≤ j ∧ E[j - i]? = some e ∧ e.key = K)
  | [], [], i, r, h, _ => by simp [findA] at h; subst h; exact ⟨none, rfl, rfl⟩
  | (k', v, s) :: es, e :: E, i, r, h, hm => by
    simp only [MapRel] at hm
    simp only [findA] at h
    split at h
    · rename_i hs
      cases h
      obtain ⟨h1, h2⟩ := sameA_rel hs hk hm.1
      exact ⟨_, by simp [Instr.findNow, h1], e.val, e, rfl, hm.2.1, Nat.le_refl _, by simp, h2 rfl⟩
    · rename_i hs
      obtain ⟨h1, _⟩ := sameA_rel hs hk hm.1
      obtain ⟨r', h3, h4⟩ := findA_rel hk h hm.2.2.2
      refine ⟨r', by simp [Instr.findNow, h1, h3], ?_⟩
      cases r with
      | none => exact h4
      | some p =>
        obtain ⟨y, e', q1, q2, q3, q4, q5⟩ := h4
        exact ⟨y, e', q1, q2, by omega, by rw [show p.1 - i = (p.1 - (i + 1)) + 1 by omega]; simpa using q4, q5⟩
    · cases h
  | [], _ :: _, _, _, _, h => by simp [MapRel] at h
  | _ :: _, [], _, _, _, h => by simp [MapRel] at h
theorem run_findA {P : Program} {w : World} {kt : Nat} {d : TypeDesc} {M : Mod} {k : V} {K : Value} (hu : (underlying kt).run P w = .ok d w) (hk : VRel M k K) {es : List (V × V × Nat)} {E : Array MapEntry} {r : Option (Nat × V)} (h : findA d k es 0 = some r) (hm : MapRel M es E.toList) :
    ∃ r', (Instr.findKey kt K E.toList).run P w = .ok r' w ∧ (match r with
      | none => r' = none
      | some (j, v) => ∃ y e, r' = some (j, y) ∧ VRel M v y ∧ E[j]? = some e ∧ e.key = K) := by
  obtain ⟨r', h1, h2⟩ := findA_rel hk h hm
  refine ⟨r', by simp [Instr.findKey, hu, h1], ?_⟩
  cases r with
  | none => exact h2
  | some p =>
    obtain ⟨y, e, q1, q2, _, q4, q5⟩ := h2
    exact ⟨y, e, q1, q2, by simpa using q4, q5⟩
theorem sameBits_self {d : TypeDesc} {k : V} {K : Value} {M : Mod} (hk : keyA d k = true) (hv : VRel M k K) (n : Nat) : Instr.sameBits n K K = true := by
  unfold keyA at hk
  split at hk <;> first | (cases hk; done) | skip
  all_goals
    simp only [VRel] at hv; subst hv
    simp [Instr.sameBits, bytes_beq]
theorem MapRel.setEnt {M : Mod} {k v : V} {K Y : Value} (hk : VRel M k K) (hv : VRel M v Y) : ∀ {es : List (V × V × Nat)} {E : List MapEntry} (i : Nat), MapRel M es E → MapRel M (setEnt k v es i) (E.modify i fun e => { e with key := K, val := Y })
  | [], [], i, _ => by cases i <;> simp [Mx.setEnt, MapRel]
  | (_, _, s) :: r, e :: E, 0, h => by simp only [MapRel] at h; simp only [Mx.setEnt, List.modify_zero_cons, MapRel]; exact ⟨hk, hv, h.2.2.1, h.2.2.2⟩
  | (_, _, s) :: r, e :: E, i + 1, h => by simp only [MapRel] at h; simp only [Mx.setEnt, List.modify_succ_cons, MapRel]; exact ⟨h.1, h.2.1, h.2.2.1, MapRel.setEnt hk hv i h.2.2.2⟩
  | [], _ :: _, _, h => by simp [MapRel] at h
  | _ :: _, [], _, h => by simp [MapRel] at h
theorem MapRel.append {M : Mod} : ∀ {es es' : List (V × V × Nat)} {E E' : List MapEntry}, MapRel M es E → MapRel M es' E' → MapRel M (es ++ es') (E ++ E')
  | [], _, [], _, _, h => by simpa using h
  | (_, _, _) :: r, _, e :: E, _, h, h' => by simp only [MapRel, List.cons_append] at h ⊢; exact ⟨h.1, h.2.1, h.2.2.1, h.2.2.2.append h'⟩
  | [], _, _ :: _, _, h, _ => by simp [MapRel] at h
  | _ :: _, _, [], _, h, _ => by simp [MapRel] at h
theorem MapRel.filter {M : Mod} {p : V × V × Nat → Bool} {q : MapEntry → Bool} (hpq : ∀ k v e, p (k, v, e.born) = q e) : ∀ {es : List (V × V × Nat)} {E : List MapEntry}, MapRel M es E → MapRel M (es.filter p) (E.filter q)
  | [], [], _ => by simp [MapRel]
  | (k, v, s) :: r, e :: E, h => by
    simp only [MapRel] at h
    obtain ⟨h1, h2, rfl, h4⟩ := h
    simp only [List.filter_cons, hpq]
    split
    · simp only [MapRel]; exact ⟨h1, h2, trivial, MapRel.filter hpq h4⟩
    · exact MapRel.filter hpq h4
  | [], _ :: _, h => by simp [MapRel] at h
  | _ :: _, [], h => by simp [MapRel] at h
theorem MapRel.born {M : Mod} {es : List (V × V × Nat)} {E : List MapEntry} (h : MapRel M es E) {since : Nat} (ha : es.all (fun e => decide (e.2.2 < since)) = true) : ∀ x ∈ E, x.born < since := by
  induction E generalizing es with
  | nil => simp
  | cons e E ih =>
    cases es with
    | nil => simp [MapRel] at h
    | cons p r =>
      obtain ⟨k, v, s⟩ := p
      simp only [MapRel] at h
      simp only [List.all_cons, Bool.and_eq_true, decide_eq_true_eq] at ha
      intro x hx
      rcases List.mem_cons.1 hx with rfl | hx
      · rw [h.2.2.1]; exact ha.1
      · exact ih h.2.2.2 ha.2 x hx
theorem MapRel.eraseIdx {M : Mod} : ∀ {es : List (V × V × Nat)} {E : List MapEntry} (i : Nat), MapRel M es E → MapRel M (es.eraseIdx i) (E.eraseIdx i)
  | [], [], i, _ => by simp [MapRel]
  | (_, _, s) :: r, e :: E, 0, h => by simp only [MapRel] at h; simpa using h.2.2.2
  | (_, _, s) :: r, e :: E, i + 1, h => by simp only [MapRel] at h; simp only [List.eraseIdx_cons_succ, MapRel]; exact ⟨h.1, h.2.1, h.2.2.1, MapRel.eraseIdx i h.2.2.2⟩
  | [], _ :: _, _, h => by simp [MapRel] at h
  | _ :: _, [], _, h => by simp [MapRel] at h
theorem MapRel.find {M : Mod} {st : Nat} : ∀ {es : List (V × V × Nat)} {E : List MapEntry} {p : V × V × Nat}, MapRel M es E → es.find? (fun e => e.2.2 == st) = some p → ∃ e, E.find? (fun e => e.born == st) = some e ∧ VRel M p.1 e.key ∧ VRel M p.2.1 e.val
  | [], [], p, _, h => by simp at h
  | (k, v, s) :: r, e :: E, p, hm, h => by
    simp only [MapRel] at hm
    obtain ⟨h1, h2, h3, h4⟩ := hm
    simp only [List.find?_cons] at h ⊢
    rw [h3]
    split at h
    · rename_i hs
      cases h
      exact ⟨e, rfl, h1, h2⟩
    · rename_i hs
      exact h4.find h
  | [], _ :: _, _, h, _ => by simp [MapRel] at h
  | _ :: _, [], _, h, _ => by simp [MapRel] at h
theorem run_lookupA {P : Program} {tb : Nat → Option TI} (hT : TbOk P tb) {M : Mod} {t kt et : Nat} {ti tk : TI} (ht : tb t = some ti) (hd : ti.d = .map kt et) (hk : tb kt = some tk) {kv v : V} {K X : Value} (hkv : VRel M kv K) (hka : keyA tk.d kv = true) {ok : Bool} {w : World}
    {E : Array MapEntry} (hX : X = .map none ∧ E = #[] ∨ ∃ r cl, X = .map (some r) ∧ w.heap[r]? = some (.map E cl)) {es : List (V × V × Nat)} (hm : MapRel M es E.toList) {r : Option (Nat × V)} (hf : findA tk.d kv es 0 = some r) (hl : lookA tb et ok r = some v) :
    ∃ z, (Instr.lookup t X K ok).run P w = .ok z w ∧ VRel M v z := by
  have ut := (hT.is ht).runUnd w
  rw [hd] at ut
  have uk := (hT.is hk).runUnd w
  obtain ⟨r', h1, h2⟩ := run_findA (P := P) uk hkv hf hm
  have hck := run_checkKeyA (P := P) (n := 9999) uk hka hkv E.isEmpty
  have key : ∀ (f : Sem (Array MapEntry)), f.run P w = .ok E w → ∃ z, (do
      let es ← f
      Instr.checkKey es.isEmpty 10000 kt K
      let (v, fd) ← match ← Instr.findKey kt K es.toList with
        | some (_, v) => pure (v, true)
        | none => pure (← zeroValue et, false)
      pure (if ok then .tuple #[v, .bool fd] else v) : Sem Value).run P w = .ok z w ∧ VRel M v z := by
    intro f hfr
    cases r with
    | none =>
      subst h2
      simp only [lookA] at hl
      cases he : tb et with
      | none => simp [he] at hl
      | some te =>
        obtain ⟨z, hz, hzv⟩ := (hT.is he).zero
        simp only [he] at hl
        cases hl
        cases ok
        · exact ⟨z, by simp [hfr, hck, h1, hz], hzv M⟩
        · exact ⟨.tuple #[z, .bool false], by simp [hfr, hck, h1, hz], by simp only [if_true, VRel]; exact ⟨_, rfl, by simp [VRels, hzv M, VRel]⟩⟩
    | some p =>
      obtain ⟨j, x⟩ := p
      obtain ⟨y, e, rfl, hy, _⟩ := h2
      simp only [lookA] at hl
      cases hl
      cases ok
      · exact ⟨y, by simp [hfr, hck, h1], hy⟩
      · exact ⟨.tuple #[y, .bool true], by simp [hfr, hck, h1], by simp only [if_true, VRel]; exact ⟨_, rfl, by simp [VRels, hy, VRel]⟩⟩
  unfold Instr.lookup
  rw [Sem.run_bind, ut]
  rcases hX with ⟨rfl, rfl⟩ | ⟨r, cl, rfl, hr⟩
  · obtain ⟨z, hz, hv⟩ := key (pure #[]) rfl
    exact ⟨z, hz, hv⟩
  · have hg : (getObj r).run P w = .ok (.map E cl) w := run_getO hr (by intro c t f h; cases h)
    obtain ⟨z, hz, hv⟩ := key (pure E) rfl
    refine ⟨z, ?_, hv⟩
    rw [Result.andThen_ok]
    dsimp only
    rw [Sem.run_bind, hg]
    exact hz
theorem run_mapUpdateA {P : Program} {tb : Nat → Option TI} (hT : TbOk P tb) {M : Mod} {t kt et : Nat} {ti tk : TI} (ht : tb t = some ti) (hd : ti.d = .map kt et) (hk : tb kt = some tk) {kv v : V} {K Y : Value} (hkv : VRel M kv K) (hv : VRel M v Y) (hka : keyA tk.d kv = true) {w : World} {rr cl : Nat}
    {E : Array MapEntry} (hr : w.heap[rr]? = some (.map E cl)) {es : List (V × V × Nat)} (hm : MapRel M es E.toList) {r : Option (Nat × V)} (hf : findA tk.d kv es 0 = some r) :
    ∃ E' : Array MapEntry, (Instr.mapUpdate t (.map (some rr)) K Y).run P w = .ok () (putO w rr (.map E' (match (generalizing := false) r with
      | some _ => cl
      | none => cl + 1))) ∧ MapRel M (match (generalizing := false) r with
      | some (i, _) => setEnt kv v es i
      | none => es ++ [(kv, v, cl)]) E'.toList := by
  have ut := (hT.is ht).runUnd w
  rw [hd] at ut
  have uk := (hT.is hk).runUnd w
  obtain ⟨r', h1, h2⟩ := run_findA (P := P) uk hkv hf hm
  have hck := run_checkKeyA (P := P) (n := 9999) uk hka hkv false
  have hg : (getObj rr).run P w = .ok (.map E cl) w := run_getO hr (by intro c t f h; cases h)
  have hs : ∀ o, (setObj rr o).run P w = .ok () (putO w rr o) := fun o => run_setO o hr (by intro c t f h; cases h)
  cases r with
  | none =>
    subst h2
    refine ⟨E.push { key := K, val := Y, born := cl }, ?_, ?_⟩
    · simp [Instr.mapUpdate, ut, hg, hck, h1, hs]
    · simp only [Array.toList_push]
      exact hm.append (by simp only [MapRel]; exact ⟨hkv, hv, trivial, trivial⟩)
  | some p =>
    obtain ⟨j, x⟩ := p
    obtain ⟨y, e, rfl, hy, he, hke⟩ := h2
    refine ⟨E.modify j fun e => { e with key := K, val := Y }, ?_, ?_⟩
    · have hkt : (Instr.keyThatStays (((E[j]?).map (·.key)).getD K) K).run P w = .ok K w := by
        rw [he]
        simp only [Option.map_some, Option.getD_some, hke, Instr.keyThatStays, sameBits_self hka hkv, if_true]
        rfl
      simp only [Instr.mapUpdate, Sem.run_bind, ut, Result.andThen_ok, hg, hck, h1, hkt, hs]
    · simp only [Array.toList_modify]
      exact hm.setEnt hkv hv j
end Go.Mx
