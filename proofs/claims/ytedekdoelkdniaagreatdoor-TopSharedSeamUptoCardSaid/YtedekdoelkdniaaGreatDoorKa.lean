/- The abstract machine: values, heap, operations without memory. -/
import Derived.RangeFuncNested
import Derived.RangeFuncBound
import Derived.WalkKit
import Derived.WalkLawsBesides
import Derived.WalkSpells
import Derived.Below
import Derived.Laws.IdiomCopy
import Derived.Laws.StructEq
import Derived.ChangeKeysEq
set_option linter.all false
namespace Go.Mx
inductive V where
  | b (t : Bool)
  | i (k : IntKind) (n : Int)
  | s (l : List UInt8)
  | nilp
  | p (blk off : Nat)
  | nils
  | sl (blk off len : Nat) (cap : Option Nat) (z : Nat)
  | se (blk z : Nat)
  | nilm
  | m (blk : Nat)
  | nilf
  | f (fn : Fn) (first cap : List V)
  | y (loop : Nat)
  | nili
  | ifc (t : Nat) (v : V)
  | agg (l : List V)
  | tup (l : List V)
  | jk
  | pq
  deriving Inhabited
inductive Oth where
  | map (es : List (V × V × Nat)) (clock : Nat)
  | iter (m since : Nat) (seen : List Nat) (last : Nat)
  | loop (st : LoopState) (pend : Option Code) (sz : Nat) (fr : List (Nat × V)) (params : List Nat) (assign body : Code) (dfr : Nat)
  | dfr (open_ : Bool)
  | str (l : List UInt8) (pos : Nat)
  deriving Inhabited
inductive Ob where
  | blk (ty : Nat) (cells : List V) (rw : Bool)
  | oth (o : Oth)
  | dead
  deriving Inhabited
structure Mod where
  n : Nat
  ok : Nat → Prop
  blk : Nat → Nat
  bas : Nat → Nat
  len : Nat → Nat
  siz : Nat → Nat
mutual
def VRel (M : Mod) : V → Value → Prop
  | .b t, v => v = .bool t
  | .i k n, v => v = .int k n
  | .s l, v => v = .string ⟨l.toArray⟩
  | .nilp, v => v = .pointer none
  | .p b o, v => M.ok b ∧ v = .pointer (some ⟨M.blk b, M.bas b + o, none⟩)
  | .nils, v => v = .slice none 0 0
  | .sl b o n cap z, v => M.ok b ∧ ∃ c, v = .slice (some ⟨M.blk b, M.bas b + o, none⟩) n c ∧ n ≤ c ∧ o + n * z ≤ M.len b ∧ o + c * z ≤ M.siz b ∧
      (match cap with
       | some k => c = k ∧ o + k * z ≤ M.len b
       | none => M.len b ≤ o + c * z)
  | .se b z, v => M.ok b ∧ ∃ o c, v = .slice (some ⟨M.blk b, M.bas b + o, none⟩) 0 c ∧ o + c * z ≤ M.siz b
  | .nilm, v => v = .map none
  | .m b, v => M.ok b ∧ v = .map (some (M.blk b))
  | .nilf, v => v = .nilFunc
  | .f fn first cap, v => ∃ fs cs, v = .func fn fs cs ∧ VRels M first fs.toList ∧ VRels M cap cs.toList
  | .y l, v => M.ok l ∧ v = .func (.yield (M.blk l)) #[] #[]
  | .nili, v => v = .nilIface
  | .ifc t x, v => ∃ y, v = .iface t y ∧ VRel M x y
  | .agg l, v => ∃ cs, v = .agg cs ∧ VRels M l cs.toList
  | .tup l, v => ∃ cs, v = .tuple cs ∧ VRels M l cs.toList
  | .jk, v => ∃ n : Nat, n < 256 ∧ v = .int .u8 n
  | .pq, v => ∃ q, v = .pointer q
def VRels (M : Mod) : List V → List Value → Prop
  | [], [] => True
  | x :: xs, y :: ys => VRel M x y ∧ VRels M xs ys
  | _, _ => False
end
theorem VRels.length {M : Mod} : ∀ {xs : List V} {ys : List Value}, VRels M xs ys → xs.length = ys.length
  | [], [], _ => rfl
  | _ :: _, _ :: _, h => by simp only [VRels] at h; simp [VRels.length h.2]
  | [], _ :: _, h => by simp [VRels] at h
  | _ :: _, [], h => by simp [VRels] at h
theorem VRels.get {M : Mod} : ∀ {xs : List V} {ys : List Value}, VRels M xs ys → ∀ {j : Nat} {x : V}, xs[j]? = some x → ∃ y, ys[j]? = some y ∧ VRel M x y
  | [], [], _, j, x, h => by simp at h
  | a :: xs, b :: ys, hr, 0, x, h => by
    simp only [VRels] at hr; simp at h; subst h; exact ⟨b, by simp, hr.1⟩
  | a :: xs, b :: ys, hr, j + 1, x, h => by
    simp only [VRels] at hr; simp at h
    obtain ⟨y, hy, hv⟩ := hr.2.get h
    exact ⟨y, by simpa using hy, hv⟩
  | [], _ :: _, h, _, _, _ => by simp [VRels] at h
  | _ :: _, [], h, _, _, _ => by simp [VRels] at h
theorem VRels.of_get {M : Mod} : ∀ {xs : List V} {ys : List Value}, xs.length = ys.length → (∀ (j : Nat) x y, xs[j]? = some x → ys[j]? = some y → VRel M x y) → VRels M xs ys
  | [], [], _, _ => by simp [VRels]
  | a :: xs, b :: ys, hl, h => by
    simp only [VRels]
    refine ⟨h 0 a b rfl rfl, VRels.of_get (by simpa using hl) fun j x y hx hy => h (j + 1) x y (by simpa using hx) (by simpa using hy)⟩
  | [], _ :: _, hl, _ => by simp at hl
  | _ :: _, [], hl, _ => by simp at hl
theorem VRels.append {M : Mod} : ∀ {xs xs' : List V} {ys ys' : List Value}, VRels M xs ys → VRels M xs' ys' → VRels M (xs ++ xs') (ys ++ ys')
  | [], _, [], _, _, h => by simpa using h
  | a :: xs, _, b :: ys, _, h, h' => by
    simp only [VRels, List.cons_append] at h ⊢
    exact ⟨h.1, h.2.append h'⟩
  | [], _, _ :: _, _, h, _ => by simp [VRels] at h
  | _ :: _, _, [], _, h, _ => by simp [VRels] at h
structure Mod.le0 (M M' : Mod) : Prop where
  same : ∀ b, M.ok b → M'.ok b ∧ M'.blk b = M.blk b ∧ M'.bas b = M.bas b ∧ M'.len b = M.len b ∧ M'.siz b = M.siz b
structure Mod.le (M M' : Mod) : Prop extends toLe0 : Mod.le0 M M' where
  n : M.n ≤ M'.n
  old : ∀ b, b < M.n → M'.ok b → M.ok b
theorem Mod.le0.refl (M : Mod) : M.le0 M := ⟨fun _ h => ⟨h, rfl, rfl, rfl, rfl⟩⟩
theorem Mod.le0.trans {A B C : Mod} (h : A.le0 B) (k : B.le0 C) : A.le0 C :=
  ⟨fun b hb => by
    obtain ⟨h0, h1, h2, h3, h4⟩ := h.same b hb
    obtain ⟨k0, k1, k2, k3, k4⟩ := k.same b h0
    exact ⟨k0, k1.trans h1, k2.trans h2, k3.trans h3, k4.trans h4⟩⟩
theorem Mod.le.refl (M : Mod) : M.le M := ⟨Mod.le0.refl M, Nat.le_refl _, fun _ _ h => h⟩
theorem Mod.le.trans {A B C : Mod} (h : A.le B) (k : B.le C) : A.le C :=
  ⟨h.toLe0.trans k.toLe0, Nat.le_trans h.n k.n, fun b hb hc => h.old b hb (k.old b (Nat.lt_of_lt_of_le hb h.n) hc)⟩
mutual
theorem VRel.mono0 {M M' : Mod} (h : M.le0 M') : ∀ {x : V} {y : Value}, VRel M x y → VRel M' x y
  | .b _, _, hx | .i _ _, _, hx | .s _, _, hx | .nilp, _, hx | .nils, _, hx | .nilm, _, hx | .nilf, _, hx | .nili, _, hx | .jk, _, hx | .pq, _, hx => by simpa only [VRel] using hx
  | .p b o, _, hx => by
    simp only [VRel] at hx ⊢
    obtain ⟨hb, rfl⟩ := hx
    obtain ⟨h0, h1, h2, _, _⟩ := h.same b hb
    exact ⟨h0, by rw [h1, h2]⟩
  | .sl b o n cap z, _, hx => by
    simp only [VRel] at hx ⊢
    obtain ⟨hb, c, rfl, hc⟩ := hx
    obtain ⟨h0, h1, h2, h3, h4⟩ := h.same b hb
    exact ⟨h0, c, by rw [h1, h2], by rw [h3, h4]; exact hc⟩
  | .se b z, _, hx => by
    simp only [VRel] at hx ⊢
    obtain ⟨hb, o, c, rfl, hc⟩ := hx
    obtain ⟨h0, h1, h2, h3, h4⟩ := h.same b hb
    exact ⟨h0, o, c, by rw [h1, h2], by rw [h4]; exact hc⟩
  | .m b, _, hx => by
    simp only [VRel] at hx ⊢
    obtain ⟨hb, rfl⟩ := hx
    exact ⟨(h.same b hb).1, by rw [(h.same b hb).2.1]⟩
  | .y b, _, hx => by
    simp only [VRel] at hx ⊢
    obtain ⟨hb, rfl⟩ := hx
    exact ⟨(h.same b hb).1, by rw [(h.same b hb).2.1]⟩
  | .f fn first cap, _, hx => by
    simp only [VRel] at hx ⊢
    obtain ⟨fs, cs, rfl, h1, h2⟩ := hx
    exact ⟨fs, cs, rfl, VRels.mono0 h h1, VRels.mono0 h h2⟩
  | .ifc t x, _, hx => by
    simp only [VRel] at hx ⊢
    obtain ⟨y, rfl, h1⟩ := hx
    exact ⟨y, rfl, VRel.mono0 h h1⟩
  | .agg l, _, hx => by
    simp only [VRel] at hx ⊢
    obtain ⟨y, rfl, h1⟩ := hx
    exact ⟨y, rfl, VRels.mono0 h h1⟩
  | .tup l, _, hx => by
    simp only [VRel] at hx ⊢
    obtain ⟨y, rfl, h1⟩ := hx
    exact ⟨y, rfl, VRels.mono0 h h1⟩
theorem VRels.mono0 {M M' : Mod} (h : M.le0 M') : ∀ {xs : List V} {ys : List Value}, VRels M xs ys → VRels M' xs ys
  | [], [], _ => by simp [VRels]
  | a :: xs, b :: ys, hx => by
    simp only [VRels] at hx ⊢
    exact ⟨VRel.mono0 h hx.1, VRels.mono0 h hx.2⟩
  | [], _ :: _, hx => by simp [VRels] at hx
  | _ :: _, [], hx => by simp [VRels] at hx
end
theorem VRel.mono {M M' : Mod} (h : M.le M') {x : V} {y : Value} (hx : VRel M x y) : VRel M' x y := hx.mono0 h.toLe0
theorem VRels.mono {M M' : Mod} (h : M.le M') {x : List V} {y : List Value} (hx : VRels M x y) : VRels M' x y := hx.mono0 h.toLe0
def look {α : Type} : List (Nat × α) → Nat → Option α
  | [], _ => none
  | (k, v) :: r, x => if k == x then some v else look r x
def FRel (M : Mod) (sz : Nat) (fr : List (Nat × V)) (tmps : Array Value) : Prop := tmps.size = sz ∧ ∀ t v, look fr t = some v → ∃ y, tmps[t]? = some y ∧ VRel M v y
theorem FRel.mono0 {M M' : Mod} (h : M.le0 M') {sz : Nat} {fr : List (Nat × V)} {tmps : Array Value} (H : FRel M sz fr tmps) : FRel M' sz fr tmps :=
  ⟨H.1, fun t v ht => let ⟨y, hy, hv⟩ := H.2 t v ht; ⟨y, hy, hv.mono0 h⟩⟩
theorem FRel.mono {M M' : Mod} (h : M.le M') {sz : Nat} {fr : List (Nat × V)} {tmps : Array Value} (H : FRel M sz fr tmps) : FRel M' sz fr tmps := H.mono0 h.toLe0
def MapRel (M : Mod) : List (V × V × Nat) → List MapEntry → Prop
  | [], [] => True
  | (k, v, s) :: r, e :: es => VRel M k e.key ∧ VRel M v e.val ∧ e.born = s ∧ MapRel M r es
  | _, _ => False
theorem MapRel.mono0 {M M' : Mod} (h : M.le0 M') : ∀ {es : List (V × V × Nat)} {E : List MapEntry}, MapRel M es E → MapRel M' es E
  | [], [], _ => by simp [MapRel]
  | (k, v, s) :: r, e :: es, hx => by
    simp only [MapRel] at hx ⊢
    exact ⟨hx.1.mono0 h, hx.2.1.mono0 h, hx.2.2.1, hx.2.2.2.mono0 h⟩
  | [], _ :: _, hx => by simp [MapRel] at hx
  | _ :: _, [], hx => by simp [MapRel] at hx
def ORel (M : Mod) : Oth → Obj → Prop
  | .map es clock, o => ∃ E : Array MapEntry, o = .map E clock ∧ MapRel M es E.toList
  | .iter m since seen last, o => M.ok m ∧ o = .mapIter (some (M.blk m)) since seen.toArray last
  | .loop st pend sz fr params assign body dfr, o => M.ok dfr ∧ ∃ fn tmps, o = .loop { state := st, pending := pend, fn := fn, tmps := tmps, params := params.toArray, assign := assign, body := body, defers := M.blk dfr } ∧ FRel M sz fr tmps
  | .dfr open_, o => o = .deferred (if open_ then some [] else none)
  | .str l pos, o => o = .stringIter ⟨l.toArray⟩ pos
theorem ORel.mono0 {M M' : Mod} (h : M.le0 M') : ∀ {k : Oth} {o : Obj}, ORel M k o → ORel M' k o
  | .map es clock, _, hx => by
    simp only [ORel] at hx ⊢
    obtain ⟨E, rfl, hE⟩ := hx
    exact ⟨E, rfl, hE.mono0 h⟩
  | .iter m since seen last, _, hx => by
    simp only [ORel] at hx ⊢
    obtain ⟨hm, rfl⟩ := hx
    exact ⟨(h.same m hm).1, by rw [(h.same m hm).2.1]⟩
  | .loop st pend sz fr params assign body dfr, _, hx => by
    simp only [ORel] at hx ⊢
    obtain ⟨hd, fn, tmps, rfl, hf⟩ := hx
    exact ⟨(h.same dfr hd).1, fn, tmps, by rw [(h.same dfr hd).2.1], hf.mono0 h⟩
  | .dfr _, _, hx => hx
  | .str _ _, _, hx => hx
structure Hp where
  l : List (Nat × Ob)
  n : Nat
def Hp.get (h : Hp) (b : Nat) : Option Ob := look h.l b
def Hp.push (h : Hp) (o : Ob) : Hp := ⟨(h.n, o) :: h.l, h.n + 1⟩
def Hp.set (h : Hp) (b : Nat) (o : Ob) : Hp := ⟨(b, o) :: h.l, h.n⟩
@[simp] theorem Hp.n_push (h : Hp) (o : Ob) : (h.push o).n = h.n + 1 := rfl
@[simp] theorem Hp.n_set (h : Hp) (b : Nat) (o : Ob) : (h.set b o).n = h.n := rfl
@[simp] theorem Hp.get_push_self (h : Hp) (o : Ob) : (h.push o).get h.n = some o := by simp [Hp.get, Hp.push, look]
theorem Hp.get_push_ne (h : Hp) (o : Ob) {b : Nat} (hb : b ≠ h.n) : (h.push o).get b = h.get b := by
  have : (h.n == b) = false := by simp; exact fun e => hb e.symm
  simp [Hp.get, Hp.push, look, this]
@[simp] theorem Hp.get_set_self (h : Hp) (b : Nat) (o : Ob) : (h.set b o).get b = some o := by simp [Hp.get, Hp.set, look]
theorem Hp.get_set_ne (h : Hp) (o : Ob) {b c : Nat} (hb : c ≠ b) : (h.set b o).get c = h.get c := by
  have : (b == c) = false := by simp; exact fun e => hb e.symm
  simp [Hp.get, Hp.set, look, this]
structure Base where
  w0 : World
  wr : Nat → Prop
def Ob.live : Ob → Bool
  | .dead => false
  | _ => true
def Ob.wr : Ob → Bool
  | .blk _ _ rw => rw
  | .oth _ => true
  | .dead => false
def ObRel (M : Mod) (B : Base) (id : Nat) (w : World) : Ob → Prop
  | .blk ty cells rw => ∃ cs fr, w.heap[M.blk id]? = some (.cells cs (ty / 2) fr) ∧ M.len id = cells.length ∧ M.len id ≤ M.siz id ∧ M.bas id + M.siz id ≤ cs.size ∧
      (∀ (j : Nat) (v : V), cells[j]? = some v → ∃ y, cs[M.bas id + j]? = some y ∧ VRel M v y) ∧
      (rw = true → (B.w0.heap.size ≤ M.blk id ∨ B.wr (M.blk id)) ∧ ∀ o, M.bas id ≤ o → ¬ (fr.1 ≤ o ∧ o < fr.2)) ∧ (ty % 2 = 0 → rw = true → M.bas id = 0) ∧
      (rw = false → ty % 2 = 1 → ∀ o, M.bas id ≤ o → o < M.bas id + M.len id → ¬ (fr.1 ≤ o ∧ o < fr.2))
  | .oth k => (∃ o, w.heap[M.blk id]? = some o ∧ ORel M k o) ∧ (B.w0.heap.size ≤ M.blk id ∨ B.wr (M.blk id)) ∧ M.bas id = 0
  | .dead => True
structure HRel (M : Mod) (B : Base) (h : Hp) (w : World) : Prop where
  n : M.n = h.n
  os : w.os = B.w0.os
  tape : w.tape = B.w0.tape
  output : w.output = B.w0.output
  size : B.w0.heap.size ≤ w.heap.size
  old : ∀ k, k < B.w0.heap.size → ¬ B.wr k → w.heap[k]? = B.w0.heap[k]?
  lt : ∀ id ob, h.get id = some ob → id < h.n
  okn : ∀ id, M.ok id → id < h.n
  blk : ∀ id ob, h.get id = some ob → M.ok id → ObRel M B id w ob
  sep : ∀ id id' ob ob', id ≠ id' → h.get id = some ob → h.get id' = some ob' → M.ok id → M.ok id' → ob.live = true → ob'.live = true → ob.wr = true → M.blk id ≠ M.blk id'
theorem HRel.drawn {M : Mod} {B : Base} {h : Hp} {w : World} (H : HRel M B h w) (d : Nat) : HRel M B h { w with drawn := d } :=
  ⟨H.n, H.os, H.tape, H.output, H.size, H.old, H.lt, H.okn, fun id ob hg hk => by
    have := H.blk id ob hg hk
    cases ob <;> exact this, H.sep⟩
def Mod.push (M : Mod) (blk bas len siz : Nat) : Mod :=
  { n := M.n + 1, ok := fun b => b = M.n ∨ (b < M.n ∧ M.ok b), blk := fun b => if b = M.n then blk else M.blk b, bas := fun b => if b = M.n then bas else M.bas b,
    len := fun b => if b = M.n then len else M.len b, siz := fun b => if b = M.n then siz else M.siz b }
theorem Mod.le_push {M : Mod} (hn : ∀ b, M.ok b → b < M.n) (blk bas len siz : Nat) : M.le (M.push blk bas len siz) where
  same b hb := by
    have h1 := hn b hb
    have : b ≠ M.n := by omega
    simp [Mod.push, this, h1, hb]
  n := Nat.le_succ _
  old b hb h := by
    rcases h with h | h
    · omega
    · exact h.2
theorem HRel.okM {M : Mod} {B : Base} {h : Hp} {w : World} (H : HRel M B h w) : ∀ b, M.ok b → b < M.n := fun b hb => by rw [H.n]; exact H.okn b hb
theorem ObRel.mono {M M' : Mod} {B : Base} {id : Nat} {w w' : World} {ob : Ob} (hle : M.le0 M') (hid : M.ok id) (hw : ob.live = true → w'.heap[M.blk id]? = w.heap[M.blk id]?) (h : ObRel M B id w ob) :
    ObRel M' B id w' ob := by
  cases ob with
  | dead => trivial
  | oth k =>
    obtain ⟨_, h1, h2, _⟩ := hle.same id hid
    obtain ⟨⟨o, a1, a2⟩, a3, a4⟩ := h
    exact ⟨⟨o, by rw [h1, hw rfl]; exact a1, a2.mono0 hle⟩, by rw [h1]; exact a3, by rw [h2]; exact a4⟩
  | blk ty cells rw =>
    obtain ⟨_, h1, h2, h3, h4⟩ := hle.same id hid
    obtain ⟨cs, fr, a1, a2, a3, a4, a5, a6, a7, a8⟩ := h
    refine ⟨cs, fr, by rw [h1, hw rfl]; exact a1, by rw [h3]; exact a2, by rw [h3, h4]; exact a3, by rw [h2, h4]; exact a4, fun j v hj => ?_, fun hr => ?_, fun ht hr => by rw [h2]; exact a7 ht hr, fun hr ht => by rw [h2, h3]; exact a8 hr ht⟩
    · rw [h2]
      obtain ⟨y, hy, hv⟩ := a5 j v hj
      exact ⟨y, hy, hv.mono0 hle⟩
    · rw [h1, h2]; exact a6 hr
theorem HRel.alloc {M : Mod} {B : Base} {h : Hp} {w : World} (H : HRel M B h w) (ty : Nat) {tag : Nat} (htag : tag / 2 = ty) (cells : List V) (cs : Array Value) (hlen : cells.length ≤ cs.size)
    (hc : ∀ (j : Nat) (v : V), cells[j]? = some v → ∃ y, cs[j]? = some y ∧ VRel M v y) (rw : Bool) :
    HRel (M.push w.heap.size 0 cells.length cs.size) B (h.push (.blk tag cells rw)) (w.alloc (.cells cs ty)) := by
  have hle := M.le_push H.okM w.heap.size 0 cells.length cs.size
  have hMn := H.n
  have hnew : (w.alloc (.cells cs ty)).heap[w.heap.size]? = some (.cells cs ty) := World.alloc_heap_new w _
  have hold : ∀ k, k < w.heap.size → (w.alloc (.cells cs ty)).heap[k]? = w.heap[k]? := fun k hk => RowKit.Below.heap_alloc w _ k hk
  have hblt : ∀ id ob, h.get id = some ob → M.ok id → ob.live = true → M.blk id < w.heap.size := fun id ob hg hk hl => by
    have := H.blk id ob hg hk
    cases ob with
    | dead => simp [Ob.live] at hl
    | oth k => obtain ⟨⟨o, a1, _⟩, _⟩ := this; exact (Array.getElem?_eq_some_iff.1 a1).1
    | blk ty cells rw =>
      obtain ⟨cs, fr, a1, _⟩ := this
      exact (Array.getElem?_eq_some_iff.1 a1).1
  have hoks : ∀ id, (M.push w.heap.size 0 cells.length cs.size).ok id → id ≠ h.n → M.ok id := fun id hk e => by
    rcases hk with hk | hk
    · exact absurd (hk.trans hMn) e
    · exact hk.2
  refine ⟨by simp [Mod.push, hMn], H.os, H.tape, H.output, by simp only [World.size_alloc]; have := H.size; omega, fun k hk hw => (hold k (by have := H.size; omega)).trans (H.old k hk hw), ?_, ?_, ?_, ?_⟩
  · intro id ob hg
    by_cases e : id = h.n
    · subst e; simp
    · rw [Hp.get_push_ne _ _ e] at hg
      have := H.lt id ob hg; simp; omega
  · intro id hk
    by_cases e : id = h.n
    · subst e; simp
    · have := H.okn id (hoks id hk e); simp; omega
  · intro id ob hg hk
    by_cases e : id = h.n
    · subst e
      rw [Hp.get_push_self] at hg; cases hg
      refine ⟨cs, (0, 0), ?_, ?_, ?_, ?_, ?_, ?_, fun _ _ => by simp [Mod.push, hMn], fun _ _ o _ _ h => by have := h.2; simp at this⟩
      · have : (M.push w.heap.size 0 cells.length cs.size).blk h.n = w.heap.size := by simp [Mod.push, hMn]
        rw [this, htag]; exact hnew
      · simp [Mod.push, hMn]
      · simp [Mod.push, hMn]; exact hlen
      · simp [Mod.push, hMn]
      · intro j v hj
        obtain ⟨y, hy, hv⟩ := hc j v hj
        refine ⟨y, ?_, hv.mono hle⟩
        simp [Mod.push, hMn]; exact hy
      · intro _
        refine ⟨.inl ?_, fun o _ => by simp⟩
        simp [Mod.push, hMn]; exact H.size
    · rw [Hp.get_push_ne _ _ e] at hg
      have hk' := hoks id hk e
      exact (H.blk id ob hg hk').mono hle.toLe0 hk' fun hl => hold _ (hblt id ob hg hk' hl)
  · intro id id' ob ob' hne hg hg' hk hk' hl hl' hr
    have hb1 : ∀ i, i ≠ h.n → (M.push w.heap.size 0 cells.length cs.size).blk i = M.blk i := fun i hi => by simp [Mod.push, hMn, hi]
    have hb2 : (M.push w.heap.size 0 cells.length cs.size).blk h.n = w.heap.size := by simp [Mod.push, hMn]
    by_cases e : id = h.n
    · have e' : id' ≠ h.n := fun x => hne (e.trans x.symm)
      rw [Hp.get_push_ne _ _ e'] at hg'
      have := hblt id' ob' hg' (hoks id' hk' e') hl'
      rw [e, hb2, hb1 _ e']; omega
    · rw [Hp.get_push_ne _ _ e] at hg
      by_cases e' : id' = h.n
      · have := hblt id ob hg (hoks id hk e) hl
        rw [e', hb2, hb1 _ e]; omega
      · rw [Hp.get_push_ne _ _ e'] at hg'
        rw [hb1 _ e, hb1 _ e']
        exact H.sep id id' ob ob' hne hg hg' (hoks id hk e) (hoks id' hk' e') hl hl' hr
end Go.Mx

namespace Go.Mx
theorem heap_setCell_self {w : World} {b o : Nat} {cs : Array Value} {t : TypeId} {fr : Nat × Nat} (h : w.heap[b]? = some (.cells cs t fr)) (v : Value) :
    (w.setCell ⟨b, o, none⟩ v).heap[b]? = some (.cells (cs.setIfInBounds o v) t fr) := by
  obtain ⟨hlt, hk⟩ := Array.getElem?_eq_some_iff.1 h
  show (w.heap.modify b _)[b]? = _
  rw [Array.getElem?_eq_getElem (by rw [Array.size_modify]; exact hlt), Array.getElem_modify_self, hk]
  simp
theorem heap_setCell_ne {w : World} {b o k : Nat} (hk : k ≠ b) (v : Value) : (w.setCell ⟨b, o, none⟩ v).heap[k]? = w.heap[k]? := by
  show (w.heap.modify b _)[k]? = _
  rw [Array.getElem?_modify]; simp [Ne.symm hk]
theorem HRel.set_dead {M : Mod} {B : Base} {h : Hp} {w : World} (H : HRel M B h w) (id : Nat) (hid : id < h.n) : HRel M B (h.set id .dead) w := by
  refine ⟨H.n, H.os, H.tape, H.output, H.size, H.old, ?_, H.okn, ?_, ?_⟩
  · intro i ob hg
    by_cases e : i = id
    · subst e; exact hid
    · rw [Hp.get_set_ne _ _ e] at hg; exact H.lt i ob hg
  · intro i ob hg hk
    by_cases e : i = id
    · subst e; rw [Hp.get_set_self] at hg; cases hg; trivial
    · rw [Hp.get_set_ne _ _ e] at hg; exact H.blk i ob hg hk
  · intro i j ob ob' hne hg hg' hk hk' hl hl' hr
    by_cases e : i = id
    · subst e; rw [Hp.get_set_self] at hg; cases hg; simp [Ob.live] at hl
    · rw [Hp.get_set_ne _ _ e] at hg
      by_cases e' : j = id
      · subst e'; rw [Hp.get_set_self] at hg'; cases hg'; simp [Ob.live] at hl'
      · rw [Hp.get_set_ne _ _ e'] at hg'
        exact H.sep i j ob ob' hne hg hg' hk hk' hl hl' hr
theorem HRel.store1 {M : Mod} {B : Base} {h : Hp} {w : World} (H : HRel M B h w) {id ty : Nat} (hok : M.ok id) {cells : List V} (hg : h.get id = some (.blk ty cells true)) {j : Nat} (_hj : j < cells.length)
    {v : V} {y : Value} (hv : VRel M v y) : HRel M B (h.set id (.blk ty (cells.set j v) true)) (w.setCell ⟨M.blk id, M.bas id + j, none⟩ y) := by
  obtain ⟨cs, fr, a1, a2, a3, a4, a5, a6, a7, a8⟩ := H.blk id _ hg hok
  obtain ⟨w1, w2⟩ := a6 rfl
  have hsz : (w.setCell ⟨M.blk id, M.bas id + j, none⟩ y).heap.size = w.heap.size := by
    show (w.heap.modify _ _).size = _
    rw [Array.size_modify]
  refine ⟨H.n, H.os, H.tape, H.output, by rw [hsz]; exact H.size, ?_, ?_, H.okn, ?_, ?_⟩
  · intro k hk hw
    rw [heap_setCell_ne (fun e => ?_) y]
    · exact H.old k hk hw
    · subst e; rcases w1 with w1 | w1
      · omega
      · exact hw w1
  · intro i ob hi
    by_cases e : i = id
    · subst e; exact H.lt i _ hg
    · rw [Hp.get_set_ne _ _ e] at hi; exact H.lt i ob hi
  · intro i ob hi hki
    by_cases e : i = id
    · subst e
      rw [Hp.get_set_self] at hi; cases hi
      refine ⟨_, fr, heap_setCell_self a1 y, by simpa using a2, a3, by simpa using a4, ?_, fun _ => ⟨w1, w2⟩, a7, fun h => by cases h⟩
      intro k x hx
      by_cases ek : k = j
      · subst ek
        have hk : k < cells.length := by assumption
        simp [hk] at hx; subst hx
        exact ⟨y, by rw [Array.getElem?_setIfInBounds_self_of_lt (by omega)], hv⟩
      · rw [List.getElem?_set_ne (Ne.symm ek)] at hx
        obtain ⟨z, hz, hzv⟩ := a5 k x hx
        exact ⟨z, by rw [Array.getElem?_setIfInBounds_ne (by omega)]; exact hz, hzv⟩
    · rw [Hp.get_set_ne _ _ e] at hi
      refine (H.blk i ob hi hki).mono (Mod.le0.refl M) hki fun hl => heap_setCell_ne ?_ y
      exact fun e2 => H.sep id i _ ob (Ne.symm e) hg hi hok hki rfl hl rfl e2.symm
  · intro i k ob ob' hne hi hk hki hkk hl hl' hr
    have hlive : ∀ {x ob}, (h.set id (.blk ty (cells.set j v) true)).get x = some ob → ∃ ob2, h.get x = some ob2 ∧ ob2.live = ob.live ∧ ob2.wr = ob.wr := by
      intro x ob hx
      by_cases e : x = id
      · subst e; rw [Hp.get_set_self] at hx; cases hx; exact ⟨_, hg, rfl, rfl⟩
      · rw [Hp.get_set_ne _ _ e] at hx; exact ⟨ob, hx, rfl, rfl⟩
    obtain ⟨o1, g1, l1, r1⟩ := hlive hi
    obtain ⟨o2, g2, l2, _⟩ := hlive hk
    exact H.sep i k o1 o2 hne g1 g2 hki hkk (l1.trans hl) (l2.trans hl') (r1.trans hr)
def setAll : List V → Nat → List V → List V
  | cells, _, [] => cells
  | cells, j, v :: r => setAll (cells.set j v) (j + 1) r
@[simp] theorem length_setAll : ∀ (vs : List V) (cells : List V) (j : Nat), (setAll cells j vs).length = cells.length
  | [], _, _ => rfl
  | v :: r, cells, j => by rw [setAll, length_setAll r]; simp
theorem oneCell_of_rel {M : Mod} : ∀ {x : V} {y : Value}, VRel M x y → (∀ l, x ≠ .agg l) → (∀ l, x ≠ .tup l) → y.oneCell' = true := by
  intro x y h h1 h2
  cases x <;> simp only [VRel] at h
  case agg l => exact absurd rfl (h1 l)
  case tup l => exact absurd rfl (h2 l)
  case p => obtain ⟨_, rfl⟩ := h; rfl
  case sl => obtain ⟨_, c, rfl, _⟩ := h; rfl
  case se => obtain ⟨_, _, c, rfl, _⟩ := h; rfl
  case m => obtain ⟨_, rfl⟩ := h; rfl
  case y => obtain ⟨_, rfl⟩ := h; rfl
  case f => obtain ⟨_, _, rfl, _⟩ := h; rfl
  case ifc => obtain ⟨_, rfl, _⟩ := h; rfl
  case jk => obtain ⟨_, _, rfl⟩ := h; rfl
  case pq => obtain ⟨_, rfl⟩ := h; rfl
  all_goals (subst h; rfl)
def V.one : V → Bool
  | .agg _ => false
  | .tup _ => false
  | _ => true
theorem VRel.one {M : Mod} {x : V} {y : Value} (h : VRel M x y) (hx : x.one = true) : y.oneCell' = true :=
  oneCell_of_rel h (fun l e => by subst e; simp [V.one] at hx) (fun l e => by subst e; simp [V.one] at hx)
theorem HRel.stores {P : Program} {B : Base} {M : Mod} {id ty : Nat} (hok : M.ok id) : ∀ (vs : List V) (ys : List Value) (cells : List V) (j i : Nat) (h : Hp) (w : World), HRel M B h w → h.get id = some (.blk ty cells true) → j + i + vs.length ≤ cells.length →
    VRels M vs ys → vs.all V.one = true → ∃ w', (storeCells ⟨M.blk id, M.bas id + j, none⟩ ys i).run P w = .ok () w' ∧ ∃ h', HRel M B h' w' ∧ h'.n = h.n ∧ h'.get id = some (.blk ty (setAll cells (j + i) vs) true) ∧ ∀ x, x ≠ id → h'.get x = h.get x
  | [], ys, cells, j, i, h, w, H, hg, hl, hv, _ => by
    have : ys = [] := by cases ys with
      | nil => rfl
      | cons => simp [VRels] at hv
    subst this
    exact ⟨w, rfl, h, H, rfl, hg, fun _ _ => rfl⟩
  | v :: vs, ys, cells, j, i, h, w, H, hg, hl, hv, h1 => by
    cases ys with
    | nil => simp [VRels] at hv
    | cons y ys =>
      simp only [VRels] at hv
      simp only [List.length_cons] at hl
      simp only [List.all_cons, Bool.and_eq_true] at h1
      have hj : j + i < cells.length := by omega
      obtain ⟨cs, fr, a1, a2, a3, a4, a5, a6, a7, a8⟩ := H.blk id _ hg hok
      obtain ⟨w1, w2⟩ := a6 rfl
      have hcell : w.cell? ⟨M.blk id, M.bas id + (j + i), none⟩ = some (cs[M.bas id + (j + i)]'(by omega)) := by
        rw [cell_of_row w _ _ cs _ fr a1]; simp
      have hfz : w.frozen? ⟨M.blk id, M.bas id + (j + i), none⟩ = false := by
        simp only [World.frozen?, a1]
        have := w2 (M.bas id + (j + i)) (by omega)
        simp; intro hx; omega
      have hadd : (⟨M.blk id, M.bas id + j, none⟩ : Addr).add i = ⟨M.blk id, M.bas id + (j + i), none⟩ := by
        unfold Addr.add; split <;> simp_all; omega
      have hst : (store ((⟨M.blk id, M.bas id + j, none⟩ : Addr).add i) y).run P w = .ok () (w.setCell ⟨M.blk id, M.bas id + (j + i), none⟩ y) := by
        rw [hadd, run_store P w _ y _ (hv.1.one h1.1), hcell, hfz]; rfl
      have H' := H.store1 hok hg hj hv.1
      obtain ⟨w', r1, h', H2, n2, g2, o2⟩ := HRel.stores (P := P) hok vs ys (cells.set (j + i) v) j (i + 1) _ _ H' (Hp.get_set_self _ _ _) (by rw [List.length_set]; omega) hv.2 h1.2
      refine ⟨w', ?_, h', H2, n2, ?_, fun x hx => (o2 x hx).trans (Hp.get_set_ne _ _ hx)⟩
      · simp only [storeCells, Sem.run_bind, hst, Result.andThen_ok, r1]
      · rw [g2]; rfl
end Go.Mx

namespace Go.Mx
def cv : Value → Option V
  | .bool t => some (.b t)
  | .int k n => some (.i k n)
  | .string s => some (.s s.data.toList)
  | .pointer none => some .nilp
  | .slice none 0 0 => some .nils
  | .map none => some .nilm
  | .nilFunc => some .nilf
  | .nilIface => some .nili
  | .func fn ⟨[]⟩ ⟨[]⟩ => some (.f fn [] [])
  | _ => none
theorem cv_rel {M : Mod} {v : Value} {x : V} (h : cv v = some x) : VRel M x v := by
  unfold cv at h
  split at h <;> first | (cases h; simp [VRel]; done) | (cases h; exact ⟨_, _, rfl, by simp [VRels], by simp [VRels]⟩) | (cases h; done)
def cvs : List Value → Option (List V)
  | [] => some []
  | v :: r => match cv v, cvs r with
    | some x, some xs => some (x :: xs)
    | _, _ => none
theorem cvs_rel {M : Mod} : ∀ {vs : List Value} {xs : List V}, cvs vs = some xs → VRels M xs vs
  | [], xs, h => by simp [cvs] at h; subst h; simp [VRels]
  | v :: r, xs, h => by
    simp only [cvs] at h
    split at h
    · rename_i x ys h1 h2
      cases h
      simp only [VRels]
      exact ⟨cv_rel h1, cvs_rel h2⟩
    · cases h
def cval : Value → Option V
  | .agg cs => (cvs cs.toList).map .agg
  | .tuple cs => (cvs cs.toList).map .tup
  | v => cv v
theorem cval_rel {M : Mod} {v : Value} {x : V} (h : cval v = some x) : VRel M x v := by
  unfold cval at h
  split at h
  · rename_i cs
    cases hc : cvs cs.toList with
    | none => simp [hc] at h
    | some xs => simp [hc] at h; subst h; simp only [VRel]; exact ⟨_, rfl, cvs_rel hc⟩
  · rename_i cs
    cases hc : cvs cs.toList with
    | none => simp [hc] at h
    | some xs => simp [hc] at h; subst h; simp only [VRel]; exact ⟨_, rfl, cvs_rel hc⟩
  · exact cv_rel h
structure TI where
  d : TypeDesc
  size : Nat
  bytes : Nat
  zv : V
  agg : Bool
  plain : Bool
  cmp : Bool
def V.cells : V → List V
  | .agg l => l
  | v => [v]
theorem VRel.cells {M : Mod} {x : V} {y : Value} (h : VRel M x y) : VRels M x.cells y.cells.toList := by
  cases x <;> simp only [VRel] at h
  case agg l => obtain ⟨cs, rfl, h⟩ := h; exact h
  case p => obtain ⟨hb, rfl⟩ := h; simp [V.cells, Value.cells, VRels, VRel, hb]
  case sl => obtain ⟨hb, c, rfl, hc⟩ := h; simp [V.cells, Value.cells, VRels, VRel, hb, hc]
  case se => obtain ⟨hb, o, c, rfl, hc⟩ := h; simp only [V.cells, Value.cells, VRels, VRel]; exact ⟨⟨hb, o, c, rfl, hc⟩, trivial⟩
  case m => obtain ⟨hb, rfl⟩ := h; simp [V.cells, Value.cells, VRels, VRel, hb]
  case y => obtain ⟨hb, rfl⟩ := h; simp [V.cells, Value.cells, VRels, VRel, hb]
  case f => obtain ⟨fs, cs, rfl, h1, h2⟩ := h; simp only [V.cells, Value.cells, VRels, VRel]; exact ⟨⟨fs, cs, rfl, h1, h2⟩, trivial⟩
  case ifc => obtain ⟨z, rfl, h1⟩ := h; simp [V.cells, Value.cells, VRels, VRel, h1]
  case tup => obtain ⟨z, rfl, h1⟩ := h; simp [V.cells, Value.cells, VRels, VRel, h1]
  case jk => obtain ⟨n, hn, rfl⟩ := h; simp only [V.cells, Value.cells, VRels, VRel]; exact ⟨⟨n, hn, rfl⟩, trivial⟩
  case pq => obtain ⟨q, rfl⟩ := h; simp only [V.cells, Value.cells, VRels, VRel]; exact ⟨⟨q, rfl⟩, trivial⟩
  all_goals (subst h; simp [V.cells, Value.cells, VRels, VRel])
def TI.zero (ti : TI) : List V := ti.zv.cells
def descAgg : TypeDesc → Bool
  | .struct _ => true
  | .array _ _ => true
  | _ => false
def tiOf (P : Program) (t : Nat) : Option TI :=
  match P.info? t, P.underlying t with
  | some i, some d => match i.zero with
    | some z => match cval z with
      | some zv => some ⟨d, i.size, i.bytes, zv, descAgg d, !P.stoodInHeld t && !P.eqGuardType P.depth t, i.comparable⟩
      | none => none
    | none => none
  | _, _ => none
def TbOk (P : Program) (tb : Nat → Option TI) : Prop := ∀ t ti, tb t = some ti → tiOf P t = some ti
structure TIs (P : Program) (t : Nat) (ti : TI) : Prop where
  und : P.underlying t = some ti.d
  info : ∃ i z, P.info? t = some i ∧ i.size = ti.size ∧ i.bytes = ti.bytes ∧ i.zero = some z ∧ (∀ M, VRel M ti.zv z) ∧ i.comparable = ti.cmp
  agg : ti.agg = descAgg ti.d
  plain : ti.plain = true → P.stoodInHeld t = false ∧ P.eqGuardType P.depth t = false
theorem tiOf_is {P : Program} {t : Nat} {ti : TI} (h : tiOf P t = some ti) : TIs P t ti := by
  unfold tiOf at h
  split at h
  · rename_i i d h1 h2
    split at h
    · rename_i z h3
      split at h
      · rename_i zv h4
        cases h
        refine ⟨h2, ⟨i, z, h1, rfl, rfl, h3, fun M => cval_rel h4, rfl⟩, rfl, fun hp => ?_⟩
        simpa using hp
      · cases h
    · cases h
  · cases h
theorem TbOk.is {P : Program} {tb : Nat → Option TI} (h : TbOk P tb) {t : Nat} {ti : TI} (ht : tb t = some ti) : TIs P t ti := tiOf_is (h t ti ht)
theorem TIs.size {P : Program} {t : Nat} {ti : TI} (h : TIs P t ti) (w : World) : (sizeOf t).run P w = .ok ti.size w := by
  obtain ⟨i, z, h1, h2, _⟩ := h.info
  simp [sizeOf, typeInfo, h1, h2]
theorem TIs.runInfo {P : Program} {t : Nat} {ti : TI} (h : TIs P t ti) : ∃ i z, (∀ w, (typeInfo t).run P w = .ok i w) ∧ i.size = ti.size ∧ i.bytes = ti.bytes ∧ i.zero = some z ∧ (∀ M, VRel M ti.zv z) ∧ i.comparable = ti.cmp := by
  obtain ⟨i, z, h1, h2⟩ := h.info
  exact ⟨i, z, fun w => by simp [typeInfo, h1], h2⟩
theorem TIs.runUnd {P : Program} {t : Nat} {ti : TI} (h : TIs P t ti) (w : World) : (underlying t).run P w = .ok ti.d w := run_underlying h.und w
theorem TIs.runAgg {P : Program} {t : Nat} {ti : TI} (h : TIs P t ti) (w : World) : (isAgg t).run P w = .ok ti.agg w := by
  unfold isAgg
  rw [Sem.run_bind, h.runUnd w, h.agg]
  cases ti.d <;> rfl
theorem TIs.zero {P : Program} {t : Nat} {ti : TI} (h : TIs P t ti) : ∃ z, (∀ w, (zeroValue t).run P w = .ok z w) ∧ ∀ M, VRel M ti.zv z := by
  obtain ⟨i, z, h1, _, _, h3, h4, _⟩ := h.info
  exact ⟨z, fun w => by simp [zeroValue, typeInfo, h1, h3], h4⟩
def partV (ti : TI) (cs : List V) (off : Nat) : Option V :=
  if ti.agg then (if off + ti.size ≤ cs.length then some (.agg ((cs.drop off).take ti.size)) else none) else cs[off]?
theorem VRels.drop {M : Mod} : ∀ (n : Nat) {xs : List V} {ys : List Value}, VRels M xs ys → VRels M (xs.drop n) (ys.drop n)
  | 0, _, _, h => by simpa using h
  | n + 1, [], [], _ => by simp [VRels]
  | n + 1, _ :: xs, _ :: ys, h => by simp only [VRels] at h; simpa using VRels.drop n h.2
  | _ + 1, [], _ :: _, h => by simp [VRels] at h
  | _ + 1, _ :: _, [], h => by simp [VRels] at h
theorem VRels.take {M : Mod} : ∀ (n : Nat) {xs : List V} {ys : List Value}, VRels M xs ys → VRels M (xs.take n) (ys.take n)
  | 0, _, _, _ => by simp [VRels]
  | n + 1, [], [], _ => by simp [VRels]
  | n + 1, _ :: xs, _ :: ys, h => by
    simp only [VRels] at h
    simp only [List.take_succ_cons, VRels]
    exact ⟨h.1, VRels.take n h.2⟩
  | _ + 1, [], _ :: _, h => by simp [VRels] at h
  | _ + 1, _ :: _, [], h => by simp [VRels] at h
theorem run_part {P : Program} {M : Mod} {t : Nat} {ti : TI} (ht : TIs P t ti) {xs : List V} {cs : Array Value} (h : VRels M xs cs.toList) {off : Nat} {v : V} (hp : partV ti xs off = some v) (w : World) :
    ∃ y, (part t cs off).run P w = .ok y w ∧ VRel M v y := by
  unfold partV at hp
  unfold part
  rw [Sem.run_bind, ht.runAgg w]
  split at hp
  · rename_i ha
    rw [ha]
    split at hp
    · cases hp
      refine ⟨.agg (cs.extract off (off + ti.size)), by simp [ht.size w], ?_⟩
      simp only [VRel]
      refine ⟨_, rfl, ?_⟩
      have : (cs.extract off (off + ti.size)).toList = (cs.toList.drop off).take ti.size := by
        simp [List.take_drop]
      rw [this]
      exact (h.drop off).take ti.size
    · cases hp
  · rename_i ha
    rw [Bool.eq_false_iff.2 ha]
    obtain ⟨y, hy, hv⟩ := h.get hp
    refine ⟨y, ?_, hv⟩
    have : cs[off]? = some y := by simpa using hy
    simp [this]
def eqIn (tb : Nat → Option TI) : Nat → Nat → V → V → Option Bool
  | 0, _, _, _ => none
  | d + 1, t, x, y =>
    match tb t with
    | none => none
    | some ti =>
      match ti.d with
      | .bool => match x, y with
        | .b a, .b c => some (a == c)
        | _, _ => none
      | .int _ => match x, y with
        | .i k a, .i k' c => if k = k' then some (a == c) else none
        | _, _ => none
      | .string => match x, y with
        | .s a, .s c => some (a == c)
        | _, _ => none
      | .pointer e => match x, y with
        | .nilp, .nilp => some true
        | .nilp, .p _ _ => some false
        | .p _ _, .nilp => some false
        | .p a o, .p c q => (match tb e with
          | some te => if a = c ∧ te.size ≠ 0 then some (o == q) else none
          | none => none)
        | _, _ => none
      | .slice _ => match x, y with
        | .nils, .nils => some true
        | .nils, .sl .. => some false
        | .sl .., .nils => some false
        | .nils, .se .. => some false
        | .se .., .nils => some false
        | _, _ => none
      | .map _ _ => match x, y with
        | .nilm, .nilm => some true
        | .nilm, .m _ => some false
        | .m _, .nilm => some false
        | _, _ => none
      | .func _ _ _ => match x, y with
        | .nilf, .nilf => some true
        | .nilf, .f .. => some false
        | .f .., .nilf => some false
        | _, _ => none
      | .interface _ => match x, y with
        | .nili, .nili => some true
        | .nili, .ifc _ _ => some false
        | .ifc _ _, .nili => some false
        | .ifc a u, .ifc c v => if a = c then (match tb a with
            | some ta => if ta.cmp then eqIn tb d a u v else none
            | none => none) else some false
        | _, _ => none
      | .struct fs => if ti.plain then (match x, y with
          | .agg xs, .agg ys => eqFs fs.toList xs ys (fun t => eqIn tb d t)
          | _, _ => none) else none
      | .array n e => (match tb e with
          | none => none
          | some te => (match x, y with
            | .agg xs, .agg ys => eqAs te xs ys (eqIn tb d e) (List.range n)
            | _, _ => none))
      | _ => none
where
  eqAs (te : TI) (xs ys : List V) (f : V → V → Option Bool) : List Nat → Option Bool
    | [] => some true
    | i :: is => match partV te xs (i * te.size), partV te ys (i * te.size) with
      | some a, some c => (match f a c with
        | some true => eqAs te xs ys f is
        | some false => some false
        | none => none)
      | _, _ => none
  eqFs : List Field → List V → List V → (Nat → V → V → Option Bool) → Option Bool
    | [], _, _, _ => some true
    | f :: fs, xs, ys, e =>
      if f.name = "_" then eqFs fs xs ys e else
      match tb f.type with
      | none => none
      | some ti =>
        match partV ti xs f.offset, partV ti ys f.offset with
        | some a, some c => match e f.type a c with
          | some true => eqFs fs xs ys e
          | some false => some false
          | none => none
        | _, _ => none
theorem addr_beq (b c o q : Nat) : ((⟨b, c + o, none⟩ : Addr) == ⟨b, c + q, none⟩) = (o == q) := by
  rw [Bool.eq_iff_iff]
  simp
set_option maxHeartbeats 1000000 in
theorem run_equalIn_of {P : Program} {tb : Nat → Option TI} (hT : TbOk P tb) {M : Mod} : ∀ (d t D : Nat) (x y : V) (X Y : Value) (r : Bool), eqIn tb d t x y = some r → VRel M x X → VRel M y Y →
    ∀ w, (Op.equalIn (d + D) t X Y).run P w = .ok r w := by
  intro d
  induction d with
  | zero => intro t D x y X Y r h; simp [eqIn] at h
  | succ d ih =>
    intro t D x y X Y r h hx hy w
    unfold eqIn at h
    split at h
    · cases h
    rename_i ti ht
    have hti := hT.is ht
    have hu := hti.und
    have he : d + 1 + D = (d + D) + 1 := by omega
    rw [he]
    split at h <;> (try (rename_i hd; rw [hd] at hu))
    · split at h <;> first | (cases h; done) | skip
      simp only [VRel] at hx hy; subst hx; subst hy; cases h
      exact run_equalIn_bool w _ t _ _ hu
    · split at h <;> first | (cases h; done) | skip
      simp only [VRel] at hx hy; subst hx; subst hy
      split at h
      · rename_i k a k' c hk; subst hk; cases h
        simp [Op.equalIn, run_underlying hu]
      · cases h
    · split at h <;> first | (cases h; done) | skip
      simp only [VRel] at hx hy; subst hx; subst hy; cases h
      rw [run_equalIn_string w _ t _ _ hu]
      simp [ByteArray.toList_eq]
    · split at h <;> first | (cases h; done) | skip
      all_goals simp only [VRel] at hx hy
      all_goals first
        | (subst hx; subst hy; cases h; simp [Op.equalIn, run_underlying hu]; done)
        | (obtain ⟨_, rfl⟩ := hx; subst hy; cases h; simp [Op.equalIn, run_underlying hu]; done)
        | (obtain ⟨_, rfl⟩ := hy; subst hx; cases h; simp [Op.equalIn, run_underlying hu]; done)
        | (obtain ⟨_, rfl⟩ := hx; obtain ⟨_, rfl⟩ := hy; split at h <;> first | (cases h; done) | skip
           rename_i te hte; split at h <;> first | (cases h; done) | skip
           rename_i hac; obtain ⟨hac, hsz⟩ := hac; subst hac; cases h; simp [Op.equalIn, run_underlying hu, samePointer, sameAddr, addr_beq, (hT.is hte).size, hsz]; done)
    · split at h <;> first | (cases h; done) | skip
      all_goals simp only [VRel] at hx hy
      all_goals first
        | (subst hx; subst hy; cases h; simp [Op.equalIn, run_underlying hu]; done)
        | (obtain ⟨_, _, rfl, _⟩ := hx; subst hy; cases h; simp [Op.equalIn, run_underlying hu]; done)
        | (obtain ⟨_, _, rfl, _⟩ := hy; subst hx; cases h; simp [Op.equalIn, run_underlying hu]; done)
        | (obtain ⟨_, _, _, rfl, _⟩ := hx; subst hy; cases h; simp [Op.equalIn, run_underlying hu]; done)
        | (obtain ⟨_, _, _, rfl, _⟩ := hy; subst hx; cases h; simp [Op.equalIn, run_underlying hu]; done)
    · split at h <;> first | (cases h; done) | skip
      all_goals simp only [VRel] at hx hy
      all_goals first
        | (subst hx; subst hy; cases h; simp [Op.equalIn, run_underlying hu]; done)
        | (obtain ⟨_, rfl⟩ := hx; subst hy; cases h; simp [Op.equalIn, run_underlying hu]; done)
        | (obtain ⟨_, rfl⟩ := hy; subst hx; cases h; simp [Op.equalIn, run_underlying hu]; done)
    · split at h <;> first | (cases h; done) | skip
      all_goals simp only [VRel] at hx hy
      all_goals first
        | (subst hx; subst hy; cases h; simp [Op.equalIn, run_underlying hu]; done)
        | (obtain ⟨_, _, rfl, _⟩ := hx; subst hy; cases h; simp [Op.equalIn, run_underlying hu]; done)
        | (obtain ⟨_, _, rfl, _⟩ := hy; subst hx; cases h; simp [Op.equalIn, run_underlying hu]; done)
        | (obtain ⟨_, _, _, rfl, _⟩ := hx; subst hy; cases h; simp [Op.equalIn, run_underlying hu]; done)
        | (obtain ⟨_, _, _, rfl, _⟩ := hy; subst hx; cases h; simp [Op.equalIn, run_underlying hu]; done)
    · split at h <;> first | (cases h; done) | skip
      · simp only [VRel] at hx hy; subst hx; subst hy; cases h; simp [Op.equalIn, run_underlying hu]
      · simp only [VRel] at hx hy; obtain ⟨_, rfl, _⟩ := hy; subst hx; cases h; simp [Op.equalIn, run_underlying hu]
      · simp only [VRel] at hx hy; obtain ⟨_, rfl, _⟩ := hx; subst hy; cases h; simp [Op.equalIn, run_underlying hu]
      · rename_i a u c v
        simp only [VRel] at hx hy
        obtain ⟨X', rfl, hx⟩ := hx
        obtain ⟨Y', rfl, hy⟩ := hy
        split at h
        · rename_i hac; subst hac
          split at h
          · rename_i ta hta
            split at h
            · rename_i hcm
              obtain ⟨i, z, r1, _, _, _, _, r2⟩ := (hT.is hta).runInfo
              have := ih a D u v X' Y' r h hx hy w
              simp [Op.equalIn, run_underlying hu, r1, r2, hcm, this]
            · cases h
          · cases h
        · rename_i hac; cases h
          simp [Op.equalIn, run_underlying hu, hac]
    · split at h
      · rename_i hpl
        split at h <;> first | (cases h; done) | skip
        rename_i _ fs _ _ xs ys
        simp only [VRel] at hx hy
        obtain ⟨XS, rfl, hx⟩ := hx
        obtain ⟨YS, rfl, hy⟩ := hy
        have hf : P.fieldsOf t = fs := by unfold Program.fieldsOf; rw [hu]
        rw [run_equalIn_struct w (d + D) t XS YS (by rw [hf]; exact hu) (hti.plain hpl).1, hf]
        clear hu hf hd
        generalize fs.toList = l at h ⊢
        induction l generalizing r with
        | nil => simp [eqIn.eqFs] at h; subst h; simp [Op.eqFields]
        | cons f l ihl =>
          simp only [eqIn.eqFs] at h
          split at h
          · rename_i hn
            have := ihl r h
            simp [Op.eqFields, hn, this]
          · rename_i hn
            split at h
            · cases h
            · rename_i tf htf
              split at h <;> first | (cases h; done) | skip
              rename_i a c ha hc
              obtain ⟨A, ra, va⟩ := run_part (hT.is htf) hx ha w
              obtain ⟨C, rc, vc⟩ := run_part (hT.is htf) hy hc w
              split at h <;> first | (cases h; done) | skip
              · rename_i he2
                have e1 := ih f.type D a c A C true he2 va vc w
                have := ihl r h
                simp [Op.eqFields, hn, ra, rc, e1, this]
              · rename_i he2
                have e1 := ih f.type D a c A C false he2 va vc w
                cases h
                simp [Op.eqFields, hn, ra, rc, e1]
      · cases h
    · split at h
      · cases h
      rename_i te hte
      split at h <;> first | (cases h; done) | skip
      rename_i n e hd _ _ xs ys
      simp only [VRel] at hx hy
      obtain ⟨XS, rfl, hx⟩ := hx
      obtain ⟨YS, rfl, hy⟩ := hy
      obtain ⟨i, z, hi, hsz, _⟩ := (hT.is hte).info
      rw [run_equalIn_array w (d + D) XS YS hu hi]
      have hc : P.cellsOf e = te.size := by simp [Program.cellsOf, hi, hsz]
      rw [hc]
      clear hu hd
      generalize List.range n = l at h ⊢
      induction l generalizing r with
      | nil => simp [eqIn.eqAs] at h; subst h; simp [Op.eqItems]
      | cons k l ihl =>
        simp only [eqIn.eqAs] at h
        split at h <;> first | (cases h; done) | skip
        rename_i a c ha hc2
        obtain ⟨A, ra, va⟩ := run_part (hT.is hte) hx ha w
        obtain ⟨C, rc, vc⟩ := run_part (hT.is hte) hy hc2 w
        split at h <;> first | (cases h; done) | skip
        · rename_i he2
          have e1 := ih e D a c A C true he2 va vc w
          have := ihl r h
          simp [Op.eqItems, ra, rc, e1, this]
        · rename_i he2
          have e1 := ih e D a c A C false he2 va vc w
          cases h
          simp [Op.eqItems, ra, rc, e1]
    · cases h
end Go.Mx

namespace Go.Mx
def isC : Operand → Bool
  | .const _ => true
  | _ => false
def arithA (op : BinOp) (k : IntKind) (a c : Int) : Option V :=
  match op with
  | .add => some (.i k (k.wrap (a + c)))
  | .sub => some (.i k (k.wrap (a - c)))
  | .mul => some (.i k (k.wrap (a * c)))
  | .quo => if c = 0 then none else some (.i k (k.wrap (a.tdiv c)))
  | .rem => if c = 0 then none else some (.i k (a.tmod c))
  | .and => some (.i k (k.wrap (BitVec.ofInt k.bits a &&& BitVec.ofInt k.bits c).toNat))
  | .or => some (.i k (k.wrap (BitVec.ofInt k.bits a ||| BitVec.ofInt k.bits c).toNat))
  | .xor => some (.i k (k.wrap (BitVec.ofInt k.bits a ^^^ BitVec.ofInt k.bits c).toNat))
  | .andNot => some (.i k (k.wrap (BitVec.ofInt k.bits a &&& ~~~ BitVec.ofInt k.bits c).toNat))
  | .eql => some (.b (a == c))
  | .neq => some (.b (a != c))
  | .lss => some (.b (decide (a < c)))
  | .leq => some (.b (decide (a ≤ c)))
  | .gtr => some (.b (decide (c < a)))
  | .geq => some (.b (decide (c ≤ a)))
  | _ => none
def shiftA (op : BinOp) (k : IntKind) (a c : Int) : Option V :=
  if c < 0 then none else
  match op with
  | .shl => some (.i k (k.wrap (a * 2 ^ (min c.toNat k.bits))))
  | .shr => some (.i k (a.fdiv (2 ^ (min c.toNat k.bits))))
  | _ => none
def strA (op : BinOp) (a c : List UInt8) : Option V :=
  match op with
  | .add => if a.length + c.length ≤ 9223372036854775807 then some (.s (a ++ c)) else none
  | .eql => some (.b (a == c))
  | .neq => some (.b (!(a == c)))
  | .lss => some (.b (Op.bytesLess a c))
  | .leq => some (.b (Op.bytesLess a c || a == c))
  | .gtr => some (.b (!(Op.bytesLess a c || a == c)))
  | .geq => some (.b (!Op.bytesLess a c))
  | _ => none
def eqA (tb : Nat → Option TI) (cst : Bool) (t : Nat) (x y : V) : Option Bool :=
  match x, y with
  | .nili, .nili => if cst then eqIn tb 20 t .nili .nili else none
  | .agg xs, .agg ys => match tb t with
    | some ti => if ti.plain then eqIn tb 20 t (.agg xs) (.agg ys) else none
    | none => none
  | x, y => eqIn tb 20 t x y
def binA (tb : Nat → Option TI) (cst : Bool) (op : BinOp) (t : Nat) (x y : V) : Option V :=
  match x, y with
  | .i k a, .i k' c => match op with
    | .shl => shiftA .shl k a c
    | .shr => shiftA .shr k a c
    | op => if k = k' then arithA op k a c else none
  | .s a, .s c => strA op a c
  | .jk, _ => none
  | _, .jk => none
  | x, y => match op with
    | .eql => (eqA tb cst t x y).map .b
    | .neq => (eqA tb cst t x y).map fun r => .b (!r)
    | _ => none
theorem run_arith {op : BinOp} {k : IntKind} {a c : Int} {v : V} (h : arithA op k a c = some v) (P : Program) (w : World) (M : Mod) (t : Nat) (hs : op ≠ .shl) (hr : op ≠ .shr) :
    ∃ y, (binOp op t (.int k a) (.int k c)).run P w = .ok y w ∧ VRel M v y := by
  cases op <;> simp only [arithA] at h <;> first | (cases h; done) | (exact absurd rfl hs) | (exact absurd rfl hr) | skip
  case quo => split at h <;> first | (cases h; done) | (cases h; rename_i hc; exact ⟨_, by simp [binOp, Op.intDiv, hc]; rfl, by simp [VRel]⟩)
  case rem => split at h <;> first | (cases h; done) | (cases h; rename_i hc; exact ⟨_, by simp [binOp, Op.intDiv, hc]; rfl, by simp [VRel]⟩)
  case and | or | xor | andNot => cases h; exact ⟨_, by simp [binOp, Op.intBits]; rfl, by simp [VRel]⟩
  all_goals (cases h; exact ⟨_, by simp [binOp, Op.intArith, Op.intCmp]; rfl, by simp [VRel]⟩)
theorem run_shift {op : BinOp} {k yk : IntKind} {a c : Int} {v : V} (h : shiftA op k a c = some v) (P : Program) (w : World) (M : Mod) (t : Nat) :
    ∃ y, (binOp op t (.int k a) (.int yk c)).run P w = .ok y w ∧ VRel M v y := by
  unfold shiftA at h
  split at h
  · cases h
  · rename_i hc
    split at h <;> first | (cases h; done) | skip
    all_goals (cases h; exact ⟨_, by simp [binOp, Op.shift, hc]; rfl, by simp [VRel]⟩)
theorem run_strA {op : BinOp} {a c : List UInt8} {v : V} (h : strA op a c = some v) (P : Program) (w : World) (M : Mod) (t : Nat) :
    ∃ y, (binOp op t (.string ⟨a.toArray⟩) (.string ⟨c.toArray⟩)).run P w = .ok y w ∧ VRel M v y := by
  cases op <;> simp only [strA] at h <;> first | (cases h; done) | skip
  case add =>
    split at h <;> first | (cases h; done) | skip
    rename_i hl
    cases h
    have hsz : ((((⟨a.toArray⟩ : ByteArray).size + (⟨c.toArray⟩ : ByteArray).size : Nat) : Int) > IntKind.i64.max) = False := by
      have e1 : (⟨a.toArray⟩ : ByteArray).size = a.length := by simp [ByteArray.size]
      have e2 : (⟨c.toArray⟩ : ByteArray).size = c.length := by simp [ByteArray.size]
      have e3 : IntKind.i64.max = 9223372036854775807 := by decide
      rw [e1, e2, e3]; simp; omega
    refine ⟨.string (⟨a.toArray⟩ ++ ⟨c.toArray⟩), by simp only [binOp, Op.stringOp, hsz, if_false]; simp, ?_⟩
    simp only [VRel]
    refine congrArg Value.string ?_
    apply ByteArray.ext
    simp
  all_goals (cases h; exact ⟨_, by simp [binOp, Op.stringOp]; rfl, by simp [VRel]⟩)
theorem run_eqA {P : Program} {tb : Nat → Option TI} (hT : TbOk P tb) {M : Mod} {t : Nat} {x y : V} {X Y : Value} {cst : Bool} {r : Bool} {p q : Operand} (hc : cst = true → isC p = true ∨ isC q = true)
    (h : eqA tb cst t x y = some r) (hx : VRel M x X) (hy : VRel M y Y) (op : BinOp) (w : World) :
    (eqGuard op t p q X Y).run P w = .ok () w ∧ (Op.equal t X Y).run P w = .ok r w := by
  have key : ∀ x y, eqIn tb 20 t x y = some r → VRel M x X → VRel M y Y → (Op.equal t X Y).run P w = .ok r w := fun x y h hx hy =>
    run_equalIn_of hT 20 t 9980 x y X Y r h hx hy w
  unfold eqA at h
  split at h
  · split at h
    · rename_i hcst
      refine ⟨?_, key _ _ h hx hy⟩
      simp only [VRel] at hx hy; subst hx; subst hy
      rcases hc hcst with h1 | h1
      · cases p <;> simp [isC] at h1
        cases op <;> simp [eqGuard]
      · cases q <;> simp [isC] at h1
        cases op <;> simp [eqGuard]
    · cases h
  · split at h
    · rename_i ti ht
      split at h
      · rename_i hpl
        refine ⟨?_, key _ _ h hx hy⟩
        simp only [VRel] at hx hy
        obtain ⟨_, rfl, _⟩ := hx
        obtain ⟨_, rfl, _⟩ := hy
        have := ((hT.is ht).plain hpl).2
        cases op <;> simp [eqGuard, this]
      · cases h
    · cases h
  · rename_i h1 h2
    refine ⟨?_, key _ _ h hx hy⟩
    have hnn : ¬ (X = .nilIface ∧ Y = .nilIface) := by
      rintro ⟨rfl, rfl⟩
      cases x <;> simp [VRel] at hx
      cases y <;> simp [VRel] at hy
      exact h1 rfl rfl
    have haa : ¬ ((∃ a, X = .agg a) ∧ (∃ a, Y = .agg a)) := by
      rintro ⟨⟨a, rfl⟩, ⟨c, rfl⟩⟩
      cases x <;> simp [VRel] at hx
      cases y <;> simp [VRel] at hy
      exact h2 _ _ rfl rfl
    unfold eqGuard
    cases X <;> cases Y <;> first | (exact absurd ⟨rfl, rfl⟩ hnn) | (exact absurd ⟨⟨_, rfl⟩, ⟨_, rfl⟩⟩ haa) | (cases op <;> simp)
theorem run_binA {P : Program} {tb : Nat → Option TI} (hT : TbOk P tb) {M : Mod} {cst : Bool} {op : BinOp} {t : Nat} {x y v : V} {X Y : Value} {p q : Operand} (hc : cst = true → isC p = true ∨ isC q = true)
    (h : binA tb cst op t x y = some v) (hx : VRel M x X) (hy : VRel M y Y) (w : World) :
    ∃ z, (do eqGuard op t p q X Y; binOp op t X Y : Sem Value).run P w = .ok z w ∧ VRel M v z := by
  unfold binA at h
  split at h
  · rename_i k a k' c
    simp only [VRel] at hx hy; subst hx; subst hy
    have hg : (eqGuard op t p q (.int k a) (.int k' c)).run P w = .ok () w := by cases op <;> simp [eqGuard]
    split at h
    · obtain ⟨z, hz, hv⟩ := run_shift (yk := k') h P w M t
      exact ⟨z, by simp [hg, hz], hv⟩
    · obtain ⟨z, hz, hv⟩ := run_shift (yk := k') h P w M t
      exact ⟨z, by simp [hg, hz], hv⟩
    · rename_i h1 h2
      split at h
      · rename_i hk; subst hk
        obtain ⟨z, hz, hv⟩ := run_arith h P w M t (fun e => h1 e) (fun e => h2 e)
        exact ⟨z, by simp [hg, hz], hv⟩
      · cases h
  · rename_i a c
    simp only [VRel] at hx hy; subst hx; subst hy
    have hg : (eqGuard op t p q (.string ⟨a.toArray⟩) (.string ⟨c.toArray⟩)).run P w = .ok () w := by cases op <;> simp [eqGuard]
    obtain ⟨z, hz, hv⟩ := run_strA h P w M t
    exact ⟨z, by simp [hg, hz], hv⟩
  · cases h
  · cases h
  · rename_i h3 h4 h1 h2
    have hnf : ∀ {k : FloatKind} {a : Nat}, X ≠ .float k a := by
      rintro k a rfl; cases x <;> simp [VRel] at hx
    have hnc : ∀ {k : FloatKind} {a c : Nat}, X ≠ .complex k a c := by
      rintro k a c rfl; cases x <;> simp [VRel] at hx
    have i1 : ∀ k a k' c, ¬ (X = .int k a ∧ Y = .int k' c) := by
      rintro k a k' c ⟨rfl, rfl⟩
      cases x <;> simp [VRel] at hx
      case jk => first | exact h1 rfl | exact h2 rfl | exact h3 rfl | exact h4 rfl
      cases y <;> simp [VRel] at hy
      case jk => first | exact h1 rfl | exact h2 rfl | exact h3 rfl | exact h4 rfl
      exact h1 _ _ _ _ rfl rfl
    have i2 : ∀ a c, ¬ (X = .string a ∧ Y = .string c) := by
      rintro a c ⟨rfl, rfl⟩
      cases x <;> simp [VRel] at hx
      cases y <;> simp [VRel] at hy
      exact h2 _ _ rfl rfl
    have hbin : binOp .eql t X Y = (do pure (.bool (← Op.equal t X Y))) ∧ binOp .neq t X Y = (do pure (.bool (!(← Op.equal t X Y)))) := by
      cases X <;> first
        | (exact absurd rfl hnf)
        | (exact absurd rfl hnc)
        | (cases Y <;> first
          | (exact absurd ⟨rfl, rfl⟩ (i1 _ _ _ _)) | (exact absurd ⟨rfl, rfl⟩ (i2 _ _)) | exact ⟨rfl, rfl⟩)
    split at h
    · cases he : eqA tb cst t x y with
      | none => simp [he] at h
      | some r =>
        simp [he] at h; subst h
        obtain ⟨hg, hq⟩ := run_eqA (p := p) (q := q) hT hc he hx hy .eql w
        exact ⟨.bool r, by simp [hg, hbin.1, hq], by simp [VRel]⟩
    · cases he : eqA tb cst t x y with
      | none => simp [he] at h
      | some r =>
        simp [he] at h; subst h
        obtain ⟨hg, hq⟩ := run_eqA (p := p) (q := q) hT hc he hx hy .neq w
        exact ⟨.bool (!r), by simp [hg, hbin.2, hq], by simp [VRel]⟩
    · cases h
def unA (op : UnOp) (x : V) : Option V :=
  match op, x with
  | .neg, .i k n => some (.i k (k.wrap (0 - n)))
  | .not, .b t => some (.b (!t))
  | _, _ => none
theorem run_unA {op : UnOp} {x v : V} (h : unA op x = some v) {M : Mod} {X : Value} (hx : VRel M x X) (P : Program) (w : World) : ∃ z, (Op.unary op X).run P w = .ok z w ∧ VRel M v z := by
  unfold unA at h
  split at h <;> first | (cases h; done) | skip
  all_goals (simp only [VRel] at hx; subst hx; cases h; exact ⟨_, by simp [Op.unary, Op.intArith]; rfl, by simp [VRel]⟩)
def convA (tb : Nat → Option TI) (s d : Nat) (x : V) : Option V :=
  match tb s, tb d with
  | some si, some di => match di.d, x with
    | .int k, .i _ n => some (.i k (k.wrap n))
    | .string, .s l => (match si.d with | .string => some (.s l) | _ => none)
    | _, _ => none
  | _, _ => none
theorem run_convA {P : Program} {tb : Nat → Option TI} (hT : TbOk P tb) {M : Mod} {s d : Nat} {x v : V} {X : Value} (h : convA tb s d x = some v) (hx : VRel M x X) (w : World) :
    ∃ z, (convert s d X).run P w = .ok z w ∧ VRel M v z := by
  unfold convA at h
  split at h <;> first | (cases h; done) | skip
  rename_i si di hs hd
  have us := (hT.is hs).runUnd w
  have ud := (hT.is hd).runUnd w
  split at h <;> first | (cases h; done) | skip
  · rename_i k _ n hk
    simp only [VRel] at hx; subst hx; cases h
    rw [hk] at ud
    exact ⟨.int k (k.wrap n), by simp [convert, us, ud, Conv.intToInt], by simp [VRel]⟩
  · rename_i l hk
    split at h <;> first | (cases h; done) | skip
    rename_i hsd
    simp only [VRel] at hx; subst hx; cases h
    rw [hk] at ud
    rw [hsd] at us
    exact ⟨_, by simp [convert, us, ud]; rfl, by simp [VRel]⟩
end Go.Mx
