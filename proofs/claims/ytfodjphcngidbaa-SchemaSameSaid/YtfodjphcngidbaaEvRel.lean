/- What the evaluator's values stand for in a world, and what stays true when the world goes on. -/
import Derived.Test.YtfodjphcngidbaaEvCore
import Derived.Deep.AppendSrc
import Derived.Deep.MidRow
import Derived.LoopN
import Derived.Orders
import Derived.Below
set_option linter.unusedSimpArgs false
set_option linter.unusedVariables false
namespace Go.Ev

structure Env where
  F : Nat → Prop
  H : List AObj
  ρ : List (Option (Nat × Nat))
  w : World

def ABody.isMut : ABody → Bool
  | .var _ => true
  | .row m _ _ => m
  | .none => false

def Env.mutAt (E : Env) (i b : Nat) : Prop := ∃ o base, E.H[i]? = some o ∧ o.body.isMut = true ∧ E.ρ[i]? = some (some (b, base))
def Env.Mut (E : Env) (b : Nat) : Prop := ∃ i, E.mutAt i b
def Env.X (E : Env) (b : Nat) : Prop := E.F b ∨ E.Mut b

/-- Block b has cells up to offset n, none of them frozen. -/
def Blk (w : World) (b n : Nat) : Prop := ∃ arr e, w.heap[b]? = some (.cells arr e (0, 0)) ∧ n ≤ arr.size

def PlacedS (E : Env) (i off cap sz : Nat) (a : Option Addr) : Prop :=
  ∃ b base, E.ρ[i]? = some (some (b, base)) ∧ a = some ⟨b, base + off, none⟩ ∧ Blk E.w b (base + off + cap * sz)

def ORel (E : Env) (i ver off len sz : Nat) (v : Value) : Prop :=
  ∃ a cap, v = .slice a len cap ∧ len ≤ cap ∧ (0 < len → a.isSome = true) ∧ ∃ o : AObj, E.H[i]? = some o ∧ ver ≤ o.ver ∧ (ver = o.ver →
    match o.body with
    | .none => False
    | .var cs => off + len * sz ≤ cs.length ∧ PlacedS E i off cap sz a
    | .row _ _ cs => off + len * sz ≤ cs.length ∧ (PlacedS E i off cap sz a ∨ (cs = [] ∧ E.ρ[i]? = some none ∧ a = none ∧ cap = 0)))

def PRel (E : Env) (i ver off : Nat) (v : Value) : Prop :=
  ∃ a, v = .pointer (some a) ∧ ∃ o : AObj, E.H[i]? = some o ∧ ver ≤ o.ver ∧ (ver = o.ver → ∃ b base, E.ρ[i]? = some (some (b, base)) ∧ a = ⟨b, base + off, none⟩)

mutual
def VRel (E : Env) : AV → Value → Prop
  | .undef, _ => True
  | .bool b, v => v = .bool b
  | .int k n, v => v = .int k n
  | .str l, v => ∃ s : ByteArray, v = .string s ∧ s.data.toList = l
  | .nilptr, v => v = .pointer none
  | .nilsl, v => v = .slice none 0 0
  | .nilfn, v => v = .nilFunc
  | .emp b, v => ∃ a cap, v = .slice a 0 cap ∧ a.isNone = b
  | .ro n cs, v => ∃ a cap, v = .slice a n cap ∧ n ≤ cap ∧ (0 < n → a.isSome = true) ∧ (cs = [] ∨ ∃ b off, a = some ⟨b, off, none⟩ ∧ ¬ E.X b ∧ CRel E cs b off)
  | .rptr cs, v => ∃ a, v = .pointer (some a) ∧ (cs = [] ∨ ∃ b off, a = ⟨b, off, none⟩ ∧ ¬ E.X b ∧ CRel E cs b off)
  | .own i ver off len sz, v => ORel E i ver off len sz v
  | .ptr i ver off, v => PRel E i ver off v
  | .agg cs, v => ∃ arr, v = .agg arr ∧ LRel E cs arr.toList
  | .tup cs, v => ∃ arr, v = .tuple arr ∧ LRel E cs arr.toList
  | .fn f xs ys, v => ∃ a1 a2, v = .func (.func f) a1 a2 ∧ LRel E xs a1.toList ∧ LRel E ys a2.toList
def CRel (E : Env) : List AV → Nat → Nat → Prop
  | [], _, _ => True
  | c :: cs, b, o => (c.tree = true ∧ ∃ v, E.w.cell? ⟨b, o, none⟩ = some v ∧ VRel E c v) ∧ CRel E cs b (o + 1)
def LRel (E : Env) : List AV → List Value → Prop
  | [], vs => vs = []
  | c :: cs, vs => ∃ v r, vs = v :: r ∧ VRel E c v ∧ LRel E cs r
end

/-- The cells of a variable: whatever one cell can hold. -/
def VCells (E : Env) (cs : List AV) (b o : Nat) : Prop :=
  ∀ j c, cs[j]? = some c → c.atom = true ∧ ∃ v, E.w.cell? ⟨b, o + j, none⟩ = some v ∧ VRel E c v

def ObjRel (E : Env) (i : Nat) (o : AObj) : Prop :=
  match o.body with
  | .none => True
  | .var cs => ∃ b base, E.ρ[i]? = some (some (b, base)) ∧ Blk E.w b (base + cs.length) ∧ VCells E cs b base
  | .row m _ cs => (cs = [] ∧ E.ρ[i]? = some none) ∨
      ∃ b base, E.ρ[i]? = some (some (b, base)) ∧ Blk E.w b (base + cs.length) ∧ CRel E cs b base ∧ (m = false → ¬ E.X b)

structure WRel (E : Env) : Prop where
  len : E.ρ.length = E.H.length
  obj : ∀ i o, E.H[i]? = some o → ObjRel E i o
  inj : ∀ i j b, E.mutAt i b → E.mutAt j b → i = j
  fNot : ∀ i b, E.mutAt i b → ¬ E.F b
  fOld : ∀ b, E.F b → b < E.w.heap.size

def sameShape : ABody → ABody → Prop
  | .none, .none => True
  | .var a, .var b => a.length = b.length
  | .row _ s a, .row _ t b => s = t ∧ a.length = b.length
  | _, _ => False

theorem sameShape.refl : ∀ b, sameShape b b
  | .none => trivial
  | .var _ => rfl
  | .row _ _ _ => ⟨rfl, rfl⟩
theorem sameShape.trans : ∀ {a b c}, sameShape a b → sameShape b c → sameShape a c := by
  intro a b c h k
  cases a <;> cases b <;> cases c <;> simp_all [sameShape]

/-- The streams stand; blocks that could not be written are as they were. -/
structure Wst (M M' : Nat → Prop) (w w' : World) : Prop where
  os : w'.os = w.os
  tape : w'.tape = w.tape
  output : w'.output = w.output
  size : w.heap.size ≤ w'.heap.size
  keep : ∀ b, b < w.heap.size → ¬ M b → w'.heap[b]? = w.heap[b]? ∧ ¬ M' b
  blk : ∀ (b : Nat) (arr : Array Value) (e : TypeId) (f : Nat × Nat), w.heap[b]? = some (Obj.cells arr e f) → ∃ arr' : Array Value, w'.heap[b]? = some (Obj.cells arr' e f) ∧ arr'.size = arr.size

theorem Wst.refl (M : Nat → Prop) (w : World) : Wst M M w w :=
  ⟨rfl, rfl, rfl, Nat.le_refl _, fun _ _ h => ⟨rfl, h⟩, fun _ arr _ _ h => ⟨arr, h, rfl⟩⟩
theorem Wst.trans {A B C : Nat → Prop} {w1 w2 w3 : World} (h : Wst A B w1 w2) (k : Wst B C w2 w3) : Wst A C w1 w3 where
  os := k.os.trans h.os
  tape := k.tape.trans h.tape
  output := k.output.trans h.output
  size := Nat.le_trans h.size k.size
  keep b hb hn := by
    obtain ⟨h1, h2⟩ := h.keep b hb hn
    obtain ⟨k1, k2⟩ := k.keep b (Nat.lt_of_lt_of_le hb h.size) h2
    exact ⟨k1.trans h1, k2⟩
  blk b arr e f hb := by
    obtain ⟨a1, h1, s1⟩ := h.blk b arr e f hb
    obtain ⟨a2, h2, s2⟩ := k.blk b a1 e f h1
    exact ⟨a2, h2, s2.trans s1⟩

structure Step (E E' : Env) : Prop where
  F : E'.F = E.F
  obj : ∀ (i : Nat) (o : AObj), E.H[i]? = some o → ∃ o' : AObj, E'.H[i]? = some o' ∧ o.ver ≤ o'.ver ∧ (o'.ver = o.ver → sameShape o.body o'.body ∧ E'.ρ[i]? = E.ρ[i]?)
  w : Wst E.Mut E'.Mut E.w E'.w

theorem Step.refl (E : Env) : Step E E := ⟨rfl, fun _ o h => ⟨o, h, Nat.le_refl _, fun _ => ⟨.refl _, rfl⟩⟩, .refl _ _⟩
theorem Step.trans {A B C : Env} (h : Step A B) (k : Step B C) : Step A C where
  F := k.F.trans h.F
  obj i o ho := by
    obtain ⟨o1, h1, l1, s1⟩ := h.obj i o ho
    obtain ⟨o2, h2, l2, s2⟩ := k.obj i o1 h1
    refine ⟨o2, h2, by omega, fun e => ?_⟩
    obtain ⟨a1, a2⟩ := s1 (by omega)
    obtain ⟨b1, b2⟩ := s2 (by omega)
    exact ⟨a1.trans b1, b2.trans a2⟩
  w := h.w.trans k.w

theorem Blk.mono {M M' : Nat → Prop} {w w' : World} (h : Wst M M' w w') {b n : Nat} (hb : Blk w b n) : Blk w' b n := by
  obtain ⟨arr, e, h1, h2⟩ := hb
  obtain ⟨arr', h3, h4⟩ := h.blk b arr e _ h1
  exact ⟨arr', e, h3, by omega⟩
theorem Blk.le {w : World} {b n m : Nat} (h : Blk w b n) (hm : m ≤ n) : Blk w b m := by
  obtain ⟨arr, e, h1, h2⟩ := h
  exact ⟨arr, e, h1, by omega⟩
theorem Blk.lt {w : World} {b n : Nat} (h : Blk w b n) : b < w.heap.size := by
  obtain ⟨arr, e, h1, h2⟩ := h
  exact (Array.getElem?_eq_some_iff.1 h1).1

theorem cell?_of_heap {w w' : World} {b : Nat} (h : w'.heap[b]? = w.heap[b]?) (o : Nat) : w'.cell? ⟨b, o, none⟩ = w.cell? ⟨b, o, none⟩ := by
  simp only [World.cell?, h]
theorem lt_of_cell {w : World} {b o : Nat} {v : Value} (h : w.cell? ⟨b, o, none⟩ = some v) : b < w.heap.size :=
  World.block_lt_of_cell? w ⟨b, o, none⟩ h

theorem ORel.mono {E E' : Env} (h : Step E E') {i ver off len sz : Nat} {v : Value} (hr : ORel E i ver off len sz v) : ORel E' i ver off len sz v := by
  obtain ⟨a, cap, hv, hl, ha, o, ho, hver, hf⟩ := hr
  obtain ⟨o', ho', hle, hs⟩ := h.obj i o ho
  refine ⟨a, cap, hv, hl, ha, o', ho', by omega, fun e => ?_⟩
  have e1 : ver = o.ver := by omega
  obtain ⟨hsh, hρ⟩ := hs (by omega)
  have hf := hf e1
  have hp : ∀ b base, E.ρ[i]? = some (some (b, base)) → Blk E.w b (base + off + cap * sz) → Blk E'.w b (base + off + cap * sz) := fun b base _ hb => hb.mono h.w
  cases ob : o.body with
  | none => rw [ob] at hf; exact hf.elim
  | var cs =>
    cases ob' : o'.body <;> rw [ob, ob'] at hsh <;> simp only [sameShape] at hsh
    rw [ob] at hf
    obtain ⟨h1, b, base, h2, h3, h4⟩ := hf
    exact ⟨by omega, b, base, by rw [hρ]; exact h2, h3, h4.mono h.w⟩
  | row m s cs =>
    cases ob' : o'.body <;> rw [ob, ob'] at hsh <;> simp only [sameShape] at hsh
    rw [ob] at hf
    obtain ⟨h1, h2⟩ := hf
    refine ⟨by omega, ?_⟩
    rcases h2 with ⟨b, base, h2, h3, h4⟩ | ⟨h2, h3, h4⟩
    · exact .inl ⟨b, base, by rw [hρ]; exact h2, h3, h4.mono h.w⟩
    · refine .inr ⟨?_, by rw [hρ]; exact h3, h4⟩
      have := hsh.2
      rw [h2] at this
      exact List.length_eq_zero_iff.1 this.symm

theorem PRel.mono {E E' : Env} (h : Step E E') {i ver off : Nat} {v : Value} (hr : PRel E i ver off v) : PRel E' i ver off v := by
  obtain ⟨a, hv, o, ho, hver, hf⟩ := hr
  obtain ⟨o', ho', hle, hs⟩ := h.obj i o ho
  refine ⟨a, hv, o', ho', by omega, fun e => ?_⟩
  obtain ⟨hsh, hρ⟩ := hs (by omega)
  obtain ⟨b, base, h1, h2⟩ := hf (by omega)
  exact ⟨b, base, by rw [hρ]; exact h1, h2⟩

/-- What a value needs of two environments so that it means the same in both. -/
structure Keeps (E E' : Env) : Prop where
  own : ∀ i ver off len sz v, ORel E i ver off len sz v → ORel E' i ver off len sz v
  ptr : ∀ i ver off v, PRel E i ver off v → PRel E' i ver off v
  cells : ∀ b, b < E.w.heap.size → ¬ E.X b → ¬ E'.X b ∧ ∀ o, E'.w.cell? ⟨b, o, none⟩ = E.w.cell? ⟨b, o, none⟩

mutual
theorem VRel.keeps {E E' : Env} (h : Keeps E E') : ∀ (a : AV) (v : Value), VRel E a v → VRel E' a v
  | .undef, _, _ => trivial
  | .bool _, _, hr => hr
  | .int _ _, _, hr => hr
  | .str _, _, hr => hr
  | .nilptr, _, hr => hr
  | .nilsl, _, hr => hr
  | .nilfn, _, hr => hr
  | .emp _, _, hr => hr
  | .ro n cs, v, hr => by
    simp only [VRel] at hr ⊢
    obtain ⟨a, cap, h1, h2, h3, h4⟩ := hr
    refine ⟨a, cap, h1, h2, h3, ?_⟩
    rcases h4 with h4 | ⟨b, off, h5, h6, h7⟩
    · exact .inl h4
    · cases cs with
      | nil => exact .inl rfl
      | cons c cs =>
        have hb : b < E.w.heap.size := by
          simp only [CRel] at h7
          obtain ⟨⟨_, u, hu, _⟩, _⟩ := h7
          exact lt_of_cell hu
        obtain ⟨k1, k2⟩ := h.cells b hb h6
        exact .inr ⟨b, off, h5, k1, CRel.keeps h (c :: cs) b off k2 h7⟩
  | .rptr cs, v, hr => by
    simp only [VRel] at hr ⊢
    obtain ⟨a, h1, h4⟩ := hr
    refine ⟨a, h1, ?_⟩
    rcases h4 with h4 | ⟨b, off, h5, h6, h7⟩
    · exact .inl h4
    · cases cs with
      | nil => exact .inl rfl
      | cons c cs =>
        have hb : b < E.w.heap.size := by
          simp only [CRel] at h7
          obtain ⟨⟨_, u, hu, _⟩, _⟩ := h7
          exact lt_of_cell hu
        obtain ⟨k1, k2⟩ := h.cells b hb h6
        exact .inr ⟨b, off, h5, k1, CRel.keeps h (c :: cs) b off k2 h7⟩
  | .own i ver off len sz, v, hr => by simp only [VRel] at hr ⊢; exact h.own _ _ _ _ _ _ hr
  | .ptr i ver off, v, hr => by simp only [VRel] at hr ⊢; exact h.ptr _ _ _ _ hr
  | .agg cs, v, hr => by
    simp only [VRel] at hr ⊢
    obtain ⟨arr, h1, h2⟩ := hr
    exact ⟨arr, h1, LRel.keeps h cs _ h2⟩
  | .tup cs, v, hr => by
    simp only [VRel] at hr ⊢
    obtain ⟨arr, h1, h2⟩ := hr
    exact ⟨arr, h1, LRel.keeps h cs _ h2⟩
  | .fn f xs ys, v, hr => by
    simp only [VRel] at hr ⊢
    obtain ⟨a1, a2, h1, h2, h3⟩ := hr
    exact ⟨a1, a2, h1, LRel.keeps h xs _ h2, LRel.keeps h ys _ h3⟩
theorem CRel.keeps {E E' : Env} (h : Keeps E E') : ∀ (cs : List AV) (b o : Nat), (∀ o, E'.w.cell? ⟨b, o, none⟩ = E.w.cell? ⟨b, o, none⟩) → CRel E cs b o → CRel E' cs b o
  | [], _, _, _, _ => trivial
  | c :: cs, b, o, hc, hr => by
    simp only [CRel] at hr ⊢
    obtain ⟨⟨h1, v, h2, h3⟩, h4⟩ := hr
    exact ⟨⟨h1, v, (hc o).trans h2, VRel.keeps h c v h3⟩, CRel.keeps h cs b (o + 1) hc h4⟩
theorem LRel.keeps {E E' : Env} (h : Keeps E E') : ∀ (cs : List AV) (vs : List Value), LRel E cs vs → LRel E' cs vs
  | [], _, hr => hr
  | c :: cs, vs, hr => by
    simp only [LRel] at hr ⊢
    obtain ⟨v, r, h1, h2, h3⟩ := hr
    exact ⟨v, r, h1, VRel.keeps h c v h2, LRel.keeps h cs r h3⟩
end

theorem Step.x {E E' : Env} (h : Step E E') {b : Nat} (hb : b < E.w.heap.size) (hx : ¬ E.X b) : ¬ E'.X b ∧ E'.w.heap[b]? = E.w.heap[b]? := by
  have h1 : ¬ E.Mut b := fun q => hx (.inr q)
  have h2 : ¬ E.F b := fun q => hx (.inl q)
  obtain ⟨k1, k2⟩ := h.w.keep b hb h1
  exact ⟨fun q => q.elim (fun q => h2 (by rw [← h.F]; exact q)) k2, k1⟩

theorem Step.keeps {E E' : Env} (h : Step E E') : Keeps E E' where
  own _ _ _ _ _ _ hr := hr.mono h
  ptr _ _ _ _ hr := hr.mono h
  cells b hb hx := ⟨(h.x hb hx).1, fun o => cell?_of_heap (h.x hb hx).2 o⟩

theorem VRel.mono {E E' : Env} (h : Step E E') {a : AV} {v : Value} (hr : VRel E a v) : VRel E' a v := VRel.keeps h.keeps a v hr
theorem LRel.mono {E E' : Env} (h : Step E E') {a : List AV} {v : List Value} (hr : LRel E a v) : LRel E' a v := LRel.keeps h.keeps a v hr

/-! ### Lists -/
theorem LRel.length {E : Env} : ∀ {cs : List AV} {vs : List Value}, LRel E cs vs → vs.length = cs.length
  | [], vs, h => by simp only [LRel] at h; rw [h]; rfl
  | c :: cs, vs, h => by
    simp only [LRel] at h
    obtain ⟨v, r, h1, _, h3⟩ := h
    rw [h1, List.length_cons, List.length_cons, LRel.length h3]
theorem LRel.get {E : Env} : ∀ {cs : List AV} {vs : List Value} (_ : LRel E cs vs) (j : Nat) (c : AV), cs[j]? = some c → ∃ v, vs[j]? = some v ∧ VRel E c v
  | [], _, _, _, _, hj => by simp at hj
  | c :: cs, vs, h, j, x, hj => by
    simp only [LRel] at h
    obtain ⟨v, r, h1, h2, h3⟩ := h
    cases j with
    | zero => simp at hj; subst hj; exact ⟨v, by simp [h1], h2⟩
    | succ j =>
      simp only [List.getElem?_cons_succ] at hj
      obtain ⟨u, hu, hr⟩ := LRel.get h3 j x hj
      exact ⟨u, by simp [h1, hu], hr⟩
theorem LRel.of {E : Env} : ∀ {cs : List AV} {vs : List Value}, vs.length = cs.length → (∀ (j : Nat) (c : AV) (v : Value), cs[j]? = some c → vs[j]? = some v → VRel E c v) → LRel E cs vs
  | [], vs, hl, _ => by simp only [LRel]; exact List.length_eq_zero_iff.1 hl
  | c :: cs, [], hl, _ => by simp at hl
  | c :: cs, v :: vs, hl, h => by
    simp only [LRel]
    exact ⟨v, vs, rfl, h 0 c v rfl rfl, LRel.of (by simpa using hl) fun j c v h1 h2 => h (j + 1) c v (by simpa using h1) (by simpa using h2)⟩
theorem CRel.get {E : Env} : ∀ {cs : List AV} {b o : Nat} (_ : CRel E cs b o) (j : Nat) (c : AV), cs[j]? = some c → c.tree = true ∧ ∃ v, E.w.cell? ⟨b, o + j, none⟩ = some v ∧ VRel E c v
  | [], _, _, _, _, _, hj => by simp at hj
  | c :: cs, b, o, h, j, x, hj => by
    simp only [CRel] at h
    obtain ⟨⟨h1, v, h2, h3⟩, h4⟩ := h
    cases j with
    | zero => simp at hj; subst hj; exact ⟨h1, v, h2, h3⟩
    | succ j =>
      simp only [List.getElem?_cons_succ] at hj
      have := CRel.get h4 j x hj
      rwa [show o + 1 + j = o + (j + 1) by omega] at this
theorem CRel.of {E : Env} : ∀ {cs : List AV} {b o : Nat}, (∀ j c, cs[j]? = some c → c.tree = true ∧ ∃ v, E.w.cell? ⟨b, o + j, none⟩ = some v ∧ VRel E c v) → CRel E cs b o
  | [], _, _, _ => trivial
  | c :: cs, b, o, h => by
    simp only [CRel]
    refine ⟨by simpa using h 0 c rfl, CRel.of fun j x hj => ?_⟩
    have := h (j + 1) x (by simpa using hj)
    rwa [show o + (j + 1) = o + 1 + j by omega] at this
theorem CRel.drop {E : Env} {cs : List AV} {b o : Nat} (h : CRel E cs b o) (k : Nat) : CRel E (cs.drop k) b (o + k) :=
  CRel.of fun j c hj => by
    have := h.get (k + j) c (by rw [← hj, List.getElem?_drop])
    rwa [← Nat.add_assoc] at this
theorem CRel.take {E : Env} {cs : List AV} {b o : Nat} (h : CRel E cs b o) (k : Nat) : CRel E (cs.take k) b o :=
  CRel.of fun j c hj => by
    refine h.get j c ?_
    rw [List.getElem?_take] at hj
    split at hj
    · exact hj
    · cases hj
theorem CRel.append {E : Env} {cs ds : List AV} {b o : Nat} (h : CRel E cs b o) (k : CRel E ds b (o + cs.length)) : CRel E (cs ++ ds) b o :=
  CRel.of fun j c hj => by
    by_cases hlt : j < cs.length
    · rw [List.getElem?_append_left hlt] at hj; exact h.get j c hj
    · rw [List.getElem?_append_right (by omega)] at hj
      have := k.get _ c hj
      rwa [show o + cs.length + (j - cs.length) = o + j by omega] at this
theorem CRel.toV {E : Env} {cs : List AV} {b o : Nat} (h : CRel E cs b o) : VCells E cs b o := fun j c hj => by
  obtain ⟨h1, h2⟩ := h.get j c hj
  refine ⟨?_, h2⟩
  cases c <;> simp_all [AV.tree, AV.atom]
theorem VCells.keeps {E E' : Env} (h : Keeps E E') {cs : List AV} {b o : Nat} (hc : ∀ o, E'.w.cell? ⟨b, o, none⟩ = E.w.cell? ⟨b, o, none⟩) (hv : VCells E cs b o) : VCells E' cs b o :=
  fun j c hj => by
    obtain ⟨h1, v, h2, h3⟩ := hv j c hj
    exact ⟨h1, v, (hc _).trans h2, VRel.keeps h c v h3⟩
/-- One cell: its value is the value of one cell. -/
theorem VRel.one {E : Env} {a : AV} {v : Value} (h : VRel E a v) (ha : a.atom = true) : v.oneCell' = true := by
  cases a <;> simp only [VRel, AV.atom] at h ha <;> try (simp at ha; done)
  all_goals first
    | (subst h; rfl)
    | (obtain ⟨_, rfl, _⟩ := h; rfl)
    | (obtain ⟨_, _, rfl, _⟩ := h; rfl)
theorem AV.tree_atom {a : AV} (h : a.tree = true) : a.atom = true := by cases a <;> simp_all [AV.tree, AV.atom]

end Go.Ev
