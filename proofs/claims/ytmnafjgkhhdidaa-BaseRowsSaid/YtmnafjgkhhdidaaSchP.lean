/- Reading catalogs: the plain law. -/
import Derived.Test.YtmnafjgkhhdidaaSchD
import Derived.Test.YtmnafjgkhhdidaaCodeF
set_option linter.unusedSimpArgs false
set_option linter.unusedVariables false
set_option maxHeartbeats 4000000
set_option maxRecDepth 100000
namespace Go.Proofs.Ytmnafjgkhhdidaa
open Go.Ev
/-- What a number is read from is the number as it is written. -/
abbrev RS := List Int × Bool
/-- A number is read: most, and what is left. -/
structure NumP (nm : Nat → RS → Int × RS) (lim : Nat → Nat) : Prop where
  sound : ∀ (most : Nat) (b : List Int) (bad : Bool), (nm most (b, bad)).2.2 = false → bad = false ∧ ∃ u n, gv b 0 0 = some (u, n) ∧ u ≤ lim most ∧ nm most (b, bad) = (u, b.drop n, false)
  full : ∀ (most : Nat) (b : List Int) (u : Int) (n : Nat), most ≤ 40 → gv b 0 0 = some (u, n) → u ≤ most → nm most (b, false) = (u, b.drop n, false)
  le : ∀ most : Nat, lim most ≤ 40
def rep {α : Type} (st : Bool → Bool) (f : α × RS → α × RS) : Nat → α × RS → α × RS
  | 0, s => s
  | n + 1, s => if st s.2.2 = true then s else rep st f n (f s)
def listF (nm : Nat → RS → Int × RS) (most : Nat) (s : List Int × RS) : List Int × RS := (s.1 ++ [(nm most s.2).1], (nm most s.2).2)
def listP (nm : Nat → RS → Int × RS) (st : Bool → Bool) (most n : Nat) (s : RS) : List Int × RS := rep st (listF nm most) n ([], s)
def upF (nm : Nat → RS → Int × RS) (st : Bool → Bool) (S : List Int) (s : List (List Int) × RS) : List (List Int) × RS :=
  (s.1 ++ [(listP nm st 40 (gI S s.1.length).toNat s.2).1], (listP nm st 40 (gI S s.1.length).toNat s.2).2)
def upP (nm : Nat → RS → Int × RS) (st : Bool → Bool) (S : List Int) (n : Nat) (s : RS) : List (List Int) × RS := rep st (upF nm st S) n ([], s)
def dimP (nm : Nat → RS → Int × RS) (st : Bool → Bool) (s : RS) : Dm × RS :=
  let k := nm 4 s
  let l := listP nm st 40 k.1.toNat k.2
  let u := upP nm st l.1 (k.1.toNat - 1) l.2
  (⟨l.1, u.1⟩, u.2)
def dimF (nm : Nat → RS → Int × RS) (st : Bool → Bool) (s : List Dm × RS) : List Dm × RS := (s.1 ++ [(dimP nm st s.2).1], (dimP nm st s.2).2)
def dimsP (nm : Nat → RS → Int × RS) (st : Bool → Bool) (n : Nat) (s : RS) : List Dm × RS := rep st (dimF nm st) n ([], s)
def catP (nm : Nat → RS → Int × RS) (st : Bool → Bool) (b : List Int) : Int × List Dm × RS :=
  let m := nm 2 (b, false)
  let k := nm 4 m.2
  (m.1, dimsP nm st k.1.toNat k.2)
theorem rep_mono {α : Type} {st : Bool → Bool} {f : α × RS → α × RS} (hm : ∀ s, (f s).2.2 = false → s.2.2 = false) : ∀ (n : Nat) (s : α × RS), (rep st f n s).2.2 = false → s.2.2 = false
  | 0, s, he => he
  | n + 1, s, he => by
    simp only [rep] at he
    by_cases c : st s.2.2 = true
    · rw [if_pos c] at he; exact he
    · rw [if_neg c] at he
      exact hm s (rep_mono hm n (f s) he)
/-- What is told of n steps: w is what is told of one at place i. -/
theorem rep_sound {α β : Type} {st : Bool → Bool} {f : (List α × RS) → (List α × RS)} (hst : st false = false) (hm : ∀ s, (f s).2.2 = false → s.2.2 = false)
    (w : α → List Int) (P : Nat → α → Prop) (hf : ∀ l b bad, okB b → (f (l, b, bad)).2.2 = false → ∃ x b', f (l, b, bad) = (l ++ [x], b', false) ∧ b = w x ++ b' ∧ P l.length x) :
    ∀ (n : Nat) (l : List α) (b : List Int) (bad : Bool), okB b → (rep st f n (l, b, bad)).2.2 = false →
      ∃ xs b', rep st f n (l, b, bad) = (l ++ xs, b', false) ∧ xs.length = n ∧ b = xs.flatMap w ++ b' ∧ okB b' ∧ ∀ i (h : i < xs.length), P (l.length + i) xs[i]
  | 0, l, b, bad, hb, he => by
    simp only [rep] at he ⊢
    subst he
    exact ⟨[], b, by simp, rfl, by simp, hb, fun i h => absurd h (Nat.not_lt_zero i)⟩
  | n + 1, l, b, bad, hb, he => by
    have hbad := rep_mono hm (n + 1) (l, b, bad) he
    simp only [rep] at he ⊢
    have c : ¬ st (l, b, bad).2.2 = true := by rw [hbad, hst]; decide
    rw [if_neg c] at he ⊢
    obtain ⟨x, b', h1, h2, h3⟩ := hf l b bad hb (rep_mono hm n _ he)
    rw [h1] at he ⊢
    have hb' : okB b' := fun y hy => hb y (by rw [h2]; simp [hy])
    obtain ⟨xs, b'', h4, h5, h6, h7, h8⟩ := rep_sound (β := β) hst hm w P hf n (l ++ [x]) b' false hb' he
    refine ⟨x :: xs, b'', by rw [h4]; simp, by simp [h5], by rw [h2, h6]; simp, h7, ?_⟩
    intro i hi
    cases i with
    | zero => exact h3
    | succ i =>
      have := h8 i (by simpa using hi)
      simp only [List.length_append, List.length_cons, List.length_nil] at this
      rw [show l.length + (i + 1) = l.length + (0 + 1) + i from by omega]
      exact this
/-- n steps over what n things are written as. -/
theorem rep_full {α : Type} {st : Bool → Bool} {f : (List α × RS) → (List α × RS)} (hst : st false = false)
    (w : α → List Int) (P : Nat → α → Prop) (hf : ∀ l x r, P l.length x → f (l, w x ++ r, false) = (l ++ [x], r, false)) :
    ∀ (xs : List α) (l : List α) (r : List Int), (∀ i (h : i < xs.length), P (l.length + i) xs[i]) → rep st f xs.length (l, xs.flatMap w ++ r, false) = (l ++ xs, r, false)
  | [], l, r, _ => by simp [rep]
  | x :: xs, l, r, h => by
    simp only [List.length_cons, rep, hst, List.flatMap_cons, List.append_assoc]
    rw [if_neg (by decide), hf l x _ (by have := h 0 (by simp); simpa using this), rep_full hst w P hf xs (l ++ [x]) r (fun i hi => by
      have := h (i + 1) (by simpa using hi)
      simp only [List.length_append, List.length_cons, List.length_nil]
      rw [show l.length + (0 + 1) + i = l.length + (i + 1) from by omega]
      exact this)]
    simp
/-- A dimension as it is read. -/
structure readD (d : Dm) : Prop where
  s : d.S.length ≤ 40
  u : d.U.length = d.S.length - 1
  sv : ∀ x ∈ d.S, 0 ≤ x ∧ x ≤ 40
  ul : ∀ i (h : i < d.U.length), d.U[i].length = (gI d.S i).toNat ∧ ∀ x ∈ d.U[i], 0 ≤ x ∧ x ≤ 40
theorem read_of {d : Dm} (h : goodD d.S d.U = true) : readD d := by
  have h1 := good_len h
  have h2 := small_of h
  refine ⟨by omega, by omega, h2.sv, fun i hi => ?_⟩
  have h3 := (good_up h hi).1
  rw [gR_get _ _ hi] at h3
  exact ⟨by omega, h2.uv _ (List.getElem_mem hi)⟩
section
variable {nm : Nat → RS → Int × RS} {st : Bool → Bool} {lim : Nat → Nat} (hn : NumP nm lim) (hst : st false = false)
include hn
theorem num_sound {most : Nat} {b : List Int} {bad : Bool} (hb : okB b) (h : (nm most (b, bad)).2.2 = false) : bad = false ∧ ∃ u b', nm most (b, bad) = (u, b', false) ∧ 0 ≤ u ∧ u ≤ lim most ∧ b = digN u.toNat ++ b' := by
  obtain ⟨h1, u, n, h2, h3, h4⟩ := hn.sound most b bad h
  obtain ⟨h5, h6⟩ := gv_inv0 hb h2
  exact ⟨h1, u, b.drop n, h4, h5, h3, h6⟩
theorem num_full {most u : Nat} (hu : u ≤ most) (h64 : most ≤ 40) (r : List Int) : nm most (digN u ++ r, false) = ((u : Int), r, false) := by
  have h := gv_all u r (by omega)
  rw [hn.full most _ _ _ h64 h (by omega)]
  simp
theorem num_mono (most : Nat) (s : RS) (h : (nm most s).2.2 = false) : s.2 = false := (hn.sound most s.1 s.2 h).1
theorem listF_mono (most : Nat) (s : List Int × RS) (h : (listF nm most s).2.2 = false) : s.2.2 = false := num_mono hn most s.2 h
theorem listP_mono (most n : Nat) (s : RS) (h : (listP nm st most n s).2.2 = false) : s.2 = false := rep_mono (listF_mono hn most) n ([], s) h
theorem upF_mono (S : List Int) (s : List (List Int) × RS) (h : (upF nm st S s).2.2 = false) : s.2.2 = false := listP_mono hn _ _ _ h
theorem upP_mono (S : List Int) (n : Nat) (s : RS) (h : (upP nm st S n s).2.2 = false) : s.2 = false := rep_mono (upF_mono hn S) n ([], s) h
theorem dimP_mono (s : RS) (h : (dimP nm st s).2.2 = false) : s.2 = false := num_mono hn 4 s (listP_mono hn _ _ _ (upP_mono hn _ _ _ h))
theorem dimF_mono (s : List Dm × RS) (h : (dimF nm st s).2.2 = false) : s.2.2 = false := dimP_mono hn s.2 h
include hst
theorem list_sound {most n : Nat} {b : List Int} {bad : Bool} (hb : okB b) (h : (listP nm st most n (b, bad)).2.2 = false) :
    ∃ l b', listP nm st most n (b, bad) = (l, b', false) ∧ l.length = n ∧ b = putL l ++ b' ∧ okB b' ∧ ∀ x ∈ l, 0 ≤ x ∧ x ≤ 40 := by
  obtain ⟨xs, b', h1, h2, h3, h4, h5⟩ := rep_sound (β := Unit) hst (listF_mono hn most) (fun n => digN n.toNat) (fun _ x => 0 ≤ x ∧ x ≤ 40) (fun l b bad hb hs => by
    have hbad := listF_mono hn most _ hs
    simp only at hbad
    subst hbad
    obtain ⟨-, u, b', e1, e2, e3, e4⟩ := num_sound hn hb hs
    have := hn.le most
    exact ⟨u, b', by simp only [listF, e1], e4, e2, by omega⟩) n [] b bad hb h
  refine ⟨xs, b', by unfold listP; rw [h1]; rfl, h2, h3, h4, fun x hx => ?_⟩
  obtain ⟨i, hi, rfl⟩ := List.getElem_of_mem hx
  exact h5 i hi
theorem list_full {most : Nat} (h40 : most ≤ 40) (l : List Int) (hl : ∀ x ∈ l, 0 ≤ x ∧ x ≤ most) (r : List Int) : listP nm st most l.length (putL l ++ r, false) = (l, r, false) := by
  have := rep_full (st := st) (f := listF nm most) hst (fun n => digN n.toNat) (fun _ x => 0 ≤ x ∧ x ≤ most) (fun l x r hx => by
    have h := num_full hn (most := most) (u := x.toNat) (by omega) h40 r
    simp only [listF, h]
    rw [Int.toNat_of_nonneg hx.1]) l [] r (fun i hi => hl _ (List.getElem_mem _))
  unfold listP putL
  rw [this]
  rfl
theorem up_sound {S : List Int} {n : Nat} {b : List Int} {bad : Bool} (hb : okB b) (h : (upP nm st S n (b, bad)).2.2 = false) :
    ∃ U b', upP nm st S n (b, bad) = (U, b', false) ∧ U.length = n ∧ b = U.flatMap putL ++ b' ∧ okB b' ∧ ∀ i (h : i < U.length), U[i].length = (gI S i).toNat ∧ ∀ x ∈ U[i], 0 ≤ x ∧ x ≤ 40 := by
  obtain ⟨xs, b', h1, h2, h3, h4, h5⟩ := rep_sound (β := Unit) hst (upF_mono hn (st := st) S) putL (fun i l => l.length = (gI S i).toNat ∧ ∀ x ∈ l, 0 ≤ x ∧ x ≤ 40) (fun l b bad hb hs => by
    obtain ⟨x, b', e1, e2, e3, e4, e5⟩ := list_sound hn hst hb hs
    exact ⟨x, b', by simp only [upF, e1], e3, e2, e5⟩) n [] b bad hb h
  refine ⟨xs, b', by unfold upP; rw [h1]; rfl, h2, h3, h4, fun i hi => ?_⟩
  have := h5 i hi
  simpa using this
theorem up_full (S : List Int) (U : List (List Int)) (hU : ∀ i (h : i < U.length), U[i].length = (gI S i).toNat ∧ ∀ x ∈ U[i], 0 ≤ x ∧ x ≤ 40) (r : List Int) :
    upP nm st S U.length (U.flatMap putL ++ r, false) = (U, r, false) := by
  have := rep_full (st := st) (f := upF nm st S) hst putL (fun i l => l.length = (gI S i).toNat ∧ ∀ x ∈ l, 0 ≤ x ∧ x ≤ 40) (fun l x r hx => by
    have h := list_full hn hst (most := 40) (by omega) x hx.2 r
    rw [hx.1] at h
    simp only [upF, h]) U [] r (fun i hi => by simpa using hU i hi)
  unfold upP
  rw [this]
  rfl
theorem dim_sound {b : List Int} {bad : Bool} (hb : okB b) (h : (dimP nm st (b, bad)).2.2 = false) : ∃ d b', dimP nm st (b, bad) = (d, b', false) ∧ b = dimB d ++ b' ∧ okB b' ∧ readD d := by
  have h1 : (listP nm st 40 (nm 4 (b, bad)).1.toNat (nm 4 (b, bad)).2).2.2 = false := upP_mono hn _ _ _ h
  have h2 : (nm 4 (b, bad)).2.2 = false := listP_mono hn _ _ _ h1
  obtain ⟨hbad, u, b1, e1, e2, e3, e4⟩ := num_sound hn hb h2
  have hb1 : okB b1 := fun y hy => hb y (by rw [e4]; simp [hy])
  unfold dimP at h ⊢
  simp only [e1] at h1 h ⊢
  obtain ⟨l, b2, f1, f2, f3, f4, f5⟩ := list_sound hn hst hb1 h1
  simp only [f1] at h ⊢
  obtain ⟨U, b3, g1, g2, g3, g4, g5⟩ := up_sound hn hst f4 h
  simp only [g1]
  have := hn.le 4
  refine ⟨⟨l, U⟩, b3, rfl, ?_, g4, ⟨by simp only; omega, by simp only; omega, f5, g5⟩⟩
  unfold dimB
  simp only
  rw [e4, f3, g3, f2]
  simp
theorem dim_full {d : Dm} (h4 : d.S.length ≤ 4) (h : readD d) (r : List Int) : dimP nm st (dimB d ++ r, false) = (d, r, false) := by
  have e1 := num_full hn (most := 4) (u := d.S.length) h4 (by omega) (putL d.S ++ (d.U.flatMap putL ++ r))
  have e2 := list_full hn hst (most := 40) (by omega) d.S h.sv (d.U.flatMap putL ++ r)
  have e3 := up_full hn hst d.S d.U h.ul r
  rw [h.u] at e3
  unfold dimP dimB
  simp only [List.append_assoc]
  rw [e1]
  simp only [Int.toNat_natCast]
  rw [e2]
  simp only
  rw [e3]
theorem dims_sound {n : Nat} {b : List Int} {bad : Bool} (hb : okB b) (h : (dimsP nm st n (b, bad)).2.2 = false) :
    ∃ D b', dimsP nm st n (b, bad) = (D, b', false) ∧ D.length = n ∧ b = D.flatMap dimB ++ b' ∧ okB b' ∧ ∀ d ∈ D, readD d := by
  obtain ⟨xs, b', h1, h2, h3, h4, h5⟩ := rep_sound (β := Unit) hst (dimF_mono hn (st := st)) dimB (fun _ d => readD d) (fun l b bad hb hs => by
    obtain ⟨x, b', e1, e2, e3, e4⟩ := dim_sound hn hst hb hs
    exact ⟨x, b', by simp only [dimF, e1], e2, e4⟩) n [] b bad hb h
  refine ⟨xs, b', by unfold dimsP; rw [h1]; rfl, h2, h3, h4, fun d hd => ?_⟩
  obtain ⟨i, hi, rfl⟩ := List.getElem_of_mem hd
  exact h5 i hi
theorem dims_full (D : List Dm) (hD : ∀ d ∈ D, d.S.length ≤ 4 ∧ readD d) (r : List Int) : dimsP nm st D.length (D.flatMap dimB ++ r, false) = (D, r, false) := by
  have := rep_full (st := st) (f := dimF nm st) hst dimB (fun _ d => d.S.length ≤ 4 ∧ readD d) (fun l x r hx => by
    have h := dim_full hn hst hx.1 hx.2 r
    simp only [dimF, h]) D [] r (fun i hi => hD _ (List.getElem_mem _))
  unfold dimsP
  rw [this]
  rfl
/-- What is read was written so. -/
theorem cat_sound {b : List Int} (hb : okB b) (h : (catP nm st b).2.2.2 = false) : ∃ m D b', catP nm st b = (m, D, b', false) ∧ b = bytesG D m ++ b' ∧ okB b' ∧ 0 ≤ m ∧ m ≤ 40 ∧ D.length ≤ 40 ∧ ∀ d ∈ D, readD d := by
  have h0 : (dimsP nm st (nm 4 (nm 2 (b, false)).2).1.toNat (nm 4 (nm 2 (b, false)).2).2).2.2 = false := h
  have h1 : (nm 4 (nm 2 (b, false)).2).2.2 = false := rep_mono (dimF_mono hn) _ _ h0
  have h2 : (nm 2 (b, false)).2.2 = false := num_mono hn 4 _ h1
  obtain ⟨-, m, b1, e1, e2, e3, e4⟩ := num_sound hn hb h2
  have hb1 : okB b1 := fun y hy => hb y (by rw [e4]; simp [hy])
  rw [e1] at h1 h0
  obtain ⟨-, k, b2, f1, f2, f3, f4⟩ := num_sound hn hb1 h1
  have hb2 : okB b2 := fun y hy => hb1 y (by rw [f4]; simp [hy])
  simp only [f1] at h0
  obtain ⟨D, b3, g1, g2, g3, g4, g5⟩ := dims_sound hn hst hb2 h0
  have l2 := hn.le 2
  have l4 := hn.le 4
  refine ⟨m, D, b3, by unfold catP; simp only [e1, f1, g1], ?_, g4, e2, by omega, by omega, g5⟩
  unfold bytesG headB
  rw [e4, f4, g3, g2]
  simp
theorem cat_full {D : List Dm} {m : Int} (g : goodC D m = true) (r : List Int) : catP nm st (bytesG D m ++ r) = (m, D, r, false) := by
  have hl := goodC_len g
  have e1 := num_full hn (most := 2) (u := m.toNat) (by omega) (by omega) (digN D.length ++ (D.flatMap dimB ++ r))
  have e2 := num_full hn (most := 4) (u := D.length) (by omega) (by omega) (D.flatMap dimB ++ r)
  have e3 := dims_full hn hst D (fun d hd => by
    obtain ⟨i, hi, rfl⟩ := List.getElem_of_mem hd
    have := goodC_at g hi
    rw [gD_get hi] at this
    exact ⟨(good_len this).2.1, read_of this⟩) r
  unfold catP bytesG headB
  simp only [List.append_assoc]
  rw [e1]
  simp only
  rw [e2]
  simp only [Int.toNat_natCast]
  rw [e3, Int.toNat_of_nonneg (by omega)]
end
end Go.Proofs.Ytmnafjgkhhdidaa
