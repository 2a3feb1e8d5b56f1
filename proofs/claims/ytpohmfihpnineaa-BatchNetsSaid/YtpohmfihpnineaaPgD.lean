/- Plain texts put together: SchP SchQ SchR SchT SchCom SchBack. -/
import Derived.Test.YtpohmfihpnineaaPgC
section
set_option linter.unusedSimpArgs false
set_option linter.unusedVariables false
set_option maxHeartbeats 4000000
set_option maxRecDepth 100000
namespace Go.Proofs.Ytpohmfihpnineaa
open Go.Ev
abbrev RS := List Int × Bool
structure NumP (nm : Nat → RS → Int × RS) (lim : Nat → Nat) : Prop where
  sound : ∀ (most : Nat) (b : List Int) (bad : Bool), (nm most (b, bad)).2.2 = false → bad = false ∧ ∃ u n, gv b 0 0 = some (u, n) ∧ u ≤ lim most ∧ nm most (b, bad) = (u, b.drop n, false)
  full : ∀ (most : Nat) (b : List Int) (u : Int) (n : Nat), most ≤ 40 → gv b 0 0 = some (u, n) → u ≤ most → nm most (b, false) = (u, b.drop n, false)
  le : ∀ most : Nat, lim most ≤ 40
def rep {α : Type} (st : Bool → Bool) (f : α × RS → α × RS) : Nat → α × RS → α × RS
  | 0, s => s
  | n + 1, s => if st s.2.2 = true then s else rep st f n (f s)
def listF (nm : Nat → RS → Int × RS) (most : Nat) (s : List Int × RS) : List Int × RS := (s.1 ++ [(nm most s.2).1], (nm most s.2).2)
def listP (nm : Nat → RS → Int × RS) (st : Bool → Bool) (most n : Nat) (s : RS) : List Int × RS := rep st (listF nm most) n ([], s)
def upF (nm : Nat → RS → Int × RS) (st : Bool → Bool) (S : List Int) (s : List (List Int) × RS) : List (List Int) × RS :=
  (s.1 ++ [(listP nm st 40 (gI S s.1.length).toNat s.2).1], (listP nm st 40 (gI S s.1.length).toNat s.2).2)
def upP (nm : Nat → RS → Int × RS) (st : Bool → Bool) (S : List Int) (n : Nat) (s : RS) : List (List Int) × RS := rep st (upF nm st S) n ([], s)
def dimP (nm : Nat → RS → Int × RS) (st : Bool → Bool) (s : RS) : Dm × RS :=
  let k := nm 4 s
  let l := listP nm st 40 k.1.toNat k.2
  let u := upP nm st l.1 (k.1.toNat - 1) l.2
  (⟨l.1, u.1⟩, u.2)
def dimF (nm : Nat → RS → Int × RS) (st : Bool → Bool) (s : List Dm × RS) : List Dm × RS := (s.1 ++ [(dimP nm st s.2).1], (dimP nm st s.2).2)
def dimsP (nm : Nat → RS → Int × RS) (st : Bool → Bool) (n : Nat) (s : RS) : List Dm × RS := rep st (dimF nm st) n ([], s)
def catP (nm : Nat → RS → Int × RS) (st : Bool → Bool) (b : List Int) : Int × List Dm × RS :=
  let m := nm 2 (b, false)
  let k := nm 4 m.2
  (m.1, dimsP nm st k.1.toNat k.2)
theorem rep_mono {α : Type} {st : Bool → Bool} {f : α × RS → α × RS} (hm : ∀ s, (f s).2.2 = false → s.2.2 = false) : ∀ (n : Nat) (s : α × RS), (rep st f n s).2.2 = false → s.2.2 = false
  | 0, s, he => he
  | n + 1, s, he => by
    simp only [rep] at he
    by_cases c : st s.2.2 = true
    · rw [if_pos c] at he; exact he
    · rw [if_neg c] at he
      exact hm s (rep_mono hm n (f s) he)
theorem rep_sound {α β : Type} {st : Bool → Bool} {f : (List α × RS) → (List α × RS)} (hst : st false = false) (hm : ∀ s, (f s).2.2 = false → s.2.2 = false)
    (w : α → List Int) (P : Nat → α → Prop) (hf : ∀ l b bad, okB b → (f (l, b, bad)).2.2 = false → ∃ x b', f (l, b, bad) = (l ++ [x], b', false) ∧ b = w x ++ b' ∧ P l.length x) :
    ∀ (n : Nat) (l : List α) (b : List Int) (bad : Bool), okB b → (rep st f n (l, b, bad)).2.2 = false →
      ∃ xs b', rep st f n (l, b, bad) = (l ++ xs, b', false) ∧ xs.length = n ∧ b = xs.flatMap w ++ b' ∧ okB b' ∧ ∀ i (h : i < xs.length), P (l.length + i) xs[i]
  | 0, l, b, bad, hb, he => by
    simp only [rep] at he ⊢
    subst he
    exact ⟨[], b, by simp, rfl, by simp, hb, fun i h => absurd h (Nat.not_lt_zero i)⟩
  | n + 1, l, b, bad, hb, he => by
    have hbad := rep_mono hm (n + 1) (l, b, bad) he
    simp only [rep] at he ⊢
    have c : ¬ st (l, b, bad).2.2 = true := by rw [hbad, hst]; decide
    rw [if_neg c] at he ⊢
    obtain ⟨x, b', h1, h2, h3⟩ := hf l b bad hb (rep_mono hm n _ he)
    rw [h1] at he ⊢
    have hb' : okB b' := fun y hy => hb y (by rw [h2]; simp [hy])
    obtain ⟨xs, b'', h4, h5, h6, h7, h8⟩ := rep_sound (β := β) hst hm w P hf n (l ++ [x]) b' false hb' he
    refine ⟨x :: xs, b'', by rw [h4]; simp, by simp [h5], by rw [h2, h6]; simp, h7, ?_⟩
    intro i hi
    cases i with
    | zero => exact h3
    | succ i =>
      have := h8 i (by simpa using hi)
      simp only [List.length_append, List.length_cons, List.length_nil] at this
      rw [show l.length + (i + 1) = l.length + (0 + 1) + i from by omega]
      exact this
theorem rep_full {α : Type} {st : Bool → Bool} {f : (List α × RS) → (List α × RS)} (hst : st false = false)
    (w : α → List Int) (P : Nat → α → Prop) (hf : ∀ l x r, P l.length x → f (l, w x ++ r, false) = (l ++ [x], r, false)) :
    ∀ (xs : List α) (l : List α) (r : List Int), (∀ i (h : i < xs.length), P (l.length + i) xs[i]) → rep st f xs.length (l, xs.flatMap w ++ r, false) = (l ++ xs, r, false)
  | [], l, r, _ => by simp [rep]
  | x :: xs, l, r, h => by
    simp only [List.length_cons, rep, hst, List.flatMap_cons, List.append_assoc]
    rw [if_neg (by decide), hf l x _ (by have := h 0 (by simp); simpa using this), rep_full hst w P hf xs (l ++ [x]) r (fun i hi => by
      have := h (i + 1) (by simpa using hi)
      simp only [List.length_append, List.length_cons, List.length_nil]
      rw [show l.length + (0 + 1) + i = l.length + (i + 1) from by omega]
      exact this)]
    simp
structure readD (d : Dm) : Prop where
  s : d.S.length ≤ 40
  u : d.U.length = d.S.length - 1
  sv : ∀ x ∈ d.S, 0 ≤ x ∧ x ≤ 40
  ul : ∀ i (h : i < d.U.length), d.U[i].length = (gI d.S i).toNat ∧ ∀ x ∈ d.U[i], 0 ≤ x ∧ x ≤ 40
theorem read_of {d : Dm} (h : goodD d.S d.U = true) : readD d := by
  have h1 := good_len h
  have h2 := small_of h
  refine ⟨by omega, by omega, h2.sv, fun i hi => ?_⟩
  have h3 := (good_up h hi).1
  rw [gR_get _ _ hi] at h3
  exact ⟨by omega, h2.uv _ (List.getElem_mem hi)⟩
section
variable {nm : Nat → RS → Int × RS} {st : Bool → Bool} {lim : Nat → Nat} (hn : NumP nm lim) (hst : st false = false)
include hn
theorem num_sound {most : Nat} {b : List Int} {bad : Bool} (hb : okB b) (h : (nm most (b, bad)).2.2 = false) : bad = false ∧ ∃ u b', nm most (b, bad) = (u, b', false) ∧ 0 ≤ u ∧ u ≤ lim most ∧ b = digN u.toNat ++ b' := by
  obtain ⟨h1, u, n, h2, h3, h4⟩ := hn.sound most b bad h
  obtain ⟨h5, h6⟩ := gv_inv0 hb h2
  exact ⟨h1, u, b.drop n, h4, h5, h3, h6⟩
theorem num_full {most u : Nat} (hu : u ≤ most) (h64 : most ≤ 40) (r : List Int) : nm most (digN u ++ r, false) = ((u : Int), r, false) := by
  have h := gv_all u r (by omega)
  rw [hn.full most _ _ _ h64 h (by omega)]
  simp
theorem num_mono (most : Nat) (s : RS) (h : (nm most s).2.2 = false) : s.2 = false := (hn.sound most s.1 s.2 h).1
theorem listF_mono (most : Nat) (s : List Int × RS) (h : (listF nm most s).2.2 = false) : s.2.2 = false := num_mono hn most s.2 h
theorem listP_mono (most n : Nat) (s : RS) (h : (listP nm st most n s).2.2 = false) : s.2 = false := rep_mono (listF_mono hn most) n ([], s) h
theorem upF_mono (S : List Int) (s : List (List Int) × RS) (h : (upF nm st S s).2.2 = false) : s.2.2 = false := listP_mono hn _ _ _ h
theorem upP_mono (S : List Int) (n : Nat) (s : RS) (h : (upP nm st S n s).2.2 = false) : s.2 = false := rep_mono (upF_mono hn S) n ([], s) h
theorem dimP_mono (s : RS) (h : (dimP nm st s).2.2 = false) : s.2 = false := num_mono hn 4 s (listP_mono hn _ _ _ (upP_mono hn _ _ _ h))
theorem dimF_mono (s : List Dm × RS) (h : (dimF nm st s).2.2 = false) : s.2.2 = false := dimP_mono hn s.2 h
include hst
theorem list_sound {most n : Nat} {b : List Int} {bad : Bool} (hb : okB b) (h : (listP nm st most n (b, bad)).2.2 = false) :
    ∃ l b', listP nm st most n (b, bad) = (l, b', false) ∧ l.length = n ∧ b = putL l ++ b' ∧ okB b' ∧ ∀ x ∈ l, 0 ≤ x ∧ x ≤ 40 := by
  obtain ⟨xs, b', h1, h2, h3, h4, h5⟩ := rep_sound (β := Unit) hst (listF_mono hn most) (fun n => digN n.toNat) (fun _ x => 0 ≤ x ∧ x ≤ 40) (fun l b bad hb hs => by
    have hbad := listF_mono hn most _ hs
    simp only at hbad
    subst hbad
    obtain ⟨-, u, b', e1, e2, e3, e4⟩ := num_sound hn hb hs
    have := hn.le most
    exact ⟨u, b', by simp only [listF, e1], e4, e2, by omega⟩) n [] b bad hb h
  refine ⟨xs, b', by unfold listP; rw [h1]; rfl, h2, h3, h4, fun x hx => ?_⟩
  obtain ⟨i, hi, rfl⟩ := List.getElem_of_mem hx
  exact h5 i hi
theorem list_full {most : Nat} (h40 : most ≤ 40) (l : List Int) (hl : ∀ x ∈ l, 0 ≤ x ∧ x ≤ most) (r : List Int) : listP nm st most l.length (putL l ++ r, false) = (l, r, false) := by
  have := rep_full (st := st) (f := listF nm most) hst (fun n => digN n.toNat) (fun _ x => 0 ≤ x ∧ x ≤ most) (fun l x r hx => by
    have h := num_full hn (most := most) (u := x.toNat) (by omega) h40 r
    simp only [listF, h]
    rw [Int.toNat_of_nonneg hx.1]) l [] r (fun i hi => hl _ (List.getElem_mem _))
  unfold listP putL
  rw [this]
  rfl
theorem up_sound {S : List Int} {n : Nat} {b : List Int} {bad : Bool} (hb : okB b) (h : (upP nm st S n (b, bad)).2.2 = false) :
    ∃ U b', upP nm st S n (b, bad) = (U, b', false) ∧ U.length = n ∧ b = U.flatMap putL ++ b' ∧ okB b' ∧ ∀ i (h : i < U.length), U[i].length = (gI S i).toNat ∧ ∀ x ∈ U[i], 0 ≤ x ∧ x ≤ 40 := by
  obtain ⟨xs, b', h1, h2, h3, h4, h5⟩ := rep_sound (β := Unit) hst (upF_mono hn (st := st) S) putL (fun i l => l.length = (gI S i).toNat ∧ ∀ x ∈ l, 0 ≤ x ∧ x ≤ 40) (fun l b bad hb hs => by
    obtain ⟨x, b', e1, e2, e3, e4, e5⟩ := list_sound hn hst hb hs
    exact ⟨x, b', by simp only [upF, e1], e3, e2, e5⟩) n [] b bad hb h
  refine ⟨xs, b', by unfold upP; rw [h1]; rfl, h2, h3, h4, fun i hi => ?_⟩
  have := h5 i hi
  simpa using this
theorem up_full (S : List Int) (U : List (List Int)) (hU : ∀ i (h : i < U.length), U[i].length = (gI S i).toNat ∧ ∀ x ∈ U[i], 0 ≤ x ∧ x ≤ 40) (r : List Int) :
    upP nm st S U.length (U.flatMap putL ++ r, false) = (U, r, false) := by
  have := rep_full (st := st) (f := upF nm st S) hst putL (fun i l => l.length = (gI S i).toNat ∧ ∀ x ∈ l, 0 ≤ x ∧ x ≤ 40) (fun l x r hx => by
    have h := list_full hn hst (most := 40) (by omega) x hx.2 r
    rw [hx.1] at h
    simp only [upF, h]) U [] r (fun i hi => by simpa using hU i hi)
  unfold upP
  rw [this]
  rfl
theorem dim_sound {b : List Int} {bad : Bool} (hb : okB b) (h : (dimP nm st (b, bad)).2.2 = false) : ∃ d b', dimP nm st (b, bad) = (d, b', false) ∧ b = dimB d ++ b' ∧ okB b' ∧ readD d := by
  have h1 : (listP nm st 40 (nm 4 (b, bad)).1.toNat (nm 4 (b, bad)).2).2.2 = false := upP_mono hn _ _ _ h
  have h2 : (nm 4 (b, bad)).2.2 = false := listP_mono hn _ _ _ h1
  obtain ⟨hbad, u, b1, e1, e2, e3, e4⟩ := num_sound hn hb h2
  have hb1 : okB b1 := fun y hy => hb y (by rw [e4]; simp [hy])
  unfold dimP at h ⊢
  simp only [e1] at h1 h ⊢
  obtain ⟨l, b2, f1, f2, f3, f4, f5⟩ := list_sound hn hst hb1 h1
  simp only [f1] at h ⊢
  obtain ⟨U, b3, g1, g2, g3, g4, g5⟩ := up_sound hn hst f4 h
  simp only [g1]
  have := hn.le 4
  refine ⟨⟨l, U⟩, b3, rfl, ?_, g4, ⟨by simp only; omega, by simp only; omega, f5, g5⟩⟩
  unfold dimB
  simp only
  rw [e4, f3, g3, f2]
  simp
theorem dim_full {d : Dm} (h4 : d.S.length ≤ 4) (h : readD d) (r : List Int) : dimP nm st (dimB d ++ r, false) = (d, r, false) := by
  have e1 := num_full hn (most := 4) (u := d.S.length) h4 (by omega) (putL d.S ++ (d.U.flatMap putL ++ r))
  have e2 := list_full hn hst (most := 40) (by omega) d.S h.sv (d.U.flatMap putL ++ r)
  have e3 := up_full hn hst d.S d.U h.ul r
  rw [h.u] at e3
  unfold dimP dimB
  simp only [List.append_assoc]
  rw [e1]
  simp only [Int.toNat_natCast]
  rw [e2]
  simp only
  rw [e3]
theorem dims_sound {n : Nat} {b : List Int} {bad : Bool} (hb : okB b) (h : (dimsP nm st n (b, bad)).2.2 = false) :
    ∃ D b', dimsP nm st n (b, bad) = (D, b', false) ∧ D.length = n ∧ b = D.flatMap dimB ++ b' ∧ okB b' ∧ ∀ d ∈ D, readD d := by
  obtain ⟨xs, b', h1, h2, h3, h4, h5⟩ := rep_sound (β := Unit) hst (dimF_mono hn (st := st)) dimB (fun _ d => readD d) (fun l b bad hb hs => by
    obtain ⟨x, b', e1, e2, e3, e4⟩ := dim_sound hn hst hb hs
    exact ⟨x, b', by simp only [dimF, e1], e2, e4⟩) n [] b bad hb h
  refine ⟨xs, b', by unfold dimsP; rw [h1]; rfl, h2, h3, h4, fun d hd => ?_⟩
  obtain ⟨i, hi, rfl⟩ := List.getElem_of_mem hd
  exact h5 i hi
theorem dims_full (D : List Dm) (hD : ∀ d ∈ D, d.S.length ≤ 4 ∧ readD d) (r : List Int) : dimsP nm st D.length (D.flatMap dimB ++ r, false) = (D, r, false) := by
  have := rep_full (st := st) (f := dimF nm st) hst dimB (fun _ d => d.S.length ≤ 4 ∧ readD d) (fun l x r hx => by
    have h := dim_full hn hst hx.1 hx.2 r
    simp only [dimF, h]) D [] r (fun i hi => hD _ (List.getElem_mem _))
  unfold dimsP
  rw [this]
  rfl
theorem cat_sound {b : List Int} (hb : okB b) (h : (catP nm st b).2.2.2 = false) : ∃ m D b', catP nm st b = (m, D, b', false) ∧ b = bytesG D m ++ b' ∧ okB b' ∧ 0 ≤ m ∧ m ≤ 40 ∧ D.length ≤ 40 ∧ ∀ d ∈ D, readD d := by
  have h0 : (dimsP nm st (nm 4 (nm 2 (b, false)).2).1.toNat (nm 4 (nm 2 (b, false)).2).2).2.2 = false := h
  have h1 : (nm 4 (nm 2 (b, false)).2).2.2 = false := rep_mono (dimF_mono hn) _ _ h0
  have h2 : (nm 2 (b, false)).2.2 = false := num_mono hn 4 _ h1
  obtain ⟨-, m, b1, e1, e2, e3, e4⟩ := num_sound hn hb h2
  have hb1 : okB b1 := fun y hy => hb y (by rw [e4]; simp [hy])
  rw [e1] at h1 h0
  obtain ⟨-, k, b2, f1, f2, f3, f4⟩ := num_sound hn hb1 h1
  have hb2 : okB b2 := fun y hy => hb1 y (by rw [f4]; simp [hy])
  simp only [f1] at h0
  obtain ⟨D, b3, g1, g2, g3, g4, g5⟩ := dims_sound hn hst hb2 h0
  have l2 := hn.le 2
  have l4 := hn.le 4
  refine ⟨m, D, b3, by unfold catP; simp only [e1, f1, g1], ?_, g4, e2, by omega, by omega, g5⟩
  unfold bytesG headB
  rw [e4, f4, g3, g2]
  simp
theorem cat_full {D : List Dm} {m : Int} (g : goodC D m = true) (r : List Int) : catP nm st (bytesG D m ++ r) = (m, D, r, false) := by
  have hl := goodC_len g
  have e1 := num_full hn (most := 2) (u := m.toNat) (by omega) (by omega) (digN D.length ++ (D.flatMap dimB ++ r))
  have e2 := num_full hn (most := 4) (u := D.length) (by omega) (by omega) (D.flatMap dimB ++ r)
  have e3 := dims_full hn hst D (fun d hd => by
    obtain ⟨i, hi, rfl⟩ := List.getElem_of_mem hd
    have := goodC_at g hi
    rw [gD_get hi] at this
    exact ⟨(good_len this).2.1, read_of this⟩) r
  unfold catP bytesG headB
  simp only [List.append_assoc]
  rw [e1]
  simp only
  rw [e2]
  simp only [Int.toNat_natCast]
  rw [e3, Int.toNat_of_nonneg (by omega)]
end
end Go.Proofs.Ytpohmfihpnineaa
end
section
set_option linter.unusedSimpArgs false
set_option linter.unusedVariables false
set_option maxHeartbeats 4000000
set_option maxRecDepth 100000
namespace Go.Proofs.Ytpohmfihpnineaa
open Go.Ev
theorem rep_snoc {α : Type} (st : Bool → Bool) (f : α × RS → α × RS) : ∀ (n : Nat) (s : α × RS), rep st f (n + 1) s = if st (rep st f n s).2.2 = true then rep st f n s else f (rep st f n s)
  | 0, s => rfl
  | n + 1, s => by
    by_cases c : st s.2.2 = true
    · rw [show rep st f (n + 1 + 1) s = s from by simp [rep, c], show rep st f (n + 1) s = s from by simp [rep, c], if_pos c]
    · rw [show rep st f (n + 1 + 1) s = rep st f (n + 1) (f s) from by simp [rep, c], show rep st f (n + 1) s = rep st f n (f s) from by simp [rep, c]]
      exact rep_snoc st f n (f s)
theorem rep_inv {α : Type} {st : Bool → Bool} {f : α × RS → α × RS} (P : Nat → α × RS → Prop) (hs : ∀ i s, P i s → P (i + 1) (f s)) (hk : ∀ i s, st s.2.2 = true → P i s → P (i + 1) s) {s : α × RS} (h0 : P 0 s) : ∀ n, P n (rep st f n s)
  | 0 => h0
  | n + 1 => by
    have h := rep_inv P hs hk h0 n
    rw [rep_snoc]
    by_cases c : st (rep st f n s).2.2 = true
    · rw [if_pos c]; exact hk n _ c h
    · rw [if_neg c]; exact hs n _ h
def okS (s : RS) : Prop := okB s.1 ∧ s.1.length ≤ 1000000
theorem okS.drop {b : List Int} {bad : Bool} (h : okS (b, bad)) (n : Nat) (bad' : Bool) : okS (b.drop n, bad') := ⟨fun x hx => h.1 x (List.mem_of_mem_drop hx), by have := h.2; simp only [List.length_drop] at *; omega⟩
theorem okS.same {b : List Int} {bad : Bool} (h : okS (b, bad)) (bad' : Bool) : okS (b, bad') := ⟨h.1, h.2⟩
structure NumI (nm : Nat → RS → Int × RS) : Prop where
  s : ∀ most s, okS s → okS (nm most s).2
  v : ∀ most s, okS s → most ≤ 40 → 0 ≤ (nm most s).1 ∧ (nm most s).1 ≤ 40
structure smD (d : Dm) : Prop where
  s : d.S.length ≤ 40
  u : d.U.length ≤ 40
  sv : ∀ n ∈ d.S, 0 ≤ n ∧ n ≤ 40
  uv : ∀ l ∈ d.U, l.length ≤ 40 ∧ ∀ n ∈ l, 0 ≤ n ∧ n ≤ 40
theorem sm_ok {d : Dm} (h : smD d) : okD d.S d.U :=
  ⟨⟨by have := h.s; omega, fun x hx => by have := h.sv x hx; unfold inI; omega⟩, by have := h.u; omega, fun l hl => ⟨by have := (h.uv l hl).1; omega, fun x hx => by have := (h.uv l hl).2 x hx; unfold inI; omega⟩⟩
section
variable {nm : Nat → RS → Int × RS} (st : Bool → Bool) (hI : NumI nm)
include hI
theorem listP_inv {most : Nat} (hm : most ≤ 40) {s : RS} (hs : okS s) (n : Nat) : (listP nm st most n s).1.length ≤ n ∧ okS (listP nm st most n s).2 ∧ ∀ x ∈ (listP nm st most n s).1, 0 ≤ x ∧ x ≤ 40 := by
  refine rep_inv (s := ([], s)) (fun (n : Nat) (s : List Int × RS) => s.1.length ≤ n ∧ okS s.2 ∧ ∀ x ∈ s.1, 0 ≤ x ∧ x ≤ 40) ?_ ?_ ⟨Nat.le_refl _, hs, by simp⟩ n
  · rintro i s ⟨h1, h2, h3⟩
    refine ⟨by simp [listF]; omega, hI.s most _ h2, fun x hx => ?_⟩
    simp only [listF, List.mem_append, List.mem_singleton] at hx
    rcases hx with hx | rfl
    · exact h3 x hx
    · exact hI.v most _ h2 hm
  · rintro i s _ ⟨h1, h2, h3⟩
    exact ⟨by omega, h2, h3⟩
theorem upP_inv (S : List Int) (hS : ∀ x ∈ S, 0 ≤ x ∧ x ≤ 40) {s : RS} (hs : okS s) (n : Nat) : (upP nm st S n s).1.length ≤ n ∧ okS (upP nm st S n s).2 ∧ ∀ l ∈ (upP nm st S n s).1, l.length ≤ 40 ∧ ∀ x ∈ l, 0 ≤ x ∧ x ≤ 40 := by
  have hg : ∀ i, (gI S i).toNat ≤ 40 := by
    intro i
    by_cases h : i < S.length
    · rw [gI_get _ _ h]
      have := hS _ (List.getElem_mem h)
      omega
    · rw [gI, List.getD_eq_getElem?_getD, List.getElem?_eq_none (by omega)]
      simp
  refine rep_inv (s := ([], s)) (fun (n : Nat) (s : List (List Int) × RS) => s.1.length ≤ n ∧ okS s.2 ∧ ∀ l ∈ s.1, l.length ≤ 40 ∧ ∀ x ∈ l, 0 ≤ x ∧ x ≤ 40) ?_ ?_ ⟨Nat.le_refl _, hs, by simp⟩ n
  · rintro i s ⟨h1, h2, h3⟩
    have h4 := listP_inv st hI (most := 40) (by omega) h2 (gI S s.1.length).toNat
    refine ⟨by simp [upF]; omega, h4.2.1, fun x hx => ?_⟩
    simp only [upF, List.mem_append, List.mem_singleton] at hx
    rcases hx with hx | rfl
    · exact h3 x hx
    · have := hg s.1.length
      exact ⟨by omega, h4.2.2⟩
  · rintro i s _ ⟨h1, h2, h3⟩
    exact ⟨by omega, h2, h3⟩
theorem dimP_inv {s : RS} (hs : okS s) : smD (dimP nm st s).1 ∧ okS (dimP nm st s).2 := by
  have h1 := hI.v 4 s hs (by omega)
  have h2 := listP_inv st hI (most := 40) (by omega) (hI.s 4 s hs) (nm 4 s).1.toNat
  have h3 := upP_inv st hI _ h2.2.2 h2.2.1 ((nm 4 s).1.toNat - 1)
  unfold dimP
  exact ⟨⟨by simp only; omega, by simp only; omega, h2.2.2, h3.2.2⟩, h3.2.1⟩
theorem dimsP_inv {s : RS} (hs : okS s) (n : Nat) : (dimsP nm st n s).1.length ≤ n ∧ okS (dimsP nm st n s).2 ∧ ∀ d ∈ (dimsP nm st n s).1, smD d := by
  refine rep_inv (s := ([], s)) (fun (n : Nat) (s : List Dm × RS) => s.1.length ≤ n ∧ okS s.2 ∧ ∀ d ∈ s.1, smD d) ?_ ?_ ⟨Nat.le_refl _, hs, by simp⟩ n
  · rintro i s ⟨h1, h2, h3⟩
    have h4 := dimP_inv st hI h2
    refine ⟨by simp [dimF]; omega, h4.2, fun x hx => ?_⟩
    simp only [dimF, List.mem_append, List.mem_singleton] at hx
    rcases hx with hx | rfl
    · exact h3 x hx
    · exact h4.1
  · rintro i s _ ⟨h1, h2, h3⟩
    exact ⟨by omega, h2, h3⟩
theorem dimsP_ok {s : RS} (hs : okS s) (n : Nat) (hn : n ≤ 40) : okC (dimsP nm st n s).1 := by
  have h := dimsP_inv st hI hs n
  exact ⟨by omega, fun d hd => sm_ok (h.2.2 d hd)⟩
end
theorem rep_len {α : Type} {f : List α × RS → List α × RS} (hf : ∀ s, (f s).1.length = s.1.length + 1) (s : List α × RS) (h0 : s.1.length = 0) (n : Nat) : (rep (fun _ => false) f n s).1.length = n :=
  rep_inv (fun (n : Nat) (s : List α × RS) => s.1.length = n) (fun i s h => by rw [hf, h]) (fun i s c _ => by simp at c) h0 n
def numS (most : Nat) (s : RS) : Int × RS := match gv s.1 0 0 with
  | some (u, n) => if s.2 = true ∨ ((min most 40 : Nat) : Int) < u then (0, s.1, true) else (u, s.1.drop n, false)
  | none => (0, s.1, true)
theorem numS_P : NumP numS fun n => min n 40 := by
  refine ⟨?_, ?_, fun _ => Nat.min_le_right _ _⟩
  · intro most b bad h
    unfold numS at h ⊢
    cases e : gv b 0 0 with
    | none => simp [e] at h
    | some p =>
      obtain ⟨u, n⟩ := p
      simp only [e] at h ⊢
      by_cases c : bad = true ∨ ((min most 40 : Nat) : Int) < u
      · rw [if_pos c] at h; simp at h
      · rw [if_neg c]
        exact ⟨by simpa using fun h => c (.inl h), u, n, rfl, by omega, rfl⟩
  · intro most b u n hm h hu
    unfold numS
    simp only [h]
    rw [if_neg]
    rintro (c | c)
    · cases c
    · omega
theorem numS_I : NumI numS := by
  constructor
  · intro most s hs
    unfold numS
    split
    · split
      · exact hs.same _
      · exact hs.drop _ _
    · exact hs.same _
  · intro most s hs hm
    unfold numS
    split
    · rename_i u n e
      have := gv_nn hs.1 e
      split
      · simp
      · rename_i c
        simp only [not_or] at c
        simp only; omega
    · simp
def stS : Bool → Bool := fun _ => false
theorem num_ev (b : List Int) (bad : Bool) (most : Nat) (hs : okS (b, bad)) (hm : most ≤ 40) :
    cfT tab 93 [.ptr 0 0 0, .int .i64 most] [⟨0, .var [rB b, .bool bad]⟩] = some (.int .i64 (numS most (b, bad)).1, [⟨0, .var [rB (numS most (b, bad)).2.1, .bool (numS most (b, bad)).2.2]⟩]) := by
  refine cfTA_R (mf := Mf.f93) rfl rfl (by kernel_rfl) ?_
  simp only [Mf.f93]
  have e := get_ev b hs.1 (by have := hs.2; simp only at this; omega)
  have hmw : IntKind.u64.wrap (most : Int) = (most : Int) := wrap_u64 (by omega) (by omega)
  have hmin : ((min most 40 : Nat) : Int) = most := by omega
  unfold numS
  cases h : gv b 0 0 with
  | none =>
    rw [h] at e
    simp only [getV, rB] at e
    cases bad <;> simp [beqI, bneI, mm_min2, mm_max2, mm_min3, mm_max3, startE, lkE, lkX, lkE_rest, sx, substE, opVA, objs0, List.replicate, XA_seq, XA_region, XOA_go, goE_someA, opV, ev, putA, layAll, XOA_nil, XA_skip_seq, XA_skip_nil, XOA_gd, goG_tA, goG_uA, binV, bi_add, bi_sub, bi_mul, bi_quo, bi_rem, bi_eql, bi_neq, bi_lss, bi_leq, bi_gtr, bi_geq, bi_shl, bi_shr, bi_and, bi_or, bi_xor, unV, XA_ret_nil, XA_ret_cons, endFA_r, endFA_n, endTA_r, endTA_n, endRA_r, endRA_n, endEA_r, endEA_n, List.take, fltR, resultsA, resAs, resA, XA_block, XA_cond, pickX_t, pickX_f, pickX_b, XA_skip_blk, XA_skip_lp, XA_exit_seq, XA_exit_lp, XA_exit_blk, XA_exit_nil, load1, Ev.loadCells, objCells, bodyCells, setCells, AV.flat, AV.flat1, backR, backV, backCell, mapO, AV.cells, AV.atom, AV.tree, fillV, repeatL, treeCell, freezeAll, eqCells, callV_T, callV_F, passN, passV, passCell, srcCells, sliceBounds, hiB, loB, thenQ_nA, thenQ_xA, thenQ_rA, runK_nA, runK_xA, runK_rA, wrap_i64, wrap_u64, wrap_u32, wrap_u8, wrap_u16, rB, e, hmw]
  | some p =>
    obtain ⟨u, n⟩ := p
    rw [h] at e
    simp only [getV] at e
    have hg := gv_nn hs.1 h
    simp only at hg
    have hn' : (n : Int) ≤ (b.length : Int) := by omega
    have hn0 : (0 : Int) ≤ (n : Int) := by omega
    have hr := rB_drop b n hg.2
    simp only [hmin, rB] at e hr ⊢
    cases bad with
    | true => simp [beqI, bneI, mm_min2, mm_max2, mm_min3, mm_max3, startE, lkE, lkX, lkE_rest, sx, substE, opVA, objs0, List.replicate, XA_seq, XA_region, XOA_go, goE_someA, opV, ev, putA, layAll, XOA_nil, XA_skip_seq, XA_skip_nil, XOA_gd, goG_tA, goG_uA, binV, bi_add, bi_sub, bi_mul, bi_quo, bi_rem, bi_eql, bi_neq, bi_lss, bi_leq, bi_gtr, bi_geq, bi_shl, bi_shr, bi_and, bi_or, bi_xor, unV, XA_ret_nil, XA_ret_cons, endFA_r, endFA_n, endTA_r, endTA_n, endRA_r, endRA_n, endEA_r, endEA_n, List.take, fltR, resultsA, resAs, resA, XA_block, XA_cond, pickX_t, pickX_f, pickX_b, XA_skip_blk, XA_skip_lp, XA_exit_seq, XA_exit_lp, XA_exit_blk, XA_exit_nil, load1, Ev.loadCells, objCells, bodyCells, setCells, AV.flat, AV.flat1, backR, backV, backCell, mapO, AV.cells, AV.atom, AV.tree, fillV, repeatL, treeCell, freezeAll, eqCells, callV_T, callV_F, passN, passV, passCell, srcCells, sliceBounds, hiB, loB, thenQ_nA, thenQ_xA, thenQ_rA, runK_nA, runK_xA, runK_rA, wrap_i64, wrap_u64, wrap_u32, wrap_u8, wrap_u16, e, hmw]
    | false =>
      by_cases c : (most : Int) < u
      · simp [beqI, bneI, mm_min2, mm_max2, mm_min3, mm_max3, startE, lkE, lkX, lkE_rest, sx, substE, opVA, objs0, List.replicate, XA_seq, XA_region, XOA_go, goE_someA, opV, ev, putA, layAll, XOA_nil, XA_skip_seq, XA_skip_nil, XOA_gd, goG_tA, goG_uA, binV, bi_add, bi_sub, bi_mul, bi_quo, bi_rem, bi_eql, bi_neq, bi_lss, bi_leq, bi_gtr, bi_geq, bi_shl, bi_shr, bi_and, bi_or, bi_xor, unV, XA_ret_nil, XA_ret_cons, endFA_r, endFA_n, endTA_r, endTA_n, endRA_r, endRA_n, endEA_r, endEA_n, List.take, fltR, resultsA, resAs, resA, XA_block, XA_cond, pickX_t, pickX_f, pickX_b, XA_skip_blk, XA_skip_lp, XA_exit_seq, XA_exit_lp, XA_exit_blk, XA_exit_nil, load1, Ev.loadCells, objCells, bodyCells, setCells, AV.flat, AV.flat1, backR, backV, backCell, mapO, AV.cells, AV.atom, AV.tree, fillV, repeatL, treeCell, freezeAll, eqCells, callV_T, callV_F, passN, passV, passCell, srcCells, sliceBounds, hiB, loB, thenQ_nA, thenQ_xA, thenQ_rA, runK_nA, runK_xA, runK_rA, wrap_i64, wrap_u64, wrap_u32, wrap_u8, wrap_u16, e, hmw, c]
      · have hw : IntKind.i64.wrap u = u := wrap_i64 (by omega) (by omega)
        simp [beqI, bneI, mm_min2, mm_max2, mm_min3, mm_max3, startE, lkE, lkX, lkE_rest, sx, substE, opVA, objs0, List.replicate, XA_seq, XA_region, XOA_go, goE_someA, opV, ev, putA, layAll, XOA_nil, XA_skip_seq, XA_skip_nil, XOA_gd, goG_tA, goG_uA, binV, bi_add, bi_sub, bi_mul, bi_quo, bi_rem, bi_eql, bi_neq, bi_lss, bi_leq, bi_gtr, bi_geq, bi_shl, bi_shr, bi_and, bi_or, bi_xor, unV, XA_ret_nil, XA_ret_cons, endFA_r, endFA_n, endTA_r, endTA_n, endRA_r, endRA_n, endEA_r, endEA_n, List.take, fltR, resultsA, resAs, resA, XA_block, XA_cond, pickX_t, pickX_f, pickX_b, XA_skip_blk, XA_skip_lp, XA_exit_seq, XA_exit_lp, XA_exit_blk, XA_exit_nil, load1, Ev.loadCells, objCells, bodyCells, setCells, AV.flat, AV.flat1, backR, backV, backCell, mapO, AV.cells, AV.atom, AV.tree, fillV, repeatL, treeCell, freezeAll, eqCells, callV_T, callV_F, passN, passV, passCell, srcCells, sliceBounds, hiB, loB, thenQ_nA, thenQ_xA, thenQ_rA, runK_nA, runK_xA, runK_rA, wrap_i64, wrap_u64, wrap_u32, wrap_u8, wrap_u16, e, hmw, c, hw, hn', hn0, hr]
end Go.Proofs.Ytpohmfihpnineaa
end
section
set_option linter.unusedSimpArgs false
set_option linter.unusedVariables false
set_option maxHeartbeats 4000000
set_option maxRecDepth 100000
namespace Go.Proofs.Ytpohmfihpnineaa
open Go.Ev
def nlOr (t sz n : Nat) : AV := if n = 0 then .nilsl else .own t 0 0 n sz
def nlObj (sz n : Nat) (cs : List AV) : AObj := if n = 0 then ⟨0, .none⟩ else ⟨0, .row true sz cs⟩
def vR (s : RS) : AObj := ⟨0, .var [.ro s.1.length (s.1.map (.int .u8)), .bool s.2]⟩
theorem num_ev' (s : RS) (most : Nat) (hs : okS s) (hm : most ≤ 40) : cfT tab 93 [.ptr 0 0 0, .int .i64 most] [vR s] = some (.int .i64 (numS most s).1, [vR (numS most s).2]) := num_ev s.1 s.2 most hs hm
theorem num_ev4 (s : RS) (hs : okS s) : cfT tab 93 [.ptr 0 0 0, .int .i64 4] [vR s] = some (.int .i64 (numS 4 s).1, [vR (numS 4 s).2]) := num_ev' s 4 hs (by omega)
theorem num_ev2 (s : RS) (hs : okS s) : cfT tab 93 [.ptr 0 0 0, .int .i64 2] [vR s] = some (.int .i64 (numS 2 s).1, [vR (numS 2 s).2]) := num_ev' s 2 hs (by omega)
theorem listS_succ (most i : Nat) (s : RS) : listP numS stS most (i + 1) s = ((listP numS stS most i s).1 ++ [(numS most (listP numS stS most i s).2).1], (numS most (listP numS stS most i s).2).2) := by
  unfold listP
  rw [rep_snoc]
  simp [stS, listF]
theorem listS_len (most n : Nat) (s : RS) : (listP numS stS most n s).1.length = n := rep_len (f := listF numS most) (fun s => by simp [listF]) ([], s) rfl n
theorem list_ev (s : RS) (n most : Nat) (hs : okS s) (hn : n ≤ 40) (hm : most ≤ 40) :
    cfT tab 104 [.ptr 0 0 0, .int .i64 n, .int .i64 most] [vR s] =
      some (.own 1 0 0 n 1, [vR (listP numS stS most n s).2, ⟨0, .row true 1 ((listP numS stS most n s).1.map (.int .i64))⟩]) := by
  refine cfTA_R (mf := Mf.f104) rfl rfl (by kernel_rfl) ?_
  simp only [Mf.f104]
  simp [beqI, bneI, mm_min2, mm_max2, mm_min3, mm_max3, startE, lkE, lkX, lkE_rest, sx, substE, opVA, objs0, List.replicate, XA_seq, XA_region, XOA_go, goE_someA, opV, ev, putA, layAll, XOA_nil, XA_skip_seq, XA_skip_nil, XOA_gd, goG_tA, goG_uA, binV, bi_add, bi_sub, bi_mul, bi_quo, bi_rem, bi_eql, bi_neq, bi_lss, bi_leq, bi_gtr, bi_geq, bi_shl, bi_shr, bi_and, bi_or, bi_xor, unV, XA_ret_nil, XA_ret_cons, endFA_r, endFA_n, endTA_r, endTA_n, endRA_r, endRA_n, endEA_r, endEA_n, List.take, fltR, resultsA, resAs, resA, XA_block, XA_cond, pickX_t, pickX_f, pickX_b, XA_skip_blk, XA_skip_lp, XA_exit_seq, XA_exit_lp, XA_exit_blk, XA_exit_nil, load1, Ev.loadCells, objCells, bodyCells, setCells, AV.flat, AV.flat1, backR, backV, backCell, mapO, AV.cells, AV.atom, AV.tree, fillV, repeatL, treeCell, freezeAll, eqCells, callV_T, callV_F, passN, passV, passCell, srcCells, sliceBounds, hiB, loB, thenQ_nA, thenQ_xA, thenQ_rA, runK_nA, runK_xA, runK_rA, wrap_i64, wrap_u64, wrap_u32, wrap_u8, wrap_u16]
  refine XA_for (fun i => ⟨[(0, .ptr 0 0 0), (2, .int .i64 most), (7, .own 1 0 0 i 1), (8, .int .i64 n), (9, .int .i64 i)], [vR (listP numS stS most i s).2, ⟨0, .row true 1 ((listP numS stS most i s).1.map (.int .i64))⟩]⟩)
    (fun i => True) n 0 (Nat.zero_le _) (by simp [AV.atom, normA, lkE, fixObjs, fixBody, fixV, fixCell, vR, listP, rep]) trivial ?_ ?_
  · intro i _ hi _
    have hi' : (i : Int) < n := by omega
    have hP := listP_inv stS numS_I (most := most) hm hs i
    have hl := listS_len most i s
    rw [listS_succ]
    generalize listP numS stS most i s = p at *
    obtain ⟨l, s1⟩ := p
    simp only at hP hl
    have e := num_ev' s1 most hP.2.1 hm
    simp only
    generalize numS most s1 = q at *
    obtain ⟨u, s2⟩ := q
    simp only [vR] at e
    have h1 : (i + 1) * 8 ≤ 140737488355328 := by omega
    have h2 : i + 1 < 4611686018427387904 := by omega
    simp [beqI, bneI, mm_min2, mm_max2, mm_min3, mm_max3, startE, lkE, lkX, lkE_rest, sx, substE, opVA, objs0, List.replicate, XA_seq, XA_region, XOA_go, goE_someA, opV, ev, putA, layAll, XOA_nil, XA_skip_seq, XA_skip_nil, XOA_gd, goG_tA, goG_uA, binV, bi_add, bi_sub, bi_mul, bi_quo, bi_rem, bi_eql, bi_neq, bi_lss, bi_leq, bi_gtr, bi_geq, bi_shl, bi_shr, bi_and, bi_or, bi_xor, unV, XA_ret_nil, XA_ret_cons, endFA_r, endFA_n, endTA_r, endTA_n, endRA_r, endRA_n, endEA_r, endEA_n, List.take, fltR, resultsA, resAs, resA, XA_block, XA_cond, pickX_t, pickX_f, pickX_b, XA_skip_blk, XA_skip_lp, XA_exit_seq, XA_exit_lp, XA_exit_blk, XA_exit_nil, load1, Ev.loadCells, objCells, bodyCells, setCells, AV.flat, AV.flat1, backR, backV, backCell, mapO, AV.cells, AV.atom, AV.tree, fillV, repeatL, treeCell, freezeAll, eqCells, callV_T, callV_F, passN, passV, passCell, srcCells, sliceBounds, hiB, loB, thenQ_nA, thenQ_xA, thenQ_rA, runK_nA, runK_xA, runK_rA, wrap_i64, wrap_u64, wrap_u32, wrap_u8, wrap_u16, callV_O, okIds, passObjs, passBody, backObjs, backBody, adopts, List.idxOf?, List.findIdx?, List.findIdx?.go, AV.atom, normA, lkE, fixObjs, fixBody, fixV, fixCell, vR, hi', e, wrap_succ i n hi (by omega), h1, h2, hl]
  · intro _
    simp [beqI, bneI, mm_min2, mm_max2, mm_min3, mm_max3, startE, lkE, lkX, lkE_rest, sx, substE, opVA, objs0, List.replicate, XA_seq, XA_region, XOA_go, goE_someA, opV, ev, putA, layAll, XOA_nil, XA_skip_seq, XA_skip_nil, XOA_gd, goG_tA, goG_uA, binV, bi_add, bi_sub, bi_mul, bi_quo, bi_rem, bi_eql, bi_neq, bi_lss, bi_leq, bi_gtr, bi_geq, bi_shl, bi_shr, bi_and, bi_or, bi_xor, unV, XA_ret_nil, XA_ret_cons, endFA_r, endFA_n, endTA_r, endTA_n, endRA_r, endRA_n, endEA_r, endEA_n, List.take, fltR, resultsA, resAs, resA, XA_block, XA_cond, pickX_t, pickX_f, pickX_b, XA_skip_blk, XA_skip_lp, XA_exit_seq, XA_exit_lp, XA_exit_blk, XA_exit_nil, load1, Ev.loadCells, objCells, bodyCells, setCells, AV.flat, AV.flat1, backR, backV, backCell, mapO, AV.cells, AV.atom, AV.tree, fillV, repeatL, treeCell, freezeAll, eqCells, callV_T, callV_F, passN, passV, passCell, srcCells, sliceBounds, hiB, loB, thenQ_nA, thenQ_xA, thenQ_rA, runK_nA, runK_xA, runK_rA, wrap_i64, wrap_u64, wrap_u32, wrap_u8, wrap_u16, AV.atom, normA, lkE, fixObjs, fixBody, fixV, fixCell, endRA_n, endRA_r, vR]
theorem list_ev40 (s : RS) (n : Nat) (hs : okS s) (hn : n ≤ 40) :
    cfT tab 104 [.ptr 0 0 0, .int .i64 n, .int .i64 40] [vR s] =
      some (.own 1 0 0 n 1, [vR (listP numS stS 40 n s).2, ⟨0, .row true 1 ((listP numS stS 40 n s).1.map (.int .i64))⟩]) := list_ev s n 40 hs hn (by omega)
theorem upS_succ (S : List Int) (i : Nat) (s : RS) : upP numS stS S (i + 1) s = upF numS stS S (upP numS stS S i s) := by
  unfold upP
  rw [rep_snoc]
  simp [stS]
theorem upS_len (S : List Int) (n : Nat) (s : RS) : (upP numS stS S n s).1.length = n := rep_len (f := upF numS stS S) (fun s => by simp [upF]) ([], s) rfl n
theorem dim_ev (s : RS) (hs : okS s) : ∃ H, cfT tab 94 [.ptr 0 0 0] [vR s] =
      some (.agg [rI (dimP numS stS s).1.S, nlOr 3 1 (dimP numS stS s).1.U.length], vR (dimP numS stS s).2 :: H) ∧ H[2]? = some (nlObj 1 (dimP numS stS s).1.U.length ((dimP numS stS s).1.U.map rI)) := by
  refine ⟨[⟨0, .var [rI (dimP numS stS s).1.S, nlOr 3 1 (dimP numS stS s).1.U.length]⟩, ⟨0, .var [rI (dimP numS stS s).1.S, nlOr 3 1 (dimP numS stS s).1.U.length]⟩, nlObj 1 (dimP numS stS s).1.U.length ((dimP numS stS s).1.U.map rI)], ?_, rfl⟩
  refine cfTA_R (mf := Mf.f94) rfl rfl (by kernel_rfl) ?_
  simp only [Mf.f94]
  have e1 := num_ev4 s hs
  have h1 := numS_I.v 4 s hs (by omega)
  have h1s := numS_I.s 4 s hs
  unfold dimP
  generalize numS 4 s = q at *
  obtain ⟨u, s1⟩ := q
  obtain ⟨n, rfl⟩ := nat_of h1.1
  have e2 := list_ev40 s1 n h1s (by simp only at h1; omega)
  have h2 := listP_inv stS numS_I (most := 40) (by omega) h1s n
  have h2l := listS_len 40 n s1
  simp only [Int.toNat_natCast]
  generalize listP numS stS 40 n s1 = q2 at *
  obtain ⟨S, s2⟩ := q2
  simp only at h2 h2l e1 e2 ⊢
  have hnw : IntKind.i64.wrap ((n : Int) - 1) = (n : Int) - 1 := wrap_i64 (by omega) (by omega)
  have hSI : AV.ro n (S.map (.int .i64)) = rI S := by rw [← h2l]; rfl
  have hSl : (S.length : Int) = n := by omega
  obtain ⟨RI, hRI⟩ : ∃ x, rI S = x := ⟨_, rfl⟩
  obtain ⟨cs, hcs⟩ : ∃ x, S.map (AV.int .i64) = x := ⟨_, rfl⟩
  have hRI' : RI = .ro n cs := by rw [← hRI, ← hcs, hSI]
  have hcl : cs.length = n := by rw [← hcs, List.length_map, h2l]
  have hct : List.take n cs = cs := List.take_of_length_le (by omega)
  rw [hcs] at e2
  simp only [vR] at e1 e2
  rw [hRI]
  simp [beqI, bneI, mm_min2, mm_max2, mm_min3, mm_max3, startE, lkE, lkX, lkE_rest, sx, substE, opVA, objs0, List.replicate, XA_seq, XA_region, XOA_go, goE_someA, opV, ev, putA, layAll, XOA_nil, XA_skip_seq, XA_skip_nil, XOA_gd, goG_tA, goG_uA, binV, bi_add, bi_sub, bi_mul, bi_quo, bi_rem, bi_eql, bi_neq, bi_lss, bi_leq, bi_gtr, bi_geq, bi_shl, bi_shr, bi_and, bi_or, bi_xor, unV, XA_ret_nil, XA_ret_cons, endFA_r, endFA_n, endTA_r, endTA_n, endRA_r, endRA_n, endEA_r, endEA_n, List.take, fltR, resultsA, resAs, resA, XA_block, XA_cond, pickX_t, pickX_f, pickX_b, XA_skip_blk, XA_skip_lp, XA_exit_seq, XA_exit_lp, XA_exit_blk, XA_exit_nil, load1, Ev.loadCells, objCells, bodyCells, setCells, AV.flat, AV.flat1, backR, backV, backCell, mapO, AV.cells, AV.atom, AV.tree, fillV, repeatL, treeCell, freezeAll, eqCells, callV_T, callV_F, passN, passV, passCell, srcCells, sliceBounds, hiB, loB, thenQ_nA, thenQ_xA, thenQ_rA, runK_nA, runK_xA, runK_rA, wrap_i64, wrap_u64, wrap_u32, wrap_u8, wrap_u16, callV_O, okIds, passObjs, passBody, backObjs, backBody, adopts, List.idxOf?, List.findIdx?, List.findIdx?.go, vR, e1, e2, hnw, hcl, hct]
  refine XA_for (fun i => ⟨[(0, .ptr 0 0 0), (2, .ptr 1 0 0), (3, .ptr 2 0 0), (13, .int .i64 ((n : Int) - 1)), (14, .int .i64 i)], [vR (upP numS stS S i s2).2, ⟨0, .var [.nilsl, .nilsl]⟩, ⟨0, .var [RI, nlOr 3 1 i]⟩, nlObj 1 i ((upP numS stS S i s2).1.map rI)]⟩)
    (fun i => True) (n - 1) 0 (Nat.zero_le _) (by simp [AV.atom, normA, lkE, fixObjs, fixBody, fixV, fixCell, vR, upP, rep, nlOr, nlObj, hRI']) trivial ?_ ?_
  · intro i _ hi _
    have hi' : (i : Int) < (n : Int) - 1 := by omega
    have hP := upP_inv stS numS_I S h2.2.2 h2.2.1 i
    have hl := upS_len S i s2
    rw [upS_succ]
    generalize upP numS stS S i s2 = p at *
    obtain ⟨L, s3⟩ := p
    simp only at hP hl
    simp only [upF, hl]
    have hSi : i < S.length := by omega
    have hix := idxI S i hSi
    rw [hcs] at hix
    have hv := h2.2.2 _ (List.getElem_mem hSi)
    rw [gI_get _ _ hSi]
    obtain ⟨k, hk⟩ := nat_of hv.1
    rw [hk] at hv hix ⊢
    simp only [Int.toNat_natCast]
    have e3 := list_ev40 s3 k hP.2.1 (by omega)
    have h3l := listS_len 40 k s3
    generalize listP numS stS 40 k s3 = q3 at *
    obtain ⟨l, s4⟩ := q3
    simp only at h3l e3
    have hin : (i : Int) < (n : Int) := by omega
    have g1 : (i + 1) * 24 ≤ 140737488355328 := by omega
    have g2 : i + 1 < 4611686018427387904 := by omega
    have hrl : rI l = .ro k (l.map (.int .i64)) := by rw [← h3l]; rfl
    obtain ⟨rl, hrl2⟩ : ∃ x, l.map (AV.int .i64) = x := ⟨_, rfl⟩
    have hkl : rl.length = k := by rw [← hrl2, List.length_map, h3l]
    have hkt : List.take k rl = rl := List.take_of_length_le (by omega)
    rw [hrl2] at hrl e3
    simp only [vR] at e3
    have hw := wrap_succ i (n - 1) hi (by omega)
    rcases Nat.eq_zero_or_pos i with h0 | h0
    · subst h0
      have hL : L = [] := List.length_eq_zero_iff.1 hl
      subst hL
      have z1 : (1 : Int) < n := by omega
      have z2 : 0 < n := by omega
      simp at hix hw
      simp [z1, z2, hw, beqI, bneI, mm_min2, mm_max2, mm_min3, mm_max3, startE, lkE, lkX, lkE_rest, sx, substE, opVA, objs0, List.replicate, XA_seq, XA_region, XOA_go, goE_someA, opV, ev, putA, layAll, XOA_nil, XA_skip_seq, XA_skip_nil, XOA_gd, goG_tA, goG_uA, binV, bi_add, bi_sub, bi_mul, bi_quo, bi_rem, bi_eql, bi_neq, bi_lss, bi_leq, bi_gtr, bi_geq, bi_shl, bi_shr, bi_and, bi_or, bi_xor, unV, XA_ret_nil, XA_ret_cons, endFA_r, endFA_n, endTA_r, endTA_n, endRA_r, endRA_n, endEA_r, endEA_n, List.take, fltR, resultsA, resAs, resA, XA_block, XA_cond, pickX_t, pickX_f, pickX_b, XA_skip_blk, XA_skip_lp, XA_exit_seq, XA_exit_lp, XA_exit_blk, XA_exit_nil, load1, Ev.loadCells, objCells, bodyCells, setCells, AV.flat, AV.flat1, backR, backV, backCell, mapO, AV.cells, AV.atom, AV.tree, fillV, repeatL, treeCell, freezeAll, eqCells, callV_T, callV_F, passN, passV, passCell, srcCells, sliceBounds, hiB, loB, thenQ_nA, thenQ_xA, thenQ_rA, runK_nA, runK_xA, runK_rA, wrap_i64, wrap_u64, wrap_u32, wrap_u8, wrap_u16, callV_O, okIds, passObjs, passBody, backObjs, backBody, adopts, List.idxOf?, List.findIdx?, List.findIdx?.go, AV.atom, normA, lkE, fixObjs, fixBody, fixV, fixCell, vR, hi', hix, hin, e3, nlOr, nlObj, hRI', hrl, hkl, hkt]
    · have h0' : ¬ i = 0 := by omega
      simp [beqI, bneI, mm_min2, mm_max2, mm_min3, mm_max3, startE, lkE, lkX, lkE_rest, sx, substE, opVA, objs0, List.replicate, XA_seq, XA_region, XOA_go, goE_someA, opV, ev, putA, layAll, XOA_nil, XA_skip_seq, XA_skip_nil, XOA_gd, goG_tA, goG_uA, binV, bi_add, bi_sub, bi_mul, bi_quo, bi_rem, bi_eql, bi_neq, bi_lss, bi_leq, bi_gtr, bi_geq, bi_shl, bi_shr, bi_and, bi_or, bi_xor, unV, XA_ret_nil, XA_ret_cons, endFA_r, endFA_n, endTA_r, endTA_n, endRA_r, endRA_n, endEA_r, endEA_n, List.take, fltR, resultsA, resAs, resA, XA_block, XA_cond, pickX_t, pickX_f, pickX_b, XA_skip_blk, XA_skip_lp, XA_exit_seq, XA_exit_lp, XA_exit_blk, XA_exit_nil, load1, Ev.loadCells, objCells, bodyCells, setCells, AV.flat, AV.flat1, backR, backV, backCell, mapO, AV.cells, AV.atom, AV.tree, fillV, repeatL, treeCell, freezeAll, eqCells, callV_T, callV_F, passN, passV, passCell, srcCells, sliceBounds, hiB, loB, thenQ_nA, thenQ_xA, thenQ_rA, runK_nA, runK_xA, runK_rA, wrap_i64, wrap_u64, wrap_u32, wrap_u8, wrap_u16, callV_O, okIds, passObjs, passBody, backObjs, backBody, adopts, List.idxOf?, List.findIdx?, List.findIdx?.go, AV.atom, normA, lkE, fixObjs, fixBody, fixV, fixCell, vR, hi', hix, hin, e3, nlOr, nlObj, hRI', hrl, hkl, hkt, h0', g1, g2, hl, hw]
  · intro _
    have hl := upS_len S (n - 1) s2
    have hlt : ¬ ((n - 1 : Nat) : Int) < (n : Int) - 1 := by omega
    generalize upP numS stS S (n - 1) s2 = p at *
    obtain ⟨L, s3⟩ := p
    simp only at hl
    by_cases h0 : n - 1 = 0
    · have hL : L.length = 0 := by omega
      have z1 : ¬ (1 : Int) < n := by omega
      simp [z1, hRI', beqI, bneI, mm_min2, mm_max2, mm_min3, mm_max3, startE, lkE, lkX, lkE_rest, sx, substE, opVA, objs0, List.replicate, XA_seq, XA_region, XOA_go, goE_someA, opV, ev, putA, layAll, XOA_nil, XA_skip_seq, XA_skip_nil, XOA_gd, goG_tA, goG_uA, binV, bi_add, bi_sub, bi_mul, bi_quo, bi_rem, bi_eql, bi_neq, bi_lss, bi_leq, bi_gtr, bi_geq, bi_shl, bi_shr, bi_and, bi_or, bi_xor, unV, XA_ret_nil, XA_ret_cons, endFA_r, endFA_n, endTA_r, endTA_n, endRA_r, endRA_n, endEA_r, endEA_n, List.take, fltR, resultsA, resAs, resA, XA_block, XA_cond, pickX_t, pickX_f, pickX_b, XA_skip_blk, XA_skip_lp, XA_exit_seq, XA_exit_lp, XA_exit_blk, XA_exit_nil, load1, Ev.loadCells, objCells, bodyCells, setCells, AV.flat, AV.flat1, backR, backV, backCell, mapO, AV.cells, AV.atom, AV.tree, fillV, repeatL, treeCell, freezeAll, eqCells, callV_T, callV_F, passN, passV, passCell, srcCells, sliceBounds, hiB, loB, thenQ_nA, thenQ_xA, thenQ_rA, runK_nA, runK_xA, runK_rA, wrap_i64, wrap_u64, wrap_u32, wrap_u8, wrap_u16, callV_O, okIds, passObjs, passBody, backObjs, backBody, adopts, List.idxOf?, List.findIdx?, List.findIdx?.go, AV.atom, normA, lkE, fixObjs, fixBody, fixV, fixCell, endRA_n, endRA_r, vR, hlt, nlOr, nlObj, h0, hL]
    · have hL : L.length = n - 1 := by omega
      simp [hRI', beqI, bneI, mm_min2, mm_max2, mm_min3, mm_max3, startE, lkE, lkX, lkE_rest, sx, substE, opVA, objs0, List.replicate, XA_seq, XA_region, XOA_go, goE_someA, opV, ev, putA, layAll, XOA_nil, XA_skip_seq, XA_skip_nil, XOA_gd, goG_tA, goG_uA, binV, bi_add, bi_sub, bi_mul, bi_quo, bi_rem, bi_eql, bi_neq, bi_lss, bi_leq, bi_gtr, bi_geq, bi_shl, bi_shr, bi_and, bi_or, bi_xor, unV, XA_ret_nil, XA_ret_cons, endFA_r, endFA_n, endTA_r, endTA_n, endRA_r, endRA_n, endEA_r, endEA_n, List.take, fltR, resultsA, resAs, resA, XA_block, XA_cond, pickX_t, pickX_f, pickX_b, XA_skip_blk, XA_skip_lp, XA_exit_seq, XA_exit_lp, XA_exit_blk, XA_exit_nil, load1, Ev.loadCells, objCells, bodyCells, setCells, AV.flat, AV.flat1, backR, backV, backCell, mapO, AV.cells, AV.atom, AV.tree, fillV, repeatL, treeCell, freezeAll, eqCells, callV_T, callV_F, passN, passV, passCell, srcCells, sliceBounds, hiB, loB, thenQ_nA, thenQ_xA, thenQ_rA, runK_nA, runK_xA, runK_rA, wrap_i64, wrap_u64, wrap_u32, wrap_u8, wrap_u16, callV_O, okIds, passObjs, passBody, backObjs, backBody, adopts, List.idxOf?, List.findIdx?, List.findIdx?.go, AV.atom, normA, lkE, fixObjs, fixBody, fixV, fixCell, endRA_n, endRA_r, vR, hlt, nlOr, nlObj, h0, hL]
end Go.Proofs.Ytpohmfihpnineaa
end
section
set_option linter.unusedSimpArgs false
set_option linter.unusedVariables false
set_option maxHeartbeats 4000000
set_option maxRecDepth 100000
namespace Go.Proofs.Ytpohmfihpnineaa
open Go.Ev
def readG (nm : Nat → RS → Int × RS) (st : Bool → Bool) (b : List Int) : Option (Int × List Dm) :=
  if (catP nm st b).2.2.2 = false ∧ (catP nm st b).2.2.1 = [] ∧ goodC (catP nm st b).2.1 (catP nm st b).1 = true then some ((catP nm st b).1, (catP nm st b).2.1) else none
theorem readG_iff {nm : Nat → RS → Int × RS} {st : Bool → Bool} {lim : Nat → Nat} (hn : NumP nm lim) (hst : st false = false) {b : List Int} (hb : okB b) (m : Int) (D : List Dm) :
    readG nm st b = some (m, D) ↔ goodC D m = true ∧ b = bytesG D m := by
  unfold readG
  constructor
  · intro h
    split at h
    · rename_i c
      cases h
      obtain ⟨m, D, b', e1, e2, -⟩ := cat_sound hn hst hb c.1
      rw [e1] at c ⊢
      simp only at c
      have c2 := c.2.1
      subst c2
      exact ⟨c.2.2, by rw [e2]; simp⟩
    · cases h
  · rintro ⟨g, rfl⟩
    have := cat_full hn hst g []
    rw [List.append_nil] at this
    rw [this]
    simp [g]
def catV : Option (Int × List Dm) → AV
  | some (m, D) => .tup [.agg [.ro D.length (flatD D), .int .i64 m], .bool true]
  | none => .tup [.agg [.ro 0 [], .int .i64 0], .bool false]
theorem flatD_snoc (a : List Dm) (d : Dm) : flatD (a ++ [d]) = flatD a ++ [rI d.S, rR d.U] := by
  induction a with
  | nil => rfl
  | cons x a ih => simp [flatD, ih]
theorem flatD_two (D : List Dm) : (flatD D).length = D.length * 2 := flatD_len D
theorem flatD_trees : ∀ (ds : List Dm), ∀ x ∈ flatD ds, x.tree = true
  | [], x, h => by cases h
  | d :: r, x, h => by
    simp only [flatD, List.mem_cons] at h
    rcases h with rfl | rfl | h
    · rfl
    · rfl
    · exact flatD_trees r x h
theorem dimsS_succ (i : Nat) (s : RS) : dimsP numS stS (i + 1) s = dimF numS stS (dimsP numS stS i s) := by
  unfold dimsP
  rw [rep_snoc]
  simp [stS]
theorem dimsS_len (n : Nat) (s : RS) : (dimsP numS stS n s).1.length = n := rep_len (f := dimF numS stS) (fun s => by simp [dimF]) ([], s) rfl n
theorem Read_ev (b : List Int) (hs : okS (b, false)) : cvT tab 73 [rB b] = some (catV (readG numS stS b)) := by
  refine cvTA_R (mf := Mf.f73) rfl rfl (by kernel_rfl) ?_
  simp only [Mf.f73]
  unfold readG catP
  have e1 := num_ev2 (b, false) hs
  have h1 := numS_I.v 2 (b, false) hs (by omega)
  have h1s := numS_I.s 2 (b, false) hs
  generalize numS 2 (b, false) = q at *
  obtain ⟨m, s1⟩ := q
  simp only at e1 h1 h1s ⊢
  have e2 := num_ev4 s1 h1s
  have h2 := numS_I.v 4 s1 h1s (by omega)
  have h2s := numS_I.s 4 s1 h1s
  generalize numS 4 s1 = q at *
  obtain ⟨u, s2⟩ := q
  obtain ⟨n, rfl⟩ := nat_of h2.1
  simp only [Int.toNat_natCast] at e2 h2 h2s ⊢
  simp only [vR, rB] at e1 e2 ⊢
  simp [beqI, bneI, mm_min2, mm_max2, mm_min3, mm_max3, startE, lkE, lkX, lkE_rest, sx, substE, opVA, objs0, List.replicate, XA_seq, XA_region, XOA_go, goE_someA, opV, ev, putA, layAll, XOA_nil, XA_skip_seq, XA_skip_nil, XOA_gd, goG_tA, goG_uA, binV, bi_add, bi_sub, bi_mul, bi_quo, bi_rem, bi_eql, bi_neq, bi_lss, bi_leq, bi_gtr, bi_geq, bi_shl, bi_shr, bi_and, bi_or, bi_xor, unV, XA_ret_nil, XA_ret_cons, endFA_r, endFA_n, endTA_r, endTA_n, endRA_r, endRA_n, endEA_r, endEA_n, List.take, fltR, resultsA, resAs, resA, XA_block, XA_cond, pickX_t, pickX_f, pickX_b, XA_skip_blk, XA_skip_lp, XA_exit_seq, XA_exit_lp, XA_exit_blk, XA_exit_nil, load1, Ev.loadCells, objCells, bodyCells, setCells, AV.flat, AV.flat1, backR, backV, backCell, mapO, AV.cells, AV.atom, AV.tree, fillV, repeatL, treeCell, freezeAll, eqCells, callV_T, callV_F, passN, passV, passCell, srcCells, sliceBounds, hiB, loB, thenQ_nA, thenQ_xA, thenQ_rA, runK_nA, runK_xA, runK_rA, wrap_i64, wrap_u64, wrap_u32, wrap_u8, wrap_u16, callV_O, okIds, passObjs, passBody, backObjs, backBody, adopts, List.idxOf?, List.findIdx?, List.findIdx?.go, e1, e2]
  refine XA_for (fun i => ⟨[(2, .ptr 0 0 0), (4, .ptr 1 0 0), (5, .ptr 2 0 0), (13, .int .i64 n), (14, .int .i64 i)], [⟨0, .var [.nilsl, .int .i64 0]⟩, vR (dimsP numS stS i s2).2, ⟨0, .var [nlOr 3 2 i, .int .i64 m]⟩, nlObj 2 i (flatD (dimsP numS stS i s2).1)]⟩)
    (fun i => True) n 0 (Nat.zero_le _) (by simp [AV.atom, normA, lkE, fixObjs, fixBody, fixV, fixCell, vR, dimsP, rep, nlOr, nlObj]) trivial ?_ ?_
  · intro i _ hi _
    have hi' : (i : Int) < (n : Int) := by omega
    have hP := dimsP_inv stS numS_I h2s i
    have hl := dimsS_len i s2
    rw [dimsS_succ]
    generalize dimsP numS stS i s2 = p at *
    obtain ⟨L, s3⟩ := p
    simp only at hP hl
    simp only [dimF]
    obtain ⟨H, e3, hH⟩ := dim_ev s3 hP.2.1
    generalize dimP numS stS s3 = q3 at *
    obtain ⟨⟨S, U⟩, s4⟩ := q3
    simp only at e3 hH ⊢
    rw [flatD_snoc]
    simp only
    have g1 : (i + 1) * 48 ≤ 140737488355328 := by omega
    have g2 : i + 1 < 4611686018427387904 := by omega
    have hw := wrap_succ i n hi (by omega)
    have hfl := flatD_two L
    rw [hl] at hfl
    generalize flatD L = fl at *
    simp only [vR, rI] at e3
    by_cases hU : U.length = 0
    · have hU' : U = [] := List.length_eq_zero_iff.1 hU
      subst hU'
      simp only [nlOr, List.length_nil, if_true] at e3
      rcases Nat.eq_zero_or_pos i with h0 | h0
      · subst h0
        have hL : fl = [] := List.length_eq_zero_iff.1 hfl
        subst hL
        simp at hw
        have z1 : (0 : Int) < n := by omega
        have z2 : 0 < n := by omega
        simp [beqI, bneI, mm_min2, mm_max2, mm_min3, mm_max3, startE, lkE, lkX, lkE_rest, sx, substE, opVA, objs0, List.replicate, XA_seq, XA_region, XOA_go, goE_someA, opV, ev, putA, layAll, XOA_nil, XA_skip_seq, XA_skip_nil, XOA_gd, goG_tA, goG_uA, binV, bi_add, bi_sub, bi_mul, bi_quo, bi_rem, bi_eql, bi_neq, bi_lss, bi_leq, bi_gtr, bi_geq, bi_shl, bi_shr, bi_and, bi_or, bi_xor, unV, XA_ret_nil, XA_ret_cons, endFA_r, endFA_n, endTA_r, endTA_n, endRA_r, endRA_n, endEA_r, endEA_n, List.take, fltR, resultsA, resAs, resA, XA_block, XA_cond, pickX_t, pickX_f, pickX_b, XA_skip_blk, XA_skip_lp, XA_exit_seq, XA_exit_lp, XA_exit_blk, XA_exit_nil, load1, Ev.loadCells, objCells, bodyCells, setCells, AV.flat, AV.flat1, backR, backV, backCell, mapO, AV.cells, AV.atom, AV.tree, fillV, repeatL, treeCell, freezeAll, eqCells, callV_T, callV_F, passN, passV, passCell, srcCells, sliceBounds, hiB, loB, thenQ_nA, thenQ_xA, thenQ_rA, runK_nA, runK_xA, runK_rA, wrap_i64, wrap_u64, wrap_u32, wrap_u8, wrap_u16, callV_O, okIds, passObjs, passBody, backObjs, backBody, adopts, List.idxOf?, List.findIdx?, List.findIdx?.go, AV.atom, normA, lkE, fixObjs, fixBody, fixV, fixCell, vR, e3, nlOr, nlObj, rI, rR, z1, z2, hw]
      · have h0' : ¬ i = 0 := by omega
        simp [beqI, bneI, mm_min2, mm_max2, mm_min3, mm_max3, startE, lkE, lkX, lkE_rest, sx, substE, opVA, objs0, List.replicate, XA_seq, XA_region, XOA_go, goE_someA, opV, ev, putA, layAll, XOA_nil, XA_skip_seq, XA_skip_nil, XOA_gd, goG_tA, goG_uA, binV, bi_add, bi_sub, bi_mul, bi_quo, bi_rem, bi_eql, bi_neq, bi_lss, bi_leq, bi_gtr, bi_geq, bi_shl, bi_shr, bi_and, bi_or, bi_xor, unV, XA_ret_nil, XA_ret_cons, endFA_r, endFA_n, endTA_r, endTA_n, endRA_r, endRA_n, endEA_r, endEA_n, List.take, fltR, resultsA, resAs, resA, XA_block, XA_cond, pickX_t, pickX_f, pickX_b, XA_skip_blk, XA_skip_lp, XA_exit_seq, XA_exit_lp, XA_exit_blk, XA_exit_nil, load1, Ev.loadCells, objCells, bodyCells, setCells, AV.flat, AV.flat1, backR, backV, backCell, mapO, AV.cells, AV.atom, AV.tree, fillV, repeatL, treeCell, freezeAll, eqCells, callV_T, callV_F, passN, passV, passCell, srcCells, sliceBounds, hiB, loB, thenQ_nA, thenQ_xA, thenQ_rA, runK_nA, runK_xA, runK_rA, wrap_i64, wrap_u64, wrap_u32, wrap_u8, wrap_u16, callV_O, okIds, passObjs, passBody, backObjs, backBody, adopts, List.idxOf?, List.findIdx?, List.findIdx?.go, AV.atom, normA, lkE, fixObjs, fixBody, fixV, fixCell, vR, hi', e3, nlOr, nlObj, rI, rR, h0', g1, g2, hfl, hw]
    · simp only [nlOr, if_neg hU] at e3
      simp only [nlObj, if_neg hU] at hH
      have hUl : (U.map rI).length = U.length := List.length_map ..
      have hRU : rR U = .ro U.length (U.map rI) := rfl
      generalize U.map rI = us at *
      have hut : List.take U.length us = us := List.take_of_length_le (by omega)
      rcases Nat.eq_zero_or_pos i with h0 | h0
      · subst h0
        have hL : fl = [] := List.length_eq_zero_iff.1 hfl
        subst hL
        simp at hw
        have z1 : (0 : Int) < n := by omega
        have z2 : 0 < n := by omega
        simp [beqI, bneI, mm_min2, mm_max2, mm_min3, mm_max3, startE, lkE, lkX, lkE_rest, sx, substE, opVA, objs0, List.replicate, XA_seq, XA_region, XOA_go, goE_someA, opV, ev, putA, layAll, XOA_nil, XA_skip_seq, XA_skip_nil, XOA_gd, goG_tA, goG_uA, binV, bi_add, bi_sub, bi_mul, bi_quo, bi_rem, bi_eql, bi_neq, bi_lss, bi_leq, bi_gtr, bi_geq, bi_shl, bi_shr, bi_and, bi_or, bi_xor, unV, XA_ret_nil, XA_ret_cons, endFA_r, endFA_n, endTA_r, endTA_n, endRA_r, endRA_n, endEA_r, endEA_n, List.take, fltR, resultsA, resAs, resA, XA_block, XA_cond, pickX_t, pickX_f, pickX_b, XA_skip_blk, XA_skip_lp, XA_exit_seq, XA_exit_lp, XA_exit_blk, XA_exit_nil, load1, Ev.loadCells, objCells, bodyCells, setCells, AV.flat, AV.flat1, backR, backV, backCell, mapO, AV.cells, AV.atom, AV.tree, fillV, repeatL, treeCell, freezeAll, eqCells, callV_T, callV_F, passN, passV, passCell, srcCells, sliceBounds, hiB, loB, thenQ_nA, thenQ_xA, thenQ_rA, runK_nA, runK_xA, runK_rA, wrap_i64, wrap_u64, wrap_u32, wrap_u8, wrap_u16, callV_O, okIds, passObjs, passBody, backObjs, backBody, adopts, List.idxOf?, List.findIdx?, List.findIdx?.go, AV.atom, normA, lkE, fixObjs, fixBody, fixV, fixCell, vR, e3, hH, nlOr, nlObj, rI, hRU, hUl, hut, z1, z2, hw]
      · have h0' : ¬ i = 0 := by omega
        simp [beqI, bneI, mm_min2, mm_max2, mm_min3, mm_max3, startE, lkE, lkX, lkE_rest, sx, substE, opVA, objs0, List.replicate, XA_seq, XA_region, XOA_go, goE_someA, opV, ev, putA, layAll, XOA_nil, XA_skip_seq, XA_skip_nil, XOA_gd, goG_tA, goG_uA, binV, bi_add, bi_sub, bi_mul, bi_quo, bi_rem, bi_eql, bi_neq, bi_lss, bi_leq, bi_gtr, bi_geq, bi_shl, bi_shr, bi_and, bi_or, bi_xor, unV, XA_ret_nil, XA_ret_cons, endFA_r, endFA_n, endTA_r, endTA_n, endRA_r, endRA_n, endEA_r, endEA_n, List.take, fltR, resultsA, resAs, resA, XA_block, XA_cond, pickX_t, pickX_f, pickX_b, XA_skip_blk, XA_skip_lp, XA_exit_seq, XA_exit_lp, XA_exit_blk, XA_exit_nil, load1, Ev.loadCells, objCells, bodyCells, setCells, AV.flat, AV.flat1, backR, backV, backCell, mapO, AV.cells, AV.atom, AV.tree, fillV, repeatL, treeCell, freezeAll, eqCells, callV_T, callV_F, passN, passV, passCell, srcCells, sliceBounds, hiB, loB, thenQ_nA, thenQ_xA, thenQ_rA, runK_nA, runK_xA, runK_rA, wrap_i64, wrap_u64, wrap_u32, wrap_u8, wrap_u16, callV_O, okIds, passObjs, passBody, backObjs, backBody, adopts, List.idxOf?, List.findIdx?, List.findIdx?.go, AV.atom, normA, lkE, fixObjs, fixBody, fixV, fixCell, vR, hi', e3, hH, nlOr, nlObj, rI, hRU, hUl, hut, h0', g1, g2, hfl, hw]
  · intro _
    have hP := dimsP_inv stS numS_I h2s n
    have hok := dimsP_ok stS numS_I h2s n (by omega)
    have hl := dimsS_len n s2
    generalize dimsP numS stS n s2 = p at *
    obtain ⟨L, s3⟩ := p
    simp only at hl hok
    have hg := sgood_ev L m hok
    have hfl := flatD_two L
    have hnl : ¬ (n : Int) < (n : Int) := by omega
    obtain ⟨r, bad⟩ := s3
    cases bad with
    | true => simp [beqI, bneI, mm_min2, mm_max2, mm_min3, mm_max3, startE, lkE, lkX, lkE_rest, sx, substE, opVA, objs0, List.replicate, XA_seq, XA_region, XOA_go, goE_someA, opV, ev, putA, layAll, XOA_nil, XA_skip_seq, XA_skip_nil, XOA_gd, goG_tA, goG_uA, binV, bi_add, bi_sub, bi_mul, bi_quo, bi_rem, bi_eql, bi_neq, bi_lss, bi_leq, bi_gtr, bi_geq, bi_shl, bi_shr, bi_and, bi_or, bi_xor, unV, XA_ret_nil, XA_ret_cons, endFA_r, endFA_n, endTA_r, endTA_n, endRA_r, endRA_n, endEA_r, endEA_n, List.take, fltR, resultsA, resAs, resA, XA_block, XA_cond, pickX_t, pickX_f, pickX_b, XA_skip_blk, XA_skip_lp, XA_exit_seq, XA_exit_lp, XA_exit_blk, XA_exit_nil, load1, Ev.loadCells, objCells, bodyCells, setCells, AV.flat, AV.flat1, backR, backV, backCell, mapO, AV.cells, AV.atom, AV.tree, fillV, repeatL, treeCell, freezeAll, eqCells, callV_T, callV_F, passN, passV, passCell, srcCells, sliceBounds, hiB, loB, thenQ_nA, thenQ_xA, thenQ_rA, runK_nA, runK_xA, runK_rA, wrap_i64, wrap_u64, wrap_u32, wrap_u8, wrap_u16, callV_O, okIds, passObjs, passBody, backObjs, backBody, adopts, List.idxOf?, List.findIdx?, List.findIdx?.go, AV.atom, normA, lkE, fixObjs, fixBody, fixV, fixCell, vR, nlOr, nlObj, catV]
    | false =>
      by_cases hr : r = []
      · subst hr
        by_cases h0 : n = 0
        · subst h0
          have hL : L = [] := List.length_eq_zero_iff.1 hl
          subst hL
          have hgf : goodC [] m = false := by simp [goodC]
          rw [hgf] at hg
          simp only [flatD, List.length_nil] at hg
          simp [beqI, bneI, mm_min2, mm_max2, mm_min3, mm_max3, startE, lkE, lkX, lkE_rest, sx, substE, opVA, objs0, List.replicate, XA_seq, XA_region, XOA_go, goE_someA, opV, ev, putA, layAll, XOA_nil, XA_skip_seq, XA_skip_nil, XOA_gd, goG_tA, goG_uA, binV, bi_add, bi_sub, bi_mul, bi_quo, bi_rem, bi_eql, bi_neq, bi_lss, bi_leq, bi_gtr, bi_geq, bi_shl, bi_shr, bi_and, bi_or, bi_xor, unV, XA_ret_nil, XA_ret_cons, endFA_r, endFA_n, endTA_r, endTA_n, endRA_r, endRA_n, endEA_r, endEA_n, List.take, fltR, resultsA, resAs, resA, XA_block, XA_cond, pickX_t, pickX_f, pickX_b, XA_skip_blk, XA_skip_lp, XA_exit_seq, XA_exit_lp, XA_exit_blk, XA_exit_nil, load1, Ev.loadCells, objCells, bodyCells, setCells, AV.flat, AV.flat1, backR, backV, backCell, mapO, AV.cells, AV.atom, AV.tree, fillV, repeatL, treeCell, freezeAll, eqCells, callV_T, callV_F, passN, passV, passCell, srcCells, sliceBounds, hiB, loB, thenQ_nA, thenQ_xA, thenQ_rA, runK_nA, runK_xA, runK_rA, wrap_i64, wrap_u64, wrap_u32, wrap_u8, wrap_u16, callV_O, okIds, passObjs, passBody, backObjs, backBody, adopts, List.idxOf?, List.findIdx?, List.findIdx?.go, AV.atom, normA, lkE, fixObjs, fixBody, fixV, fixCell, vR, nlOr, nlObj, catV, hg, hgf]
        · have hLl : (flatD L).length = n * 2 := by rw [hfl, hl]
          have hft : List.take (n * 2) (flatD L) = flatD L := List.take_of_length_le (by omega)
          rw [hl] at hg
          have ht : (flatD L).all AV.tree = true := List.all_eq_true.2 (flatD_trees L)
          cases g : goodC L m with
          | false =>
            rw [g] at hg
            simp [beqI, bneI, mm_min2, mm_max2, mm_min3, mm_max3, startE, lkE, lkX, lkE_rest, sx, substE, opVA, objs0, List.replicate, XA_seq, XA_region, XOA_go, goE_someA, opV, ev, putA, layAll, XOA_nil, XA_skip_seq, XA_skip_nil, XOA_gd, goG_tA, goG_uA, binV, bi_add, bi_sub, bi_mul, bi_quo, bi_rem, bi_eql, bi_neq, bi_lss, bi_leq, bi_gtr, bi_geq, bi_shl, bi_shr, bi_and, bi_or, bi_xor, unV, XA_ret_nil, XA_ret_cons, endFA_r, endFA_n, endTA_r, endTA_n, endRA_r, endRA_n, endEA_r, endEA_n, List.take, fltR, resultsA, resAs, resA, XA_block, XA_cond, pickX_t, pickX_f, pickX_b, XA_skip_blk, XA_skip_lp, XA_exit_seq, XA_exit_lp, XA_exit_blk, XA_exit_nil, load1, Ev.loadCells, objCells, bodyCells, setCells, AV.flat, AV.flat1, backR, backV, backCell, mapO, AV.cells, AV.atom, AV.tree, fillV, repeatL, treeCell, freezeAll, eqCells, callV_T, callV_F, passN, passV, passCell, srcCells, sliceBounds, hiB, loB, thenQ_nA, thenQ_xA, thenQ_rA, runK_nA, runK_xA, runK_rA, wrap_i64, wrap_u64, wrap_u32, wrap_u8, wrap_u16, callV_O, okIds, passObjs, passBody, backObjs, backBody, adopts, List.idxOf?, List.findIdx?, List.findIdx?.go, AV.atom, normA, lkE, fixObjs, fixBody, fixV, fixCell, vR, nlOr, nlObj, catV, h0, hLl, hft, hg, ht]
          | true =>
            rw [g] at hg
            simp [beqI, bneI, mm_min2, mm_max2, mm_min3, mm_max3, startE, lkE, lkX, lkE_rest, sx, substE, opVA, objs0, List.replicate, XA_seq, XA_region, XOA_go, goE_someA, opV, ev, putA, layAll, XOA_nil, XA_skip_seq, XA_skip_nil, XOA_gd, goG_tA, goG_uA, binV, bi_add, bi_sub, bi_mul, bi_quo, bi_rem, bi_eql, bi_neq, bi_lss, bi_leq, bi_gtr, bi_geq, bi_shl, bi_shr, bi_and, bi_or, bi_xor, unV, XA_ret_nil, XA_ret_cons, endFA_r, endFA_n, endTA_r, endTA_n, endRA_r, endRA_n, endEA_r, endEA_n, List.take, fltR, resultsA, resAs, resA, XA_block, XA_cond, pickX_t, pickX_f, pickX_b, XA_skip_blk, XA_skip_lp, XA_exit_seq, XA_exit_lp, XA_exit_blk, XA_exit_nil, load1, Ev.loadCells, objCells, bodyCells, setCells, AV.flat, AV.flat1, backR, backV, backCell, mapO, AV.cells, AV.atom, AV.tree, fillV, repeatL, treeCell, freezeAll, eqCells, callV_T, callV_F, passN, passV, passCell, srcCells, sliceBounds, hiB, loB, thenQ_nA, thenQ_xA, thenQ_rA, runK_nA, runK_xA, runK_rA, wrap_i64, wrap_u64, wrap_u32, wrap_u8, wrap_u16, callV_O, okIds, passObjs, passBody, backObjs, backBody, adopts, List.idxOf?, List.findIdx?, List.findIdx?.go, AV.atom, normA, lkE, fixObjs, fixBody, fixV, fixCell, vR, nlOr, nlObj, catV, h0, hLl, hft, hg, hl, ht]
      · have hr' : 0 < r.length := List.length_pos_iff.2 hr
        simp [beqI, bneI, mm_min2, mm_max2, mm_min3, mm_max3, startE, lkE, lkX, lkE_rest, sx, substE, opVA, objs0, List.replicate, XA_seq, XA_region, XOA_go, goE_someA, opV, ev, putA, layAll, XOA_nil, XA_skip_seq, XA_skip_nil, XOA_gd, goG_tA, goG_uA, binV, bi_add, bi_sub, bi_mul, bi_quo, bi_rem, bi_eql, bi_neq, bi_lss, bi_leq, bi_gtr, bi_geq, bi_shl, bi_shr, bi_and, bi_or, bi_xor, unV, XA_ret_nil, XA_ret_cons, endFA_r, endFA_n, endTA_r, endTA_n, endRA_r, endRA_n, endEA_r, endEA_n, List.take, fltR, resultsA, resAs, resA, XA_block, XA_cond, pickX_t, pickX_f, pickX_b, XA_skip_blk, XA_skip_lp, XA_exit_seq, XA_exit_lp, XA_exit_blk, XA_exit_nil, load1, Ev.loadCells, objCells, bodyCells, setCells, AV.flat, AV.flat1, backR, backV, backCell, mapO, AV.cells, AV.atom, AV.tree, fillV, repeatL, treeCell, freezeAll, eqCells, callV_T, callV_F, passN, passV, passCell, srcCells, sliceBounds, hiB, loB, thenQ_nA, thenQ_xA, thenQ_rA, runK_nA, runK_xA, runK_rA, wrap_i64, wrap_u64, wrap_u32, wrap_u8, wrap_u16, callV_O, okIds, passObjs, passBody, backObjs, backBody, adopts, List.idxOf?, List.findIdx?, List.findIdx?.go, AV.atom, normA, lkE, fixObjs, fixBody, fixV, fixCell, vR, nlOr, nlObj, catV, hr, hr']
end Go.Proofs.Ytpohmfihpnineaa
end
section
set_option linter.unusedSimpArgs false
set_option linter.unusedVariables false
set_option maxHeartbeats 4000000
set_option maxRecDepth 100000
namespace Go.Proofs.Ytpohmfihpnineaa
open Go.Ev
end Go.Proofs.Ytpohmfihpnineaa
end
section
set_option linter.unusedSimpArgs false
set_option linter.unusedVariables false
set_option maxHeartbeats 4000000
set_option maxRecDepth 100000
namespace Go.Proofs.Ytpohmfihpnineaa
open Go.Ev
theorem putL_ok (l : List Int) : okB (putL l) := by
  intro x hx
  unfold putL at hx
  obtain ⟨n, _, h⟩ := List.mem_flatMap.1 hx
  exact digN_ok _ x h
theorem bytesG_ok (ds : List Dm) (m : Int) : okB (bytesG ds m) := by
  intro x hx
  unfold bytesG headB dimB at hx
  simp only [List.mem_append, List.mem_flatMap] at hx
  rcases hx with (h | h) | ⟨d, _, h | h | ⟨l, _, h⟩⟩
  · exact digN_ok _ x h
  · exact digN_ok _ x h
  · exact digN_ok _ x h
  · exact putL_ok _ x h
  · exact putL_ok _ x h
theorem bytesG_len {ds : List Dm} {m : Int} (g : goodC ds m = true) : 0 < (bytesG ds m).length ∧ (bytesG ds m).length ≤ 6000 := by
  have h1 := headB_len g
  have h2 := take_len g ds.length
  rw [List.take_length] at h2
  have h3 := digN_pos m.toNat
  unfold bytesG headB at *
  simp only [List.length_append] at *
  omega
theorem read_self {ds : List Dm} {m : Int} (g : goodC ds m = true) : readG numS stS (bytesG ds m) = some (m, ds) :=
  (readG_iff numS_P rfl (bytesG_ok ds m) m ds).2 ⟨g, rfl⟩
end Go.Proofs.Ytpohmfihpnineaa
end
