/- Rolled up and drilled down a query is what it was; rolled up level by level the whole is reached. -/
import Derived.Test.YtambpbcdnhekbaaQO
set_option linter.unusedSimpArgs false
set_option linter.unusedVariables false
set_option maxHeartbeats 16000000
set_option maxRecDepth 100000
namespace Go.Proofs.Ytambpbcdnhekbaa
open Go.Ev
theorem setN_set {q : Qy} {k : Nat} (h : k < 4) (x : Int) : (q.setN k x).setN k (gI q.n k) = q := by
  have h4 : k = 0 ∨ k = 1 ∨ k = 2 ∨ k = 3 := by omega
  rcases h4 with rfl | rfl | rfl | rfl <;> rfl
theorem setN_at {q : Qy} {k : Nat} (h : k < 4) (x : Int) : gI (q.setN k x).n k = x := by
  have h4 : k = 0 ∨ k = 1 ∨ k = 2 ∨ k = 3 := by omega
  rcases h4 with rfl | rfl | rfl | rfl <;> rfl
theorem has_of {ds : List Dm} {m : Int} {q : Qy} {k : Nat} (g : goodQ ds m q = true) (hk : k < ds.length) : hasQ ds m q k = true := by
  simp only [hasQ, g, Bool.true_and, Bool.and_eq_true, decide_eq_true_eq]
  omega
theorem roll_up {ds : List Dm} {m : Int} {q : Qy} {k : Nat} (g : goodQ ds m q = true) (hq : okQ q) (hk : k < ds.length) (h : gI q.n k < wOf ds k) : rollQ ds m q k = some (q.setN k (gI q.n k + 1)) := by
  have h4 := (hasQ_parts (has_of g hk)).2.2.2.1
  simp only [Int.toNat_natCast] at h4
  have hb := (hq.n.at h4).1
  rw [roll_eq ds m q k hq]
  unfold turnQ
  simp only [Int.toNat_natCast]
  rw [if_pos ⟨has_of g hk, by omega, by omega⟩]
theorem roll_no {ds : List Dm} {m : Int} {q : Qy} {k : Nat} (g : goodQ ds m q = true) (hq : okQ q) (hk : k < ds.length) (h : ¬ gI q.n k < wOf ds k) : rollQ ds m q k = none := by
  rw [roll_eq ds m q k hq]
  unfold turnQ
  simp only [Int.toNat_natCast]
  rw [if_neg (fun h2 => by omega)]
theorem drill_down {ds : List Dm} {m : Int} {q : Qy} {k : Nat} (g : goodQ ds m q = true) (hq : okQ q) (hk : k < ds.length) (h : 0 < gI q.n k) : drillQ ds m q k = some (q.setN k (gI q.n k - 1)) := by
  have h4 := (hasQ_parts (has_of g hk)).2.2.2.1
  simp only [Int.toNat_natCast] at h4
  have hle := n_le g hq h4
  rw [drill_eq ds m q k hq]
  unfold turnQ
  simp only [Int.toNat_natCast]
  rw [if_pos ⟨has_of g hk, by omega, by omega⟩]
  rfl
theorem drill_no {ds : List Dm} {m : Int} {q : Qy} {k : Nat} (hq : okQ q) (h : ¬ 0 < gI q.n k) : drillQ ds m q k = none := by
  rw [drill_eq ds m q k hq]
  unfold turnQ
  simp only [Int.toNat_natCast]
  rw [if_neg (fun h2 => by omega)]
def atV (ds : List Dm) (q : Qy) (d k j : Nat) : Int := if j < d then (wOf ds j : Int) else if j = d then min (gI q.n j + k) (wOf ds j) else gI q.n j
def atQ (ds : List Dm) (q : Qy) (d k : Nat) : Qy := { q with a := atV ds q d k 0, b := atV ds q d k 1, c := atV ds q d k 2, e := atV ds q d k 3 }
theorem at_n (ds : List Dm) (q : Qy) (d k : Nat) {j : Nat} (hj : j < 4) : gI (atQ ds q d k).n j = atV ds q d k j := by
  have h4 : j = 0 ∨ j = 1 ∨ j = 2 ∨ j = 3 := by omega
  rcases h4 with rfl | rfl | rfl | rfl <;> rfl
theorem atV_in {ds : List Dm} {m : Int} {q : Qy} (g : goodQ ds m q = true) (hq : okQ q) (d k : Nat) {j : Nat} (hj : j < 4) : 0 ≤ atV ds q d k j ∧ atV ds q d k j ≤ wOf ds j := by
  have h1 := n_le g hq hj
  have h2 := (hq.n.at hj).1
  unfold atV
  split
  · omega
  · split
    · omega
    · omega
theorem at_ok {ds : List Dm} {m : Int} {q : Qy} (g : goodQ ds m q = true) (hq : okQ q) (d k : Nat) : okQ (atQ ds q d k) := by
  have gc := goodN_good (goodQ_parts g).1
  have hb : ∀ j, j < 4 → byte (atV ds q d k j) := fun j hj => by
    have h1 := atV_in g hq d k hj
    have h2 := wOf_le gc j
    exact ⟨h1.1, by omega⟩
  exact ⟨hb 0 (by omega), hb 1 (by omega), hb 2 (by omega), hb 3 (by omega), hq.F, hq.t, hq.me, hq.fn, hq.li⟩
theorem at_good {ds : List Dm} {m : Int} {q : Qy} (g : goodQ ds m q = true) (hq : okQ q) (d k : Nat) : goodQ ds m (atQ ds q d k) = true := by
  obtain ⟨h1, h2, h3, h4, h5, h6, h7, h8⟩ := goodQ_parts g
  have gc := goodN_good h1
  refine goodQ_of ((goodN_iff gc (at_ok g hq d k).n).2 ⟨?_, ?_, ?_, ?_⟩) h2 h3 h4 h5 h6 h7 h8
  · exact (atV_in g hq d k (j := 0) (by omega)).2
  · exact (atV_in g hq d k (j := 1) (by omega)).2
  · exact (atV_in g hq d k (j := 2) (by omega)).2
  · exact (atV_in g hq d k (j := 3) (by omega)).2
theorem at_step {ds : List Dm} {m : Int} {q : Qy} (g : goodQ ds m q = true) (hq : okQ q) {d k : Nat} (hd : d < ds.length) :
    (rollQ ds m (atQ ds q d k) d = some (atQ ds q d (k + 1))) ∨ (rollQ ds m (atQ ds q d k) d = none ∧ atQ ds q d (k + 1) = atQ ds q d k) := by
  have hp := hasQ_parts (has_of g hd)
  have h4 : d < 4 := by omega
  have hv : atV ds q d k d = min (gI q.n d + k) (wOf ds d) := by unfold atV; simp
  have hv2 : atV ds q d (k + 1) d = min (gI q.n d + (k + 1 : Nat)) (wOf ds d) := by unfold atV; simp
  have ho : ∀ j, j ≠ d → atV ds q d (k + 1) j = atV ds q d k j := fun j hj => by unfold atV; simp [hj]
  have hn := at_n ds q d k h4
  have hle := n_le g hq h4
  have key : ∀ x, atV ds q d (k + 1) d = x → atQ ds q d (k + 1) = (atQ ds q d k).setN d x := by
    intro x hx
    have hd4 : d = 0 ∨ d = 1 ∨ d = 2 ∨ d = 3 := by omega
    rcases hd4 with rfl | rfl | rfl | rfl
    · simp only [atQ, Qy.setN, hx, ho 1 (by omega), ho 2 (by omega), ho 3 (by omega)]
    · simp only [atQ, Qy.setN, hx, ho 0 (by omega), ho 2 (by omega), ho 3 (by omega)]
    · simp only [atQ, Qy.setN, hx, ho 0 (by omega), ho 1 (by omega), ho 3 (by omega)]
    · simp only [atQ, Qy.setN, hx, ho 0 (by omega), ho 1 (by omega), ho 2 (by omega)]
  by_cases c : gI (atQ ds q d k).n d < wOf ds d
  · refine .inl ?_
    rw [roll_up (at_good g hq d k) (at_ok g hq d k) hd c, key (gI (atQ ds q d k).n d + 1) (by rw [hn, hv, hv2]; rw [hn, hv] at c; omega)]
  · refine .inr ⟨roll_no (at_good g hq d k) (at_ok g hq d k) hd c, ?_⟩
    rw [key (gI (atQ ds q d k).n d) (by rw [hn, hv, hv2]; rw [hn, hv] at c; omega)]
    have hd4 : d = 0 ∨ d = 1 ∨ d = 2 ∨ d = 3 := by omega
    rcases hd4 with rfl | rfl | rfl | rfl <;> rfl
theorem at_zero (ds : List Dm) {m : Int} {q : Qy} (g : goodQ ds m q = true) (hq : okQ q) : atQ ds q 0 0 = q := by
  have h1 := n_le g hq (k := 0) (by omega)
  have h : atV ds q 0 0 0 = gI q.n 0 := by unfold atV; simp; omega
  unfold atQ
  rw [h]
  rfl
theorem at_next {ds : List Dm} {m : Int} {q : Qy} (g : goodQ ds m q = true) (hq : okQ q) (d : Nat) : atQ ds q d 5 = atQ ds q (d + 1) 0 := by
  have gc := goodN_good (goodQ_parts g).1
  have hv : ∀ j, j < 4 → atV ds q d 5 j = atV ds q (d + 1) 0 j := by
    intro j hj
    have h1 := n_le g hq hj
    have h2 := (hq.n.at hj).1
    have h3 := wOf_le gc j
    unfold atV
    by_cases c1 : j < d
    · rw [if_pos c1, if_pos (by omega)]
    · rw [if_neg c1]
      by_cases c2 : j = d
      · rw [if_pos c2, if_pos (by omega)]; omega
      · rw [if_neg c2, if_neg (by omega)]
        by_cases c3 : j = d + 1
        · rw [if_pos c3]; omega
        · rw [if_neg c3]
  unfold atQ
  rw [hv 0 (by omega), hv 1 (by omega), hv 2 (by omega), hv 3 (by omega)]
theorem at_end {ds : List Dm} {m : Int} {q : Qy} (g : goodQ ds m q = true) (hq : okQ q) : (atQ ds q ds.length 0).n = wholeN ds m := by
  have gc := goodN_good (goodQ_parts g).1
  have hv : ∀ j, j < 4 → atV ds q ds.length 0 j = wOf ds j := by
    intro j hj
    have h1 := n_le g hq hj
    have h2 := (hq.n.at hj).1
    unfold atV
    by_cases c1 : j < ds.length
    · rw [if_pos c1]
    · rw [if_neg c1]
      rw [wOf_out c1] at h1 ⊢
      split <;> omega
  unfold wholeN
  rw [if_pos gc]
  simp only [Qy.n, atQ]
  rw [hv 0 (by omega), hv 1 (by omega), hv 2 (by omega), hv 3 (by omega)]
theorem getD_ok {o : Option Qy} (h : ∀ y, o = some y → okQ y) : okQ (o.getD zeroQ) := by
  cases o with
  | none => exact zeroQ_ok
  | some y => exact h y rfl
end Go.Proofs.Ytambpbcdnhekbaa
