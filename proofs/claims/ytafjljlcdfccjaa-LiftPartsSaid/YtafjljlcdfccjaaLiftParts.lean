/- A node's places are parted by those of a coarser one: each lies in just the one that it is carried to. -/
import Derived.Test.YtafjljlcdfccjaaLiftCom
import Derived.Test.YtafjljlcdfccjaaLatLem
set_option linter.unusedSimpArgs false
set_option linter.unusedVariables false
set_option maxHeartbeats 4000000
set_option maxRecDepth 100000
namespace Go.Proofs.Ytafjljlcdfccjaa
open Go.Ev
/-! ### Sums over all numbers of some digits -/
def Tl : List (Nat × (Nat → Nat)) → Nat → Nat
  | [], _ => 1
  | (s, g) :: r, k => g (k % s) * Tl r (k / s)
def prodS : List (Nat × (Nat → Nat)) → Nat
  | [] => 1
  | (s, _) :: r => prodS r * s
def prodG : List (Nat × (Nat → Nat)) → Nat
  | [] => 1
  | (s, g) :: r => ((List.range s).map g).sum * prodG r
theorem sum_mul_right (c : Nat) (f : Nat → Nat) : ∀ (l : List Nat), (l.map fun x => f x * c).sum = (l.map f).sum * c
  | [] => by simp
  | a :: l => by simp [sum_mul_right c f l, Nat.add_mul]
theorem sum_digits (s : Nat) (hs : 0 < s) (g h : Nat → Nat) : ∀ N, ((List.range (N * s)).map fun k => g (k % s) * h (k / s)).sum = ((List.range s).map g).sum * ((List.range N).map h).sum
  | 0 => by simp
  | N + 1 => by
    have h1 : (List.range ((N + 1) * s)) = List.range (N * s) ++ (List.range s).map fun x => N * s + x := by
      rw [Nat.succ_mul, List.range_add]
    rw [h1, List.map_append, List.sum_append, sum_digits s hs g h N, List.map_map]
    have h2 : (List.map ((fun k => g (k % s) * h (k / s)) ∘ fun x => N * s + x) (List.range s)) = (List.range s).map fun x => g x * h N := by
      refine List.map_congr_left fun x hx => ?_
      rw [List.mem_range] at hx
      simp only [Function.comp_apply]
      rw [Nat.mul_comm N s, Nat.mul_add_mod, Nat.mod_eq_of_lt hx, Nat.mul_add_div hs, Nat.div_eq_of_lt hx, Nat.add_zero]
    rw [h2, sum_mul_right, List.range_succ, List.map_append, List.sum_append]
    simp [Nat.mul_add]
theorem sum_Tl : ∀ (l : List (Nat × (Nat → Nat))), (∀ p ∈ l, 0 < p.1) → ((List.range (prodS l)).map (Tl l)).sum = prodG l
  | [], _ => by simp [prodS, Tl, prodG]
  | (s, g) :: r, h => by
    have ih := sum_Tl r fun p hp => h p (by simp [hp])
    have := sum_digits s (h (s, g) (by simp)) g (Tl r) (prodS r)
    simp only [prodS, prodG, ← ih, ← this]
    rfl
/-! ### Which places lie in one -/
theorem mem_withL {l : List (List Int)} {d : Nat} {ms : List Int} {q : List Int} : q ∈ withL l d ms ↔ ∃ v ∈ l, ∃ x ∈ ms, q = v.set d x := by
  unfold withL
  constructor
  · intro h
    obtain ⟨v, hv, h⟩ := List.mem_flatMap.1 h
    obtain ⟨x, hx, rfl⟩ := List.mem_map.1 h
    exact ⟨v, hv, x, hx, rfl⟩
  · rintro ⟨v, hv, x, hx, rfl⟩
    exact List.mem_flatMap.2 ⟨v, hv, List.mem_map.2 ⟨x, hx, rfl⟩⟩
theorem gI_set {v : List Int} (hv : v.length = 4) {d : Nat} (hd : d < 4) (x : Int) (j : Nat) (hj : j < 4) : gI (v.set d x) j = if j = d then x else gI v j := by
  match v, hv with
  | [a, b, c, e], _ =>
    have h1 : d = 0 ∨ d = 1 ∨ d = 2 ∨ d = 3 := by omega
    have h2 : j = 0 ∨ j = 1 ∨ j = 2 ∨ j = 3 := by omega
    rcases h1 with rfl | rfl | rfl | rfl <;> rcases h2 with rfl | rfl | rfl | rfl <;> rfl
theorem outF_el {ds : List Dm} {t a f : List Int} : ∀ {n : Nat}, n ≤ 4 → ∀ q ∈ outF ds t a f n, okN q ∧ (∀ i, i < n → gI q i ∈ memF ds t a f i) ∧ ∀ i, i < 4 → ¬ i < n → gI q i = 0
  | 0, _, q, hq => by
    simp [outF] at hq
    subst hq
    refine ⟨okN4 ⟨by omega, by omega⟩ ⟨by omega, by omega⟩ ⟨by omega, by omega⟩ ⟨by omega, by omega⟩, fun i hi => by omega, fun i hi _ => ?_⟩
    have h2 : i = 0 ∨ i = 1 ∨ i = 2 ∨ i = 3 := by omega
    rcases h2 with rfl | rfl | rfl | rfl <;> rfl
  | n + 1, hn, q, hq => by
    obtain ⟨v, hv, x, hx, rfl⟩ := mem_withL.1 hq
    obtain ⟨h1, h2, h3⟩ := outF_el (n := n) (by omega) v hv
    have hg := gI_set h1.1 (d := n) (by omega) x
    have hb := memF_byte ds t a f n x hx
    refine ⟨⟨by rw [List.length_set, h1.1], fun y hy => ?_⟩, fun i hi => ?_, fun i hi hni => ?_⟩
    · rcases List.mem_or_eq_of_mem_set hy with hy | rfl
      · exact h1.2 y hy
      · exact hb
    · rw [hg i (by omega)]
      split
      · rename_i e; subst e; exact hx
      · exact h2 i (by omega)
    · rw [hg i hi, if_neg (by omega)]
      exact h3 i hi (by omega)
def keyN (v : List Int) : Int := ((gI v 0 * 256 + gI v 1) * 256 + gI v 2) * 256 + gI v 3
/-- Rising by what the first n numbers come to. -/
theorem memF_sorted (ds : List Dm) (t a f : List Int) (i : Nat) : (memF ds t a f i).Pairwise (· < ·) := by
  unfold memF underD
  split
  · exact underP_sorted' _ _ _ _ _ _
  · exact List.Pairwise.nil
theorem outF_sorted {ds : List Dm} {t a f : List Int} : ∀ {n : Nat}, n ≤ 4 → (outF ds t a f n).Pairwise fun x y => keyN x < keyN y
  | 0, _ => by simp [outF]
  | n + 1, hn => by
    have ih := outF_sorted (ds := ds) (t := t) (a := a) (f := f) (n := n) (by omega)
    unfold outF withL
    rw [List.pairwise_flatMap]
    refine ⟨fun v hv => ?_, ?_⟩
    · obtain ⟨h1, h2, h3⟩ := outF_el (n := n) (by omega) v hv
      rw [List.pairwise_map]
      refine (memF_sorted ds t a f n).imp fun {x y} hxy => ?_
      have gx := gI_set h1.1 (d := n) (by omega) x
      have gy := gI_set h1.1 (d := n) (by omega) y
      unfold keyN
      rw [gx 0 (by omega), gx 1 (by omega), gx 2 (by omega), gx 3 (by omega), gy 0 (by omega), gy 1 (by omega), gy 2 (by omega), gy 3 (by omega)]
      have hn4 : n = 0 ∨ n = 1 ∨ n = 2 ∨ n = 3 := by omega
      rcases hn4 with rfl | rfl | rfl | rfl <;> simp <;> omega
    · refine List.Pairwise.imp_of_mem (R := fun x y => keyN x < keyN y) ?_ ih
      intro v v' hv hv' hlt x hx y hy
      obtain ⟨p, hp, rfl⟩ := List.mem_map.1 hx
      obtain ⟨p', hp', rfl⟩ := List.mem_map.1 hy
      obtain ⟨h1, h2, h3⟩ := outF_el (n := n) (by omega) v hv
      obtain ⟨h1', h2', h3'⟩ := outF_el (n := n) (by omega) v' hv'
      have bp := memF_byte ds t a f n p hp
      have bp' := memF_byte ds t a f n p' hp'
      unfold byte at bp bp'
      have gx := gI_set h1.1 (d := n) (by omega) p
      have gy := gI_set h1'.1 (d := n) (by omega) p'
      unfold keyN at hlt ⊢
      rw [gx 0 (by omega), gx 1 (by omega), gx 2 (by omega), gx 3 (by omega), gy 0 (by omega), gy 1 (by omega), gy 2 (by omega), gy 3 (by omega)]
      have hn4 : n = 0 ∨ n = 1 ∨ n = 2 ∨ n = 3 := by omega
      rcases hn4 with rfl | rfl | rfl | rfl
      · have z0 := h3 0 (by omega) (by omega)
        have z1 := h3 1 (by omega) (by omega)
        have z2 := h3 2 (by omega) (by omega)
        have z3 := h3 3 (by omega) (by omega)
        have y0 := h3' 0 (by omega) (by omega)
        have y1 := h3' 1 (by omega) (by omega)
        have y2 := h3' 2 (by omega) (by omega)
        have y3 := h3' 3 (by omega) (by omega)
        omega
      · have z1 := h3 1 (by omega) (by omega)
        have z2 := h3 2 (by omega) (by omega)
        have z3 := h3 3 (by omega) (by omega)
        have y1 := h3' 1 (by omega) (by omega)
        have y2 := h3' 2 (by omega) (by omega)
        have y3 := h3' 3 (by omega) (by omega)
        simp
        omega
      · have z2 := h3 2 (by omega) (by omega)
        have z3 := h3 3 (by omega) (by omega)
        have y2 := h3' 2 (by omega) (by omega)
        have y3 := h3' 3 (by omega) (by omega)
        simp
        omega
      · have z3 := h3 3 (by omega) (by omega)
        have y3 := h3' 3 (by omega) (by omega)
        simp
        omega
/-! ### As many as there are -/
def gAt (ds : List Dm) (v u : List Int) (i : Nat) (x : Nat) : Nat := (underD (gD ds i).S (gD ds i).U (gI v i) (x : Int) (gI u i)).length
theorem gAt_sum {ds : List Dm} {m : Int} {v u : List Int} (gv : goodN ds m v = true) (gu : goodN ds m u = true) (hv : okN v) (hu : okN u) (hb : belowN u v = true) {i : Nat} (hi : i < ds.length) :
    ((List.range (szN ds v i).toNat).map (gAt ds v u i)).sum = (szN ds u i).toNat := by
  have gc := goodN_good gv
  have hl := goodC_len gc
  have gd := goodC_at gc hi
  have bu := hu.at (i := i) (by omega)
  have bv := hv.at (i := i) (by omega)
  unfold byte at bu bv
  have tv := goodN_at gv hv hi
  have huv := belowN_at hu hv hb (i := i) (by omega)
  have hp := parts_len (fun y => liftD (gD ds i).S (gD ds i).U (gI u i).toNat (gI v i).toNat (y : Int)) (fun _ => true) (szN ds v i).toNat (List.range (szN ds u i).toNat) (fun y hy => by
    rw [List.mem_range] at hy
    unfold szN at hy
    have := liftD_in gd (a := (gI u i).toNat) (b := (gI v i).toNat) (m := (y : Int)) (by omega) (by omega) (by omega) (by rw [Int.toNat_of_nonneg bu.1]; omega)
    rw [Int.toNat_of_nonneg bv.1] at this
    unfold szN
    omega)
  have ft : ∀ (r : List Nat), (r.filter fun _ => true) = r := fun r => List.filter_eq_self.2 fun _ _ => rfl
  rw [ft, ft, List.length_range] at hp
  rw [← hp]
  congr 1
  refine List.map_congr_left fun c hc => ?_
  rw [List.mem_range] at hc
  unfold gAt underD
  have hc' : (c : Int) < sizeD (gD ds i).S (gD ds i).U (gI v i) := by unfold szN at hc; omega
  rw [if_pos ⟨huv, by omega, hc'⟩]
  unfold underP
  rw [List.length_map]
  rfl
theorem nat_of {a : Int} (h : 0 ≤ a) : ∃ n : Nat, a = n := ⟨a.toNat, by omega⟩
theorem fib_sum {ds : List Dm} {m : Int} {v u : List Int} (gv : goodN ds m v = true) (gu : goodN ds m u = true) (hv : okN v) (hu : okN u) (hb : belowN u v = true) :
    (((List.range (costC ds m v).toNat).map fun k => (outF ds v (placeOf ds v k) u ds.length).length).sum : Int) = costC ds m u := by
  have gc := goodN_good gv
  have hl := goodC_len gc
  have hS : ∀ i, i < ds.length → ∃ s : Nat, szN ds v i = s ∧ 0 < s := fun i hi => by
    have := szN_pos gv hv hi
    exact ⟨(szN ds v i).toNat, by omega, by omega⟩
  have hU : ∀ i, i < ds.length → ∃ s : Nat, szN ds u i = s := fun i hi => by
    have := szN_pos gu hu hi
    exact ⟨(szN ds u i).toNat, by omega⟩
  have hlen : ∀ k, (outF ds v (placeOf ds v k) u ds.length).length = (prodTo (fun i => ((memF ds v (placeOf ds v k) u i).length : Int)) ds.length).toNat := fun k => by
    rw [← outF_len]; simp
  have hsum := fun i hi => gAt_sum gv gu hv hu hb (i := i) hi
  have hmem : ∀ k i (x : Nat), gI (placeOf ds v k) i = x → ((memF ds v (placeOf ds v k) u i).length : Int) = gAt ds v u i x := fun k i x h => by
    unfold memF gAt
    rw [h]
  have hg : ∀ k i, i < 4 → gI (placeOf ds v k) i = atJ ds v k 0 i := fun k i hi => by
    have : i = 0 ∨ i = 1 ∨ i = 2 ∨ i = 3 := by omega
    rcases this with rfl | rfl | rfl | rfl <;> rfl
  rw [costC_eq gv, costC_eq gu]
  have h1234 : ds.length = 1 ∨ ds.length = 2 ∨ ds.length = 3 ∨ ds.length = 4 := by omega
  rcases h1234 with hn | hn | hn | hn
  · obtain ⟨s0, e0, p0⟩ := hS 0 (by omega)
    obtain ⟨r0, q0⟩ := hU 0 (by omega)
    have z0 := hsum 0 (by omega)
    rw [e0, q0] at z0
    simp only [Int.toNat_natCast] at z0
    have hT := sum_Tl [(s0, gAt ds v u 0)] (by simp [p0])
    have h0 : ∀ k : Nat, remP ds v k 0 = ((k : Nat) : Int) := fun k => rfl
    have d0 : ∀ k : Nat, gI (placeOf ds v k) 0 = ((k % s0 : Nat) : Int) := fun k => by
      rw [hg k 0 (by omega)]
      unfold atJ
      rw [if_pos ⟨by omega, by omega⟩, show ds.length - 1 - 0 = 0 from by omega, h0, e0]; rfl
    have hterm : ∀ k, (outF ds v (placeOf ds v k) u ds.length).length = Tl [(s0, gAt ds v u 0)] k := fun k => by
      have h := outF_len ds v (placeOf ds v k) u ds.length
      rw [hn] at h ⊢
      simp only [prodTo, hmem _ 0 _ (d0 _), ← Int.natCast_mul, Int.one_mul] at h
      rw [Int.natCast_inj.1 h]
      simp only [Tl, Nat.mul_one]
      try ac_rfl
    have hps : (prodTo (szN ds v) ds.length).toNat = prodS [(s0, gAt ds v u 0)] := by
      rw [hn]
      simp only [prodTo, prodS, e0, Int.one_mul, ← Int.natCast_mul, Int.toNat_natCast, Nat.one_mul]
    rw [hps]
    simp only [hterm]
    rw [hT, hn]
    simp only [prodTo, prodG, z0, q0, Int.one_mul, ← Int.natCast_mul, Nat.mul_one]
  · obtain ⟨s0, e0, p0⟩ := hS 0 (by omega)
    obtain ⟨r0, q0⟩ := hU 0 (by omega)
    have z0 := hsum 0 (by omega)
    rw [e0, q0] at z0
    obtain ⟨s1, e1, p1⟩ := hS 1 (by omega)
    obtain ⟨r1, q1⟩ := hU 1 (by omega)
    have z1 := hsum 1 (by omega)
    rw [e1, q1] at z1
    simp only [Int.toNat_natCast] at z0 z1
    have hT := sum_Tl [(s1, gAt ds v u 1), (s0, gAt ds v u 0)] (by simp [p0, p1])
    have h0 : ∀ k : Nat, remP ds v k 0 = ((k : Nat) : Int) := fun k => rfl
    have h1 : ∀ k : Nat, remP ds v k 1 = ((k / s1 : Nat) : Int) := fun k => by
      rw [show remP ds v k 1 = (remP ds v k 0).tdiv (szN ds v (ds.length - 1 - 0)) from rfl, show ds.length - 1 - 0 = 1 from by omega, h0, e1]; rfl
    have d0 : ∀ k : Nat, gI (placeOf ds v k) 0 = ((k / s1 % s0 : Nat) : Int) := fun k => by
      rw [hg k 0 (by omega)]
      unfold atJ
      rw [if_pos ⟨by omega, by omega⟩, show ds.length - 1 - 0 = 1 from by omega, h1, e0]; rfl
    have d1 : ∀ k : Nat, gI (placeOf ds v k) 1 = ((k % s1 : Nat) : Int) := fun k => by
      rw [hg k 1 (by omega)]
      unfold atJ
      rw [if_pos ⟨by omega, by omega⟩, show ds.length - 1 - 1 = 0 from by omega, h0, e1]; rfl
    have hterm : ∀ k, (outF ds v (placeOf ds v k) u ds.length).length = Tl [(s1, gAt ds v u 1), (s0, gAt ds v u 0)] k := fun k => by
      have h := outF_len ds v (placeOf ds v k) u ds.length
      rw [hn] at h ⊢
      simp only [prodTo, hmem _ 0 _ (d0 _), hmem _ 1 _ (d1 _), ← Int.natCast_mul, Int.one_mul] at h
      rw [Int.natCast_inj.1 h]
      simp only [Tl, Nat.mul_one]
      try ac_rfl
    have hps : (prodTo (szN ds v) ds.length).toNat = prodS [(s1, gAt ds v u 1), (s0, gAt ds v u 0)] := by
      rw [hn]
      simp only [prodTo, prodS, e0, e1, Int.one_mul, ← Int.natCast_mul, Int.toNat_natCast, Nat.one_mul]
    rw [hps]
    simp only [hterm]
    rw [hT, hn]
    simp only [prodTo, prodG, z0, z1, q0, q1, Int.one_mul, ← Int.natCast_mul, Nat.mul_one]
    congr 1
    ac_rfl
  · obtain ⟨s0, e0, p0⟩ := hS 0 (by omega)
    obtain ⟨r0, q0⟩ := hU 0 (by omega)
    have z0 := hsum 0 (by omega)
    rw [e0, q0] at z0
    obtain ⟨s1, e1, p1⟩ := hS 1 (by omega)
    obtain ⟨r1, q1⟩ := hU 1 (by omega)
    have z1 := hsum 1 (by omega)
    rw [e1, q1] at z1
    obtain ⟨s2, e2, p2⟩ := hS 2 (by omega)
    obtain ⟨r2, q2⟩ := hU 2 (by omega)
    have z2 := hsum 2 (by omega)
    rw [e2, q2] at z2
    simp only [Int.toNat_natCast] at z0 z1 z2
    have hT := sum_Tl [(s2, gAt ds v u 2), (s1, gAt ds v u 1), (s0, gAt ds v u 0)] (by simp [p0, p1, p2])
    have h0 : ∀ k : Nat, remP ds v k 0 = ((k : Nat) : Int) := fun k => rfl
    have h1 : ∀ k : Nat, remP ds v k 1 = ((k / s2 : Nat) : Int) := fun k => by
      rw [show remP ds v k 1 = (remP ds v k 0).tdiv (szN ds v (ds.length - 1 - 0)) from rfl, show ds.length - 1 - 0 = 2 from by omega, h0, e2]; rfl
    have h2 : ∀ k : Nat, remP ds v k 2 = ((k / s2 / s1 : Nat) : Int) := fun k => by
      rw [show remP ds v k 2 = (remP ds v k 1).tdiv (szN ds v (ds.length - 1 - 1)) from rfl, show ds.length - 1 - 1 = 1 from by omega, h1, e1]; rfl
    have d0 : ∀ k : Nat, gI (placeOf ds v k) 0 = ((k / s2 / s1 % s0 : Nat) : Int) := fun k => by
      rw [hg k 0 (by omega)]
      unfold atJ
      rw [if_pos ⟨by omega, by omega⟩, show ds.length - 1 - 0 = 2 from by omega, h2, e0]; rfl
    have d1 : ∀ k : Nat, gI (placeOf ds v k) 1 = ((k / s2 % s1 : Nat) : Int) := fun k => by
      rw [hg k 1 (by omega)]
      unfold atJ
      rw [if_pos ⟨by omega, by omega⟩, show ds.length - 1 - 1 = 1 from by omega, h1, e1]; rfl
    have d2 : ∀ k : Nat, gI (placeOf ds v k) 2 = ((k % s2 : Nat) : Int) := fun k => by
      rw [hg k 2 (by omega)]
      unfold atJ
      rw [if_pos ⟨by omega, by omega⟩, show ds.length - 1 - 2 = 0 from by omega, h0, e2]; rfl
    have hterm : ∀ k, (outF ds v (placeOf ds v k) u ds.length).length = Tl [(s2, gAt ds v u 2), (s1, gAt ds v u 1), (s0, gAt ds v u 0)] k := fun k => by
      have h := outF_len ds v (placeOf ds v k) u ds.length
      rw [hn] at h ⊢
      simp only [prodTo, hmem _ 0 _ (d0 _), hmem _ 1 _ (d1 _), hmem _ 2 _ (d2 _), ← Int.natCast_mul, Int.one_mul] at h
      rw [Int.natCast_inj.1 h]
      simp only [Tl, Nat.mul_one]
      try ac_rfl
    have hps : (prodTo (szN ds v) ds.length).toNat = prodS [(s2, gAt ds v u 2), (s1, gAt ds v u 1), (s0, gAt ds v u 0)] := by
      rw [hn]
      simp only [prodTo, prodS, e0, e1, e2, Int.one_mul, ← Int.natCast_mul, Int.toNat_natCast, Nat.one_mul]
    rw [hps]
    simp only [hterm]
    rw [hT, hn]
    simp only [prodTo, prodG, z0, z1, z2, q0, q1, q2, Int.one_mul, ← Int.natCast_mul, Nat.mul_one]
    congr 1
    ac_rfl
  · obtain ⟨s0, e0, p0⟩ := hS 0 (by omega)
    obtain ⟨r0, q0⟩ := hU 0 (by omega)
    have z0 := hsum 0 (by omega)
    rw [e0, q0] at z0
    obtain ⟨s1, e1, p1⟩ := hS 1 (by omega)
    obtain ⟨r1, q1⟩ := hU 1 (by omega)
    have z1 := hsum 1 (by omega)
    rw [e1, q1] at z1
    obtain ⟨s2, e2, p2⟩ := hS 2 (by omega)
    obtain ⟨r2, q2⟩ := hU 2 (by omega)
    have z2 := hsum 2 (by omega)
    rw [e2, q2] at z2
    obtain ⟨s3, e3, p3⟩ := hS 3 (by omega)
    obtain ⟨r3, q3⟩ := hU 3 (by omega)
    have z3 := hsum 3 (by omega)
    rw [e3, q3] at z3
    simp only [Int.toNat_natCast] at z0 z1 z2 z3
    have hT := sum_Tl [(s3, gAt ds v u 3), (s2, gAt ds v u 2), (s1, gAt ds v u 1), (s0, gAt ds v u 0)] (by simp [p0, p1, p2, p3])
    have h0 : ∀ k : Nat, remP ds v k 0 = ((k : Nat) : Int) := fun k => rfl
    have h1 : ∀ k : Nat, remP ds v k 1 = ((k / s3 : Nat) : Int) := fun k => by
      rw [show remP ds v k 1 = (remP ds v k 0).tdiv (szN ds v (ds.length - 1 - 0)) from rfl, show ds.length - 1 - 0 = 3 from by omega, h0, e3]; rfl
    have h2 : ∀ k : Nat, remP ds v k 2 = ((k / s3 / s2 : Nat) : Int) := fun k => by
      rw [show remP ds v k 2 = (remP ds v k 1).tdiv (szN ds v (ds.length - 1 - 1)) from rfl, show ds.length - 1 - 1 = 2 from by omega, h1, e2]; rfl
    have h3 : ∀ k : Nat, remP ds v k 3 = ((k / s3 / s2 / s1 : Nat) : Int) := fun k => by
      rw [show remP ds v k 3 = (remP ds v k 2).tdiv (szN ds v (ds.length - 1 - 2)) from rfl, show ds.length - 1 - 2 = 1 from by omega, h2, e1]; rfl
    have d0 : ∀ k : Nat, gI (placeOf ds v k) 0 = ((k / s3 / s2 / s1 % s0 : Nat) : Int) := fun k => by
      rw [hg k 0 (by omega)]
      unfold atJ
      rw [if_pos ⟨by omega, by omega⟩, show ds.length - 1 - 0 = 3 from by omega, h3, e0]; rfl
    have d1 : ∀ k : Nat, gI (placeOf ds v k) 1 = ((k / s3 / s2 % s1 : Nat) : Int) := fun k => by
      rw [hg k 1 (by omega)]
      unfold atJ
      rw [if_pos ⟨by omega, by omega⟩, show ds.length - 1 - 1 = 2 from by omega, h2, e1]; rfl
    have d2 : ∀ k : Nat, gI (placeOf ds v k) 2 = ((k / s3 % s2 : Nat) : Int) := fun k => by
      rw [hg k 2 (by omega)]
      unfold atJ
      rw [if_pos ⟨by omega, by omega⟩, show ds.length - 1 - 2 = 1 from by omega, h1, e2]; rfl
    have d3 : ∀ k : Nat, gI (placeOf ds v k) 3 = ((k % s3 : Nat) : Int) := fun k => by
      rw [hg k 3 (by omega)]
      unfold atJ
      rw [if_pos ⟨by omega, by omega⟩, show ds.length - 1 - 3 = 0 from by omega, h0, e3]; rfl
    have hterm : ∀ k, (outF ds v (placeOf ds v k) u ds.length).length = Tl [(s3, gAt ds v u 3), (s2, gAt ds v u 2), (s1, gAt ds v u 1), (s0, gAt ds v u 0)] k := fun k => by
      have h := outF_len ds v (placeOf ds v k) u ds.length
      rw [hn] at h ⊢
      simp only [prodTo, hmem _ 0 _ (d0 _), hmem _ 1 _ (d1 _), hmem _ 2 _ (d2 _), hmem _ 3 _ (d3 _), ← Int.natCast_mul, Int.one_mul] at h
      rw [Int.natCast_inj.1 h]
      simp only [Tl, Nat.mul_one]
      try ac_rfl
    have hps : (prodTo (szN ds v) ds.length).toNat = prodS [(s3, gAt ds v u 3), (s2, gAt ds v u 2), (s1, gAt ds v u 1), (s0, gAt ds v u 0)] := by
      rw [hn]
      simp only [prodTo, prodS, e0, e1, e2, e3, Int.one_mul, ← Int.natCast_mul, Int.toNat_natCast, Nat.one_mul]
    rw [hps]
    simp only [hterm]
    rw [hT, hn]
    simp only [prodTo, prodG, z0, z1, z2, z3, q0, q1, q2, q3, Int.one_mul, ← Int.natCast_mul, Nat.mul_one]
    congr 1
    ac_rfl
/-! ### The law -/
theorem mem_under {S : List Int} {U : List (List Int)} {b m a x : Int} (h : x ∈ underD S U b m a) : ∃ k : Nat, x = k ∧ (k : Int) < sizeD S U a ∧ liftD S U a.toNat b.toNat k = m := by
  unfold underD at h
  split at h
  · unfold underP at h
    obtain ⟨k, hk, rfl⟩ := List.mem_map.1 h
    rw [List.mem_filter, List.mem_range, decide_eq_true_eq] at hk
    exact ⟨k, rfl, by omega, hk.2⟩
  · cases h
theorem fib_el {ds : List Dm} {m : Int} {v u : List Int} (gv : goodN ds m v = true) (gu : goodN ds m u = true) (hv : okN v) (hu : okN u) (hb : belowN u v = true) (k : Nat) {q : List Int} (hq : q ∈ outF ds v (placeOf ds v k) u ds.length) :
    okN q ∧ rightC ds m u q = true ∧ toOk ds m u v q = true ∧ toP ds m u v q = placeOf ds v k := by
  have gc := goodN_good gv
  have hl := goodC_len gc
  obtain ⟨h1, h2, h3⟩ := outF_el (n := ds.length) hl.2.1 q hq
  have hmem := fun i hi => mem_under (show gI q i ∈ underD (gD ds i).S (gD ds i).U (gI v i) (gI (placeOf ds v k) i) (gI u i) from h2 i hi)
  have hr : rightC ds m u q = true := by
    unfold rightC
    rw [gc, Bool.true_and, List.all_eq_true]
    intro i hi
    rw [List.mem_range] at hi
    unfold rightAt
    by_cases c : i < ds.length
    · rw [if_pos c, decide_eq_true_eq]
      obtain ⟨x, hx, hx2, _⟩ := hmem i c
      rw [hx]; exact hx2
    · rw [if_neg c, h3 i hi c]
      have hgu := (goodN_iff gc hu).1 gu
      have bu := hu.at hi
      unfold byte at bu
      have hz : gI u i = 0 := by
        have hw0 := wOf_out c
        have : i = 0 ∨ i = 1 ∨ i = 2 ∨ i = 3 := by omega
        rcases this with rfl | rfl | rfl | rfl <;> omega
      rw [hz]; rfl
  have hk : toOk ds m u v q = true := by simp [toOk, hr, gv, hb]
  refine ⟨h1, hr, hk, ?_⟩
  have key : ∀ i, i < 4 → toJ ds u v q ds.length i = gI (placeOf ds v k) i := fun i hi => by
    unfold toJ
    by_cases c : i < ds.length
    · rw [if_pos c]
      obtain ⟨x, hx, _, hx3⟩ := hmem i c
      unfold toI
      rw [hx]; exact hx3
    · rw [if_neg c]
      have hg : gI (placeOf ds v k) i = atJ ds v k 0 i := by
        have : i = 0 ∨ i = 1 ∨ i = 2 ∨ i = 3 := by omega
        rcases this with rfl | rfl | rfl | rfl <;> rfl
      rw [hg]
      unfold atJ
      rw [if_neg (fun h => c h.2)]
  rw [toP_eq hk]
  unfold toL
  rw [key 0 (by omega), key 1 (by omega), key 2 (by omega), key 3 (by omega)]
  rfl
theorem sum_mono (f : Nat → Nat) (i : Nat) : ∀ n, i ≤ n → ((List.range i).map f).sum ≤ ((List.range n).map f).sum
  | 0, h => by have : i = 0 := by omega
               subst this; exact Nat.le_refl _
  | n + 1, h => by
    by_cases c : i = n + 1
    · subst c; exact Nat.le_refl _
    · have := sum_mono f i n (by omega)
      rw [List.range_succ, List.map_append, List.sum_append]
      omega
theorem key_ev (v : List Int) (hv : okN v) : cvF tab 39 [.agg (v.map (.int .u8))] = some (.int .u32 (keyN v)) := by
  obtain ⟨a, b, c, d, rfl, ha, hb, hc, hd⟩ := four hv
  unfold byte at *
  refine cvFA_R (mf := Mf.f39) rfl rfl (by kernel_rfl) ?_
  have e1 : IntKind.u32.wrap a = a := wrap_u32 (by omega) (by omega)
  have e2 : IntKind.u32.wrap b = b := wrap_u32 (by omega) (by omega)
  have e3 : IntKind.u32.wrap c = c := wrap_u32 (by omega) (by omega)
  have e4 : IntKind.u32.wrap d = d := wrap_u32 (by omega) (by omega)
  have e5 : IntKind.u32.wrap (a * 256) = a * 256 := wrap_u32 (by omega) (by omega)
  have e6 : IntKind.u32.wrap (a * 256 + b) = a * 256 + b := wrap_u32 (by omega) (by omega)
  have e7 : IntKind.u32.wrap ((a * 256 + b) * 256) = (a * 256 + b) * 256 := wrap_u32 (by omega) (by omega)
  have e8 : IntKind.u32.wrap ((a * 256 + b) * 256 + c) = (a * 256 + b) * 256 + c := wrap_u32 (by omega) (by omega)
  have e9 : IntKind.u32.wrap (((a * 256 + b) * 256 + c) * 256) = ((a * 256 + b) * 256 + c) * 256 := wrap_u32 (by omega) (by omega)
  have e10 : IntKind.u32.wrap (((a * 256 + b) * 256 + c) * 256 + d) = ((a * 256 + b) * 256 + c) * 256 + d := wrap_u32 (by omega) (by omega)
  simp [Mf.f39, beqI, bneI, mm_min2, mm_max2, mm_min3, mm_max3, startE, lkE, lkX, lkE_rest, sx, substE, opVA, objs0, List.replicate, XA_seq, XA_region, XOA_go, goE_someA, opV, ev, putA, layAll, XOA_nil, XA_skip_seq, XA_skip_nil, XOA_gd, goG_tA, goG_uA, binV, binInt, unV, XA_ret_nil, XA_ret_cons, endFA_r, endFA_n, endTA_r, endTA_n, endRA_r, endRA_n, fltR, resultsA, resAs, resA, XA_block, XA_cond, pickX_t, pickX_f, pickX_b, XA_skip_blk, XA_skip_lp, XA_exit_seq, XA_exit_lp, XA_exit_blk, XA_exit_nil, load1, Ev.loadCells, objCells, bodyCells, setCells, AV.flat, AV.flat1, backR, backV, backCell, mapO, AV.cells, AV.atom, AV.tree, fillV, repeatL, treeCell, freezeAll, eqCells, callV_T, callV_F, passV, passCell, srcCells, sliceBounds, hiB, loB, thenQ_nA, thenQ_xA, thenQ_rA, runK_nA, runK_xA, runK_rA, wrap_i64, wrap_u64, wrap_u32, wrap_u8, wrap_u16, XA_round, normA, lkE, fixObjs, fixBody, fixV, fixCell, goN_someA, e1, e2, e3, e4, e5, e6, e7, e8, e9, e10, keyN, gI]
theorem rising_ev (l : List (List Int)) (hl : l.length ≤ 5000) (hok : ∀ v ∈ l, okN v) (hs : l.Pairwise fun x y => keyN x < keyN y) : cvF tab 23 [rN l] = some (.bool true) := by
  refine cvFA_R (mf := Mf.f23) rfl rfl (by kernel_rfl) ?_
  simp only [Mf.f23]
  have h4 : ∀ v ∈ l, v.length = 4 := fun v hv => (hok v hv).1
  simp [beqI, bneI, mm_min2, mm_max2, mm_min3, mm_max3, startE, lkE, lkX, lkE_rest, sx, substE, opVA, objs0, List.replicate, XA_seq, XA_region, XOA_go, goE_someA, opV, ev, putA, layAll, XOA_nil, XA_skip_seq, XA_skip_nil, XOA_gd, goG_tA, goG_uA, binV, binInt, unV, XA_ret_nil, XA_ret_cons, endFA_r, endFA_n, endTA_r, endTA_n, endRA_r, endRA_n, fltR, resultsA, resAs, resA, XA_block, XA_cond, pickX_t, pickX_f, pickX_b, XA_skip_blk, XA_skip_lp, XA_exit_seq, XA_exit_lp, XA_exit_blk, XA_exit_nil, load1, Ev.loadCells, objCells, bodyCells, setCells, AV.flat, AV.flat1, backR, backV, backCell, mapO, AV.cells, AV.atom, AV.tree, fillV, repeatL, treeCell, freezeAll, eqCells, callV_T, callV_F, passV, passCell, srcCells, sliceBounds, hiB, loB, thenQ_nA, thenQ_xA, thenQ_rA, runK_nA, runK_xA, runK_rA, wrap_i64, wrap_u64, wrap_u32, wrap_u8, wrap_u16, rN]
  refine XA_for (fun j => ⟨[(0, .ro l.length (flatN l)), (3, .int .i64 ((j : Int) + 1))], []⟩)
    (fun _ => True) (l.length - 1) 0 (Nat.zero_le _) (by simp [AV.atom, normA, lkE, fixObjs, fixBody, fixV, fixCell]) trivial ?_ ?_
  · intro j _ hj _
    have hj1 : j + 1 < l.length := by omega
    have hj0 : j < l.length := by omega
    have c1 : (j : Int) + 1 < l.length := by omega
    have c2 : (j : Int) < l.length := by omega
    have c3 : (0 : Int) ≤ (j : Int) + 1 := by omega
    have c4 : ((j : Int) + 1).toNat = j + 1 := by omega
    have w1 : IntKind.i64.wrap (j : Int) = (j : Int) := wrap_i64 (by omega) (by omega)
    have w2 : IntKind.i64.wrap ((j : Int) + 1 + 1) = (j : Int) + 1 + 1 := wrap_i64 (by omega) (by omega)
    have d0 := dropN h4 hj0
    have d1 := dropN h4 hj1
    have k0 := key_ev _ (hok _ (gR_mem hj0))
    have k1 := key_ev _ (hok _ (gR_mem hj1))
    have hlt := List.pairwise_iff_getElem.1 hs j (j + 1) hj0 hj1 (by omega)
    rw [← gR_get _ _ hj0, ← gR_get _ _ hj1] at hlt
    have hlt' : ¬ keyN (gR l (j + 1)) ≤ keyN (gR l j) := by omega
    have l0 := list4 (h4 _ (gR_mem hj0))
    have l1 := list4 (h4 _ (gR_mem hj1))
    generalize keyN (gR l j) = y0 at *
    generalize keyN (gR l (j + 1)) = y1 at *
    rw [l0] at k0
    rw [l1] at k1
    simp only [List.map] at k0 k1
    simp [beqI, bneI, mm_min2, mm_max2, mm_min3, mm_max3, startE, lkE, lkX, lkE_rest, sx, substE, opVA, objs0, List.replicate, XA_seq, XA_region, XOA_go, goE_someA, opV, ev, putA, layAll, XOA_nil, XA_skip_seq, XA_skip_nil, XOA_gd, goG_tA, goG_uA, binV, binInt, unV, XA_ret_nil, XA_ret_cons, endFA_r, endFA_n, endTA_r, endTA_n, endRA_r, endRA_n, fltR, resultsA, resAs, resA, XA_block, XA_cond, pickX_t, pickX_f, pickX_b, XA_skip_blk, XA_skip_lp, XA_exit_seq, XA_exit_lp, XA_exit_blk, XA_exit_nil, load1, Ev.loadCells, objCells, bodyCells, setCells, AV.flat, AV.flat1, backR, backV, backCell, mapO, AV.cells, AV.atom, AV.tree, fillV, repeatL, treeCell, freezeAll, eqCells, callV_T, callV_F, passV, passCell, srcCells, sliceBounds, hiB, loB, thenQ_nA, thenQ_xA, thenQ_rA, runK_nA, runK_xA, runK_rA, wrap_i64, wrap_u64, wrap_u32, wrap_u8, wrap_u16, AV.atom, normA, lkE, fixObjs, fixBody, fixV, fixCell, c1, c2, c3, c4, w1, w2, d0, d1, k0, k1, hlt']
  · intro _
    have c1 : ¬ ((l.length - 1 : Nat) : Int) + 1 < (l.length : Int) := by omega
    simp [beqI, bneI, mm_min2, mm_max2, mm_min3, mm_max3, startE, lkE, lkX, lkE_rest, sx, substE, opVA, objs0, List.replicate, XA_seq, XA_region, XOA_go, goE_someA, opV, ev, putA, layAll, XOA_nil, XA_skip_seq, XA_skip_nil, XOA_gd, goG_tA, goG_uA, binV, binInt, unV, XA_ret_nil, XA_ret_cons, endFA_r, endFA_n, endTA_r, endTA_n, endRA_r, endRA_n, fltR, resultsA, resAs, resA, XA_block, XA_cond, pickX_t, pickX_f, pickX_b, XA_skip_blk, XA_skip_lp, XA_exit_seq, XA_exit_lp, XA_exit_blk, XA_exit_nil, load1, Ev.loadCells, objCells, bodyCells, setCells, AV.flat, AV.flat1, backR, backV, backCell, mapO, AV.cells, AV.atom, AV.tree, fillV, repeatL, treeCell, freezeAll, eqCells, callV_T, callV_F, passV, passCell, srcCells, sliceBounds, hiB, loB, thenQ_nA, thenQ_xA, thenQ_rA, runK_nA, runK_xA, runK_rA, wrap_i64, wrap_u64, wrap_u32, wrap_u8, wrap_u16, AV.atom, normA, lkE, fixObjs, fixBody, fixV, fixCell, c1]
theorem liftParts_ev (ds : List Dm) (m : Int) (v w : List Int) (hC : okC ds) (hv : okN v) (hw : okN w) :
    cvF tab 5 [.agg [.ro ds.length (flatD ds), .int .i64 m], .agg (v.map (.int .u8)), .agg (w.map (.int .u8))] = some (.bool true) := by
  refine cvFA_R (mf := Mf.f5) rfl rfl (by kernel_rfl) ?_
  simp only [Mf.f5]
  have hu := ok_meet hv hw
  have e0 := rmeet_ev v w hv hw
  have e1 := rGood_ev ds m v hC hv
  have e2 := rGood_ev ds m _ hC hu
  have e3 := rcost_ev ds m v hC hv
  have e4 := rcost_ev ds m _ hC hu
  have e5 := places_ev ds m v 600 hC hv
  have hb : belowN (meetN v w) v = true := belowN_of hu hv fun i hi => by rw [gI_meet hv hw hi]; omega
  have hsum := fun gv gu => fib_sum (ds := ds) (m := m) (v := v) (u := meetN v w) gv gu hv hu hb
  have hel := fun gv gu k q hq => fib_el (ds := ds) (m := m) (v := v) (u := meetN v w) gv gu hv hu hb k (q := q) hq
  have hpr := fun gv k => placeOf_right (ds := ds) (m := m) (v := v) gv hv k
  have hpo : goodN ds m v = true → ∀ k, okN (placeOf ds v k) := fun gv k => placeOf_ok gv hv k 0
  have ef := fun p hp => Fiber_ev ds m v p (meetN v w) hC hv hp hu
  have et := fun q hq => To_ev ds m (meetN v w) v q hC hu hv hq
  have er := fun q hq => rright_ev ds m (meetN v w) q hC hu hq
  have hsort := fun p => outF_sorted (ds := ds) (t := v) (a := p) (f := meetN v w) (n := ds.length)
  generalize meetN v w = u at *
  obtain ⟨v0, v1, v2, v3, rfl, -, -, -, -⟩ := four hv
  obtain ⟨w0, w1, w2, w3, rfl, -, -, -, -⟩ := four hw
  obtain ⟨u0, u1, u2, u3, rfl, -, -, -, -⟩ := four hu
  simp only [List.map] at e0 e1 e2 e3 e4 e5 ef et er
  cases gv : goodN ds m [v0, v1, v2, v3] with
  | false =>
    rw [gv] at e1
    simp [beqI, bneI, mm_min2, mm_max2, mm_min3, mm_max3, startE, lkE, lkX, lkE_rest, sx, substE, opVA, objs0, List.replicate, XA_seq, XA_region, XOA_go, goE_someA, opV, ev, putA, layAll, XOA_nil, XA_skip_seq, XA_skip_nil, XOA_gd, goG_tA, goG_uA, binV, binInt, unV, XA_ret_nil, XA_ret_cons, endFA_r, endFA_n, endTA_r, endTA_n, endRA_r, endRA_n, fltR, resultsA, resAs, resA, XA_block, XA_cond, pickX_t, pickX_f, pickX_b, XA_skip_blk, XA_skip_lp, XA_exit_seq, XA_exit_lp, XA_exit_blk, XA_exit_nil, load1, Ev.loadCells, objCells, bodyCells, setCells, AV.flat, AV.flat1, backR, backV, backCell, mapO, AV.cells, AV.atom, AV.tree, fillV, repeatL, treeCell, freezeAll, eqCells, callV_T, callV_F, passV, passCell, srcCells, sliceBounds, hiB, loB, thenQ_nA, thenQ_xA, thenQ_rA, runK_nA, runK_xA, runK_rA, wrap_i64, wrap_u64, wrap_u32, wrap_u8, wrap_u16, e0, e1, wakes_ev]
  | true =>
    rw [gv] at e1
    cases gu : goodN ds m [u0, u1, u2, u3] with
    | false =>
      rw [gu] at e2
      simp [beqI, bneI, mm_min2, mm_max2, mm_min3, mm_max3, startE, lkE, lkX, lkE_rest, sx, substE, opVA, objs0, List.replicate, XA_seq, XA_region, XOA_go, goE_someA, opV, ev, putA, layAll, XOA_nil, XA_skip_seq, XA_skip_nil, XOA_gd, goG_tA, goG_uA, binV, binInt, unV, XA_ret_nil, XA_ret_cons, endFA_r, endFA_n, endTA_r, endTA_n, endRA_r, endRA_n, fltR, resultsA, resAs, resA, XA_block, XA_cond, pickX_t, pickX_f, pickX_b, XA_skip_blk, XA_skip_lp, XA_exit_seq, XA_exit_lp, XA_exit_blk, XA_exit_nil, load1, Ev.loadCells, objCells, bodyCells, setCells, AV.flat, AV.flat1, backR, backV, backCell, mapO, AV.cells, AV.atom, AV.tree, fillV, repeatL, treeCell, freezeAll, eqCells, callV_T, callV_F, passV, passCell, srcCells, sliceBounds, hiB, loB, thenQ_nA, thenQ_xA, thenQ_rA, runK_nA, runK_xA, runK_rA, wrap_i64, wrap_u64, wrap_u32, wrap_u8, wrap_u16, e0, e1, e2, wakes_ev]
    | true =>
      rw [gu] at e2
      by_cases c1 : 5000 < costC ds m [u0, u1, u2, u3]
      · simp [beqI, bneI, mm_min2, mm_max2, mm_min3, mm_max3, startE, lkE, lkX, lkE_rest, sx, substE, opVA, objs0, List.replicate, XA_seq, XA_region, XOA_go, goE_someA, opV, ev, putA, layAll, XOA_nil, XA_skip_seq, XA_skip_nil, XOA_gd, goG_tA, goG_uA, binV, binInt, unV, XA_ret_nil, XA_ret_cons, endFA_r, endFA_n, endTA_r, endTA_n, endRA_r, endRA_n, fltR, resultsA, resAs, resA, XA_block, XA_cond, pickX_t, pickX_f, pickX_b, XA_skip_blk, XA_skip_lp, XA_exit_seq, XA_exit_lp, XA_exit_blk, XA_exit_nil, load1, Ev.loadCells, objCells, bodyCells, setCells, AV.flat, AV.flat1, backR, backV, backCell, mapO, AV.cells, AV.atom, AV.tree, fillV, repeatL, treeCell, freezeAll, eqCells, callV_T, callV_F, passV, passCell, srcCells, sliceBounds, hiB, loB, thenQ_nA, thenQ_xA, thenQ_rA, runK_nA, runK_xA, runK_rA, wrap_i64, wrap_u64, wrap_u32, wrap_u8, wrap_u16, e0, e1, e2, e4, c1, wakes_ev]
      · by_cases c2 : 600 < costC ds m [v0, v1, v2, v3]
        · simp [beqI, bneI, mm_min2, mm_max2, mm_min3, mm_max3, startE, lkE, lkX, lkE_rest, sx, substE, opVA, objs0, List.replicate, XA_seq, XA_region, XOA_go, goE_someA, opV, ev, putA, layAll, XOA_nil, XA_skip_seq, XA_skip_nil, XOA_gd, goG_tA, goG_uA, binV, binInt, unV, XA_ret_nil, XA_ret_cons, endFA_r, endFA_n, endTA_r, endTA_n, endRA_r, endRA_n, fltR, resultsA, resAs, resA, XA_block, XA_cond, pickX_t, pickX_f, pickX_b, XA_skip_blk, XA_skip_lp, XA_exit_seq, XA_exit_lp, XA_exit_blk, XA_exit_nil, load1, Ev.loadCells, objCells, bodyCells, setCells, AV.flat, AV.flat1, backR, backV, backCell, mapO, AV.cells, AV.atom, AV.tree, fillV, repeatL, treeCell, freezeAll, eqCells, callV_T, callV_F, passV, passCell, srcCells, sliceBounds, hiB, loB, thenQ_nA, thenQ_xA, thenQ_rA, runK_nA, runK_xA, runK_rA, wrap_i64, wrap_u64, wrap_u32, wrap_u8, wrap_u16, e0, e1, e2, e3, e4, c1, c2, wakes_ev]
        · have gc := goodN_good gv
          have hl := goodC_len gc
          have hpl : placesN ds m [v0, v1, v2, v3] 600 = placesP ds [v0, v1, v2, v3] (costC ds m [v0, v1, v2, v3]).toNat := by unfold placesN; rw [if_neg c2]
          rw [hpl] at e5
          have hsum := hsum gv gu
          have hel := hel gv gu
          have hpr := hpr gv
          have hpo := hpo gv
          obtain ⟨N, hN⟩ : ∃ N, (costC ds m [v0, v1, v2, v3]).toNat = N := ⟨_, rfl⟩
          have hcr := costC_range ds m [v0, v1, v2, v3]
          have hNle : N ≤ 600 := by omega
          rw [hN] at e5 hsum
          have hplen : (placesP ds [v0, v1, v2, v3] N).length = N := by simp [placesP]
          have hp4 := placesP_len4 ds [v0, v1, v2, v3] N
          have hpg : ∀ k, k < N → gR (placesP ds [v0, v1, v2, v3] N) k = placeOf ds [v0, v1, v2, v3] k := fun k hk => by
            rw [gR_get _ _ (by rw [hplen]; exact hk)]
            simp [placesP]
          simp only [rN, hplen] at e5
          have hsl : (flatN (placesP ds [v0, v1, v2, v3] N)).length = N * 4 := by rw [flatN_len hp4, hplen]
          simp [beqI, bneI, mm_min2, mm_max2, mm_min3, mm_max3, startE, lkE, lkX, lkE_rest, sx, substE, opVA, objs0, List.replicate, XA_seq, XA_region, XOA_go, goE_someA, opV, ev, putA, layAll, XOA_nil, XA_skip_seq, XA_skip_nil, XOA_gd, goG_tA, goG_uA, binV, binInt, unV, XA_ret_nil, XA_ret_cons, endFA_r, endFA_n, endTA_r, endTA_n, endRA_r, endRA_n, fltR, resultsA, resAs, resA, XA_block, XA_cond, pickX_t, pickX_f, pickX_b, XA_skip_blk, XA_skip_lp, XA_exit_seq, XA_exit_lp, XA_exit_blk, XA_exit_nil, load1, Ev.loadCells, objCells, bodyCells, setCells, AV.flat, AV.flat1, backR, backV, backCell, mapO, AV.cells, AV.atom, AV.tree, fillV, repeatL, treeCell, freezeAll, eqCells, callV_T, callV_F, passV, passCell, srcCells, sliceBounds, hiB, loB, thenQ_nA, thenQ_xA, thenQ_rA, runK_nA, runK_xA, runK_rA, wrap_i64, wrap_u64, wrap_u32, wrap_u8, wrap_u16, e0, e1, e2, e3, e4, e5, c1, c2]
          refine XA_for (fun i => ⟨[(3, .ptr 0 0 0), (4, .ptr 1 0 0), (7, .ptr 3 0 0), (8, .ro N (flatN (placesP ds [v0, v1, v2, v3] N))), (9, .int .i64 ((((List.range i).map fun k => (outF ds [v0, v1, v2, v3] (placeOf ds [v0, v1, v2, v3] k) [u0, u1, u2, u3] ds.length).length).sum : Nat) : Int)), (10, .int .i64 i)], [⟨0, .var [.ro ds.length (flatD ds), .int .i64 m]⟩, ⟨0, .var [.int .u8 v0, .int .u8 v1, .int .u8 v2, .int .u8 v3]⟩, ⟨0, .none⟩, ⟨0, .var [.int .u8 u0, .int .u8 u1, .int .u8 u2, .int .u8 u3]⟩, ⟨0, .none⟩]⟩)
            (fun _ => True) N 0 (Nat.zero_le _) (by simp [AV.atom, normA, lkE, fixObjs, fixBody, fixV, fixCell]) trivial ?_ ?_
          · intro i _ hi _
            have hi' : (i : Int) < N := by omega
            have hdr := dropN hp4 (i := i) (by rw [hplen]; exact hi)
            rw [hpg i hi] at hdr
            have hok := hpo i
            have hri := hpr i
            have hefi := ef (placeOf ds [v0, v1, v2, v3] i) hok
            have heli := hel i
            have hso := hsort (placeOf ds [v0, v1, v2, v3] i) hl.2.1
            have hm1 := sum_mono (fun k => (outF ds [v0, v1, v2, v3] (placeOf ds [v0, v1, v2, v3] k) [u0, u1, u2, u3] ds.length).length) (i + 1) N (by omega)
            have hsucc : ((List.range (i + 1)).map fun k => (outF ds [v0, v1, v2, v3] (placeOf ds [v0, v1, v2, v3] k) [u0, u1, u2, u3] ds.length).length).sum = ((List.range i).map fun k => (outF ds [v0, v1, v2, v3] (placeOf ds [v0, v1, v2, v3] k) [u0, u1, u2, u3] ds.length).length).sum + (outF ds [v0, v1, v2, v3] (placeOf ds [v0, v1, v2, v3] i) [u0, u1, u2, u3] ds.length).length := by
              rw [List.range_succ, List.map_append, List.sum_append]; simp
            have hfc : fiberC ds m [v0, v1, v2, v3] (placeOf ds [v0, v1, v2, v3] i) [u0, u1, u2, u3] = outF ds [v0, v1, v2, v3] (placeOf ds [v0, v1, v2, v3] i) [u0, u1, u2, u3] ds.length := by
              unfold fiberC
              rw [if_pos (by simp [fibOk, hri, gu, hb]), if_neg (by omega)]
            rw [hfc] at hefi
            have hfl5 : (outF ds [v0, v1, v2, v3] (placeOf ds [v0, v1, v2, v3] i) [u0, u1, u2, u3] ds.length).length ≤ 5000 := by omega
            rw [hsucc] at hm1 ⊢
            generalize hsA : ((List.range i).map fun k => (outF ds [v0, v1, v2, v3] (placeOf ds [v0, v1, v2, v3] k) [u0, u1, u2, u3] ds.length).length).sum = sA at *
            have hsA5 : sA + (outF ds [v0, v1, v2, v3] (placeOf ds [v0, v1, v2, v3] i) [u0, u1, u2, u3] ds.length).length ≤ 5000 := by omega
            generalize outF ds [v0, v1, v2, v3] (placeOf ds [v0, v1, v2, v3] i) [u0, u1, u2, u3] ds.length = fb at *
            generalize placeOf ds [v0, v1, v2, v3] i = p at *
            obtain ⟨p0, p1, p2, p3, rfl, -, -, -, -⟩ := four hok
            have hri2 := rising_ev fb hfl5 (fun q hq => (heli q hq).1) hso
            have hf4 : ∀ q ∈ fb, q.length = 4 := fun q hq => (heli q hq).1.1
            have hws := wrap_succ i N hi (by omega)
            simp [gI] at hdr
            simp only [List.map, rN] at hefi hri2
            simp [beqI, bneI, mm_min2, mm_max2, mm_min3, mm_max3, startE, lkE, lkX, lkE_rest, sx, substE, opVA, objs0, List.replicate, XA_seq, XA_region, XOA_go, goE_someA, opV, ev, putA, layAll, XOA_nil, XA_skip_seq, XA_skip_nil, XOA_gd, goG_tA, goG_uA, binV, binInt, unV, XA_ret_nil, XA_ret_cons, endFA_r, endFA_n, endTA_r, endTA_n, endRA_r, endRA_n, fltR, resultsA, resAs, resA, XA_block, XA_cond, pickX_t, pickX_f, pickX_b, XA_skip_blk, XA_skip_lp, XA_exit_seq, XA_exit_lp, XA_exit_blk, XA_exit_nil, load1, Ev.loadCells, objCells, bodyCells, setCells, AV.flat, AV.flat1, backR, backV, backCell, mapO, AV.cells, AV.atom, AV.tree, fillV, repeatL, treeCell, freezeAll, eqCells, callV_T, callV_F, passV, passCell, srcCells, sliceBounds, hiB, loB, thenQ_nA, thenQ_xA, thenQ_rA, runK_nA, runK_xA, runK_rA, wrap_i64, wrap_u64, wrap_u32, wrap_u8, wrap_u16, AV.atom, normA, lkE, fixObjs, fixBody, fixV, fixCell, hi', hdr, hefi, hri2]
            refine XA_for (fun k => ⟨[(3, .ptr 0 0 0), (4, .ptr 1 0 0), (7, .ptr 3 0 0), (8, .ro N (flatN (placesP ds [v0, v1, v2, v3] N))), (9, .int .i64 sA), (10, .int .i64 i), (11, .ro fb.length (flatN fb)), (12, .int .i64 k)], [⟨0, .var [.ro ds.length (flatD ds), .int .i64 m]⟩, ⟨0, .var [.int .u8 v0, .int .u8 v1, .int .u8 v2, .int .u8 v3]⟩, ⟨0, .none⟩, ⟨0, .var [.int .u8 u0, .int .u8 u1, .int .u8 u2, .int .u8 u3]⟩, ⟨0, .none⟩]⟩)
              (fun _ => True) fb.length 0 (Nat.zero_le _) (by simp [AV.atom, normA, lkE, fixObjs, fixBody, fixV, fixCell]) trivial ?_ ?_
            · intro k _ hk _
              have hk' : (k : Int) < fb.length := by omega
              have hdk := dropN hf4 hk
              obtain ⟨q1, q2, q3, q4⟩ := heli _ (gR_mem hk)
              have t1 := et _ q1
              have t2 := er _ q1
              rw [q3, q4] at t1
              rw [q2] at t2
              rw [list4 q1.1] at t1 t2
              simp only [List.map] at t1 t2
              simp [beqI, bneI, mm_min2, mm_max2, mm_min3, mm_max3, startE, lkE, lkX, lkE_rest, sx, substE, opVA, objs0, List.replicate, XA_seq, XA_region, XOA_go, goE_someA, opV, ev, putA, layAll, XOA_nil, XA_skip_seq, XA_skip_nil, XOA_gd, goG_tA, goG_uA, binV, binInt, unV, XA_ret_nil, XA_ret_cons, endFA_r, endFA_n, endTA_r, endTA_n, endRA_r, endRA_n, fltR, resultsA, resAs, resA, XA_block, XA_cond, pickX_t, pickX_f, pickX_b, XA_skip_blk, XA_skip_lp, XA_exit_seq, XA_exit_lp, XA_exit_blk, XA_exit_nil, load1, Ev.loadCells, objCells, bodyCells, setCells, AV.flat, AV.flat1, backR, backV, backCell, mapO, AV.cells, AV.atom, AV.tree, fillV, repeatL, treeCell, freezeAll, eqCells, callV_T, callV_F, passV, passCell, srcCells, sliceBounds, hiB, loB, thenQ_nA, thenQ_xA, thenQ_rA, runK_nA, runK_xA, runK_rA, wrap_i64, wrap_u64, wrap_u32, wrap_u8, wrap_u16, AV.atom, normA, lkE, fixObjs, fixBody, fixV, fixCell, hi', hk', hdr, hdk, t1, t2, wrap_succ k fb.length hk (by omega)]
            · intro _
              have hws2 : IntKind.i64.wrap ((sA : Int) + (fb.length : Int)) = (sA : Int) + (fb.length : Int) := wrap_i64 (by omega) (by omega)
              simp [beqI, bneI, mm_min2, mm_max2, mm_min3, mm_max3, startE, lkE, lkX, lkE_rest, sx, substE, opVA, objs0, List.replicate, XA_seq, XA_region, XOA_go, goE_someA, opV, ev, putA, layAll, XOA_nil, XA_skip_seq, XA_skip_nil, XOA_gd, goG_tA, goG_uA, binV, binInt, unV, XA_ret_nil, XA_ret_cons, endFA_r, endFA_n, endTA_r, endTA_n, endRA_r, endRA_n, fltR, resultsA, resAs, resA, XA_block, XA_cond, pickX_t, pickX_f, pickX_b, XA_skip_blk, XA_skip_lp, XA_exit_seq, XA_exit_lp, XA_exit_blk, XA_exit_nil, load1, Ev.loadCells, objCells, bodyCells, setCells, AV.flat, AV.flat1, backR, backV, backCell, mapO, AV.cells, AV.atom, AV.tree, fillV, repeatL, treeCell, freezeAll, eqCells, callV_T, callV_F, passV, passCell, srcCells, sliceBounds, hiB, loB, thenQ_nA, thenQ_xA, thenQ_rA, runK_nA, runK_xA, runK_rA, wrap_i64, wrap_u64, wrap_u32, wrap_u8, wrap_u16, AV.atom, normA, lkE, fixObjs, fixBody, fixV, fixCell, hws, hws2]
          · intro _
            simp [beqI, bneI, mm_min2, mm_max2, mm_min3, mm_max3, startE, lkE, lkX, lkE_rest, sx, substE, opVA, objs0, List.replicate, XA_seq, XA_region, XOA_go, goE_someA, opV, ev, putA, layAll, XOA_nil, XA_skip_seq, XA_skip_nil, XOA_gd, goG_tA, goG_uA, binV, binInt, unV, XA_ret_nil, XA_ret_cons, endFA_r, endFA_n, endTA_r, endTA_n, endRA_r, endRA_n, fltR, resultsA, resAs, resA, XA_block, XA_cond, pickX_t, pickX_f, pickX_b, XA_skip_blk, XA_skip_lp, XA_exit_seq, XA_exit_lp, XA_exit_blk, XA_exit_nil, load1, Ev.loadCells, objCells, bodyCells, setCells, AV.flat, AV.flat1, backR, backV, backCell, mapO, AV.cells, AV.atom, AV.tree, fillV, repeatL, treeCell, freezeAll, eqCells, callV_T, callV_F, passV, passCell, srcCells, sliceBounds, hiB, loB, thenQ_nA, thenQ_xA, thenQ_rA, runK_nA, runK_xA, runK_rA, wrap_i64, wrap_u64, wrap_u32, wrap_u8, wrap_u16, AV.atom, normA, lkE, fixObjs, fixBody, fixV, fixCell, hsum, e4, wakes_ev]
theorem liftParts_law (l : List AV) (h : RDargs [gCat, gN, gN] l) : ∃ H1, cfT tab 5 l [] = some (.bool true, H1) := by
  obtain ⟨c, r, rfl, hc, v, r, rfl, hv, w, r, rfl, hw, rfl⟩ := h
  obtain ⟨ds, m, rfl, hC, hm⟩ := rdarg_cat hc
  obtain ⟨v, rfl, hv'⟩ := rdarg_n hv
  obtain ⟨w, rfl, hw'⟩ := rdarg_n hw
  exact cvF_bool (liftParts_ev ds m v w hC hv' hw')
theorem liftParts_lifted (os : Os) (started : os.Started) (H : Type) (enc : TypeId × Value → H) :
    ReturnsInHanded {} Try.checked os 5 .any (Rows.liftPartsSpec.pre6 enc Try.prog Try.f5 Rows.liftPartsRow.domain false) (Rows.liftPartsSpec.post enc Try.prog Try.f5 false true false false) := by
  refine returnsInHanded_of_change (C := Try.checked) Try.own started (by kernel_rfl) Try.func5
    (ChangeSpec.witness6 (enc := enc) (C := Try.checked) false ⟨#[], #[.agg #[.slice none 0 0, .int .i64 0], .agg #[.int .u8 0, .int .u8 0, .int .u8 0, .int .u8 0], .agg #[.int .u8 0, .int .u8 0, .int .u8 0, .int .u8 0]], []⟩ 8 (by kernel_rfl) (by kernel_rfl) (by kernel_rfl) (by kernel_rfl)) ?_
  intro W base args ds gs before hval hW hcnd _
  have hval' : ∀ (j : Nat) (t : TypeId) (v : Value), Try.f5.params.toList[j]? = some t → args[j]? = some v → Value.okWide Try.prog W .any base t v := fun j t v h1 h2 => hval j t v (by simpa using h1) h2
  obtain ⟨p, q, hA, hV, hpq, _, _⟩ := id hW
  have hg : gtsB Try.prog [gCat, gN, gN] Try.f5.params.toList = true := by kernel_rfl
  refine (law_calls' tab_ok hg liftParts_law hval' hA).mono fun e W' ⟨he, hb⟩ => ?_
  subst he
  refine ⟨_, rfl, post_true Try.laidOut (rt := 4) (fun ds h => ?_) rfl (by kernel_rfl) (by kernel_rfl) (by kernel_rfl) hW hb⟩
  match ds, h with
  | [_, _, _], _ => rfl
theorem liftParts_holds : Rows.LiftPartsSaid :=
  OpenClaim.holds_of_wide 5 Try.f5 rfl rfl rfl rfl rfl rfl rfl ⟨rfl, rfl, rfl, rfl, rfl⟩ rfl rfl rfl rfl rfl (by kernel_rfl) Try.func5 (by kernel_rfl)
    (of_decide_eq_true (by kernel_rfl)) (by unfold Func.isWrapper; first | (rw [if_pos (by decide +kernel)]; kernel_rfl) | (rw [if_neg (by decide +kernel)]; exact ⟨rfl, rfl⟩))
    (fun os started H enc _ => liftParts_lifted os started H enc)
end Go.Proofs.Ytafjljlcdfccjaa
