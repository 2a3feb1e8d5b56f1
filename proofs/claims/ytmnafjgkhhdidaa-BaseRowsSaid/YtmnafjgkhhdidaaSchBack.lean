/- A catalog that may be is read as it was written; a byte more, or fewer, is none; unlike ones are written unlike. -/
import Derived.Test.YtmnafjgkhhdidaaSchT
import Derived.Test.YtmnafjgkhhdidaaSchCom
set_option linter.unusedSimpArgs false
set_option linter.unusedVariables false
set_option maxHeartbeats 4000000
set_option maxRecDepth 100000
namespace Go.Proofs.Ytmnafjgkhhdidaa
open Go.Ev
def u8s (l : List Int) : List UInt8 := l.map fun n => UInt8.ofNat n.toNat
theorem u8s_eq {a b : List Int} (ha : okB a) (hb : okB b) : (u8s a == u8s b) = decide (a = b) := by
  have key : ∀ (a b : List Int), okB a → okB b → u8s a = u8s b → a = b := by
    intro a
    induction a with
    | nil => intro b _ _ h; cases b with
      | nil => rfl
      | cons x b => simp [u8s] at h
    | cons y a ih =>
      intro b ha hb h
      cases b with
      | nil => simp [u8s] at h
      | cons x b =>
        simp only [u8s, List.map_cons, List.cons.injEq] at h
        have hy := ha y (by simp)
        have hx := hb x (by simp)
        unfold byte at hx hy
        have h1 := congrArg UInt8.toNat h.1
        simp only [UInt8.toNat_ofNat'] at h1
        have : y = x := by omega
        rw [this, ih b (fun z hz => ha z (by simp [hz])) (fun z hz => hb z (by simp [hz])) h.2]
  by_cases h : a = b
  · subst h; simp
  · simp only [h, decide_false, beq_eq_false_iff_ne]
    exact fun c => h (key a b ha hb c)
theorem putL_ok (l : List Int) : okB (putL l) := by
  intro x hx
  unfold putL at hx
  obtain ⟨n, _, h⟩ := List.mem_flatMap.1 hx
  exact digN_ok _ x h
theorem bytesG_ok (ds : List Dm) (m : Int) : okB (bytesG ds m) := by
  intro x hx
  unfold bytesG headB dimB at hx
  simp only [List.mem_append, List.mem_flatMap] at hx
  rcases hx with (h | h) | ⟨d, _, h | h | ⟨l, _, h⟩⟩
  · exact digN_ok _ x h
  · exact digN_ok _ x h
  · exact digN_ok _ x h
  · exact putL_ok _ x h
  · exact putL_ok _ x h
theorem bytesC_ok (ds : List Dm) (m : Int) : okB (bytesC ds m) := by
  unfold bytesC
  split
  · exact bytesG_ok ds m
  · intro x hx; cases hx
theorem bytesG_len {ds : List Dm} {m : Int} (g : goodC ds m = true) : 0 < (bytesG ds m).length ∧ (bytesG ds m).length ≤ 6000 := by
  have h1 := headB_len g
  have h2 := take_len g ds.length
  rw [List.take_length] at h2
  have h3 := digN_pos m.toNat
  unfold bytesG headB at *
  simp only [List.length_append] at *
  omega
/-- Two readings of one text are one. -/
theorem bytesG_pre {ds ds2 : List Dm} {m m2 : Int} {r r2 : List Int} (g : goodC ds m = true) (g2 : goodC ds2 m2 = true) (h : bytesG ds m ++ r = bytesG ds2 m2 ++ r2) : m = m2 ∧ ds = ds2 ∧ r = r2 := by
  have h1 := cat_full numS_P (st := stS) rfl g r
  have h2 := cat_full numS_P (st := stS) rfl g2 r2
  rw [h, h2] at h1
  simp at h1
  exact ⟨h1.1.symm, h1.2.1.symm, h1.2.2.symm⟩
theorem read_self {ds : List Dm} {m : Int} (g : goodC ds m = true) : readG numS stS (bytesG ds m) = some (m, ds) :=
  (readG_iff numS_P rfl (bytesG_ok ds m) m ds).2 ⟨g, rfl⟩
theorem read_more {ds : List Dm} {m : Int} (g : goodC ds m = true) {r : List Int} (hr : okB r) (h0 : r ≠ []) : readG numS stS (bytesG ds m ++ r) = none := by
  cases e : readG numS stS (bytesG ds m ++ r) with
  | none => rfl
  | some p =>
    obtain ⟨m2, ds2⟩ := p
    obtain ⟨g2, h⟩ := (readG_iff numS_P (st := stS) rfl (fun x hx => (List.mem_append.1 hx).elim (bytesG_ok ds m x) (hr x)) m2 ds2).1 e
    rw [← List.append_nil (bytesG ds2 m2)] at h
    exact absurd (bytesG_pre g g2 h).2.2 h0
theorem read_less {ds : List Dm} {m : Int} (g : goodC ds m = true) {b r : List Int} (hb : bytesG ds m = b ++ r) (h0 : r ≠ []) : readG numS stS b = none := by
  cases e : readG numS stS b with
  | none => rfl
  | some p =>
    obtain ⟨m2, ds2⟩ := p
    have hok : okB b := fun x hx => bytesG_ok ds m x (by rw [hb]; simp [hx])
    obtain ⟨g2, h⟩ := (readG_iff numS_P (st := stS) rfl hok m2 ds2).1 e
    rw [h, ← List.append_nil (bytesG ds m)] at hb
    exact absurd (bytesG_pre g g2 hb).2.2.symm h0
theorem bytes_same {ds ds2 : List Dm} {m m2 : Int} (g : goodC ds m = true) : decide (bytesC ds2 m2 = bytesG ds m) = sameC ds m ds2 m2 := by
  unfold sameC
  refine decide_eq_decide.2 ⟨fun h => ?_, ?_⟩
  · cases g2 : goodC ds2 m2 with
    | false =>
      unfold bytesC at h
      rw [g2] at h
      have := (bytesG_len g).1
      rw [← h] at this
      simp at this
    | true =>
      unfold bytesC at h
      rw [if_pos g2, ← List.append_nil (bytesG ds2 m2), ← List.append_nil (bytesG ds m)] at h
      have := bytesG_pre g2 g h
      exact ⟨this.1.symm, this.2.1.symm⟩
  · rintro ⟨rfl, rfl⟩
    unfold bytesC
    rw [if_pos g]
end Go.Proofs.Ytmnafjgkhhdidaa
