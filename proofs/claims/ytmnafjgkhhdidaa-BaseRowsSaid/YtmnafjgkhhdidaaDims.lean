/- Arguments: numbers, rows, dimensions. -/
import Derived.Test.YtmnafjgkhhdidaaTab
set_option linter.unusedSimpArgs false
set_option linter.unusedVariables false
namespace Go.Proofs.Ytmnafjgkhhdidaa
open Go.Ev
theorem rd_i64 {cs : List AV} (h : RD (.int .i64) cs) : ∃ n, cs = [.int .i64 n] ∧ inI n := by
  obtain ⟨n, h1, h2, h3⟩ := h
  refine ⟨n, h1, ?_⟩
  simp only [IntKind.min, IntKind.max, IntKind.signed, IntKind.bits] at h2 h3
  exact ⟨by simpa using h2, by simpa using h3⟩
theorem rd_u8 {cs : List AV} (h : RD (.int .u8) cs) : ∃ n, cs = [.int .u8 n] ∧ 0 ≤ n ∧ n ≤ 255 := by
  obtain ⟨n, h1, h2, h3⟩ := h
  refine ⟨n, h1, ?_⟩
  simp only [IntKind.min, IntKind.max, IntKind.signed, IntKind.bits] at h2 h3
  exact ⟨by simpa using h2, by simpa using h3⟩
theorem rd_map {α : Type} {g : GT} {f : α → AV} {P : α → Prop} (hg : ∀ cs, RD g cs → ∃ x, cs = [f x] ∧ P x) : ∀ {L : List (List AV)}, (∀ x ∈ L, RD g x) → ∃ l : List α, L.length = l.length ∧ L.flatten = l.map f ∧ ∀ x ∈ l, P x
  | [], _ => ⟨[], rfl, rfl, fun x hx => by cases hx⟩
  | c :: L, h => by
    obtain ⟨x, rfl, hx⟩ := hg c (h c (by simp))
    obtain ⟨l, h1, h2, h3⟩ := rd_map hg (L := L) fun y hy => h y (by simp [hy])
    refine ⟨x :: l, by simp [h1], by simp [h2], fun y hy => ?_⟩
    rcases List.mem_cons.1 hy with rfl | hy
    · exact hx
    · exact h3 y hy
theorem rd_slice {α : Type} {g : GT} {f : α → AV} {P : α → Prop} (hg : ∀ cs, RD g cs → ∃ x, cs = [f x] ∧ P x) {cs : List AV} (h : RD (.slice g) cs) : ∃ l : List α, cs = [.ro l.length (l.map f)] ∧ l.length ≤ 9223372036854775807 ∧ ∀ x ∈ l, P x := by
  obtain ⟨L, rfl, h2, h3⟩ := h
  obtain ⟨l, h4, h5, h6⟩ := rd_map hg h3
  refine ⟨l, by rw [h4, h5], ?_, h6⟩
  rw [← h4]
  exact Nat.le_trans h2 (by decide)
def okI (l : List Int) : Prop := l.length ≤ 9223372036854775807 ∧ ∀ x ∈ l, inI x
theorem rd_ints {cs : List AV} (h : RD (.slice (.int .i64)) cs) : ∃ l : List Int, cs = [rI l] ∧ okI l := by
  obtain ⟨l, h1, h2, h3⟩ := rd_slice (fun cs h => rd_i64 h) h
  exact ⟨l, h1, h2, h3⟩
theorem rd_rows {cs : List AV} (h : RD (.slice (.slice (.int .i64))) cs) : ∃ l : List (List Int), cs = [rR l] ∧ l.length ≤ 9223372036854775807 ∧ ∀ x ∈ l, okI x := by
  obtain ⟨l, h1, h2, h3⟩ := rd_slice (fun cs h => rd_ints h) h
  exact ⟨l, h1, h2, h3⟩
def gDim : GT := .pair (.slice (.int .i64)) (.pair (.slice (.slice (.int .i64))) .unit)
def okD (S : List Int) (U : List (List Int)) : Prop := okI S ∧ U.length ≤ 9223372036854775807 ∧ ∀ x ∈ U, okI x
theorem rd_dim {cs : List AV} (h : RD gDim cs) : ∃ S U, cs = [rI S, rR U] ∧ okD S U := by
  obtain ⟨a, b, rfl, ha, c, d, rfl, hc, rfl⟩ := h
  obtain ⟨S, rfl, hS⟩ := rd_ints ha
  obtain ⟨U, rfl, hU⟩ := rd_rows hc
  exact ⟨S, U, rfl, hS, hU⟩
theorem rdarg_dim {a : AV} (h : RDarg gDim a) : ∃ S U, a = .agg [rI S, rR U] ∧ okD S U := by
  simp only [RDarg, gDim, isAggG, if_true] at h
  obtain ⟨cs, rfl, h⟩ := h
  obtain ⟨S, U, rfl, h2⟩ := rd_dim h
  exact ⟨S, U, rfl, h2⟩
theorem rdarg_i64 {a : AV} (h : RDarg (.int .i64) a) : ∃ n, a = .int .i64 n ∧ inI n := by
  simp only [RDarg, isAggG] at h
  obtain ⟨n, h1, h2⟩ := rd_i64 h
  simp at h1
  exact ⟨n, h1, h2⟩
theorem rdarg_u8 {a : AV} (h : RDarg (.int .u8) a) : ∃ n, a = .int .u8 n ∧ 0 ≤ n ∧ n ≤ 255 := by
  simp only [RDarg, isAggG] at h
  obtain ⟨n, h1, h2⟩ := rd_u8 h
  simp at h1
  exact ⟨n, h1, h2⟩
end Go.Proofs.Ytmnafjgkhhdidaa
