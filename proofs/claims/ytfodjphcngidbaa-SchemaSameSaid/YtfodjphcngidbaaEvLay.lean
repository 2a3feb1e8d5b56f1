/- Objects laid anew, written, let go: what stays true. -/
import Derived.Test.YtfodjphcngidbaaEvRel
set_option linter.unusedSimpArgs false
set_option linter.unusedVariables false
namespace Go.Ev

theorem set_get_eq {α : Type} {l : List α} {i : Nat} {x y : α} (h : l[i]? = some y) : (l.set i x)[i]? = some x := by
  have : i < l.length := (List.getElem?_eq_some_iff.1 h).1
  simp [this]
theorem set_get_ne {α : Type} {l : List α} {i j : Nat} {x : α} (h : i ≠ j) : (l.set i x)[j]? = l[j]? := by
  simp [h]

def Env.put (E : Env) (i : Nat) (o : AObj) (p : Option (Nat × Nat)) (w' : World) : Env := ⟨E.F, E.H.set i o, E.ρ.set i p, w'⟩

section
variable {E : Env} {i : Nat} {o o' : AObj} {p : Option (Nat × Nat)} {w' : World}

theorem mutAt_put_ne {j b : Nat} (h : i ≠ j) : (E.put i o' p w').mutAt j b ↔ E.mutAt j b := by
  unfold Env.mutAt Env.put
  simp only [set_get_ne h]
theorem mutAt_put_eq {b : Nat} (hl : E.ρ.length = E.H.length) (hi : E.H[i]? = some o) : (E.put i o' p w').mutAt i b ↔ (o'.body.isMut = true ∧ ∃ base, p = some (b, base)) := by
  have hi' : i < E.ρ.length := by rw [hl]; exact (List.getElem?_eq_some_iff.1 hi).1
  unfold Env.mutAt Env.put
  simp only [set_get_eq hi, List.getElem?_set_self hi']
  constructor
  · rintro ⟨o1, base, h1, h2, h3⟩
    cases h1
    exact ⟨h2, base, by simpa using h3⟩
  · rintro ⟨h2, base, h3⟩
    exact ⟨o', base, rfl, h2, by rw [h3]⟩

/-- What one object's change asks of the world behind it. -/
structure Chg (E : Env) (i : Nat) (w' : World) : Prop where
  os : w'.os = E.w.os
  tape : w'.tape = E.w.tape
  output : w'.output = E.w.output
  size : E.w.heap.size ≤ w'.heap.size
  same : ∀ b, b < E.w.heap.size → ¬ E.mutAt i b → w'.heap[b]? = E.w.heap[b]?
  blk : ∀ (b : Nat) (arr : Array Value) (e : TypeId) (f : Nat × Nat), E.w.heap[b]? = some (Obj.cells arr e f) → ∃ arr' : Array Value, w'.heap[b]? = some (Obj.cells arr' e f) ∧ arr'.size = arr.size

theorem Chg.none (E : Env) (i : Nat) : Chg E i E.w := ⟨rfl, rfl, rfl, Nat.le_refl _, fun _ _ _ => rfl, fun _ arr _ _ h => ⟨arr, h, rfl⟩⟩
theorem Chg.drew {E : Env} {i : Nat} {w' : World} (h : Chg E i w') : Chg E i w'.drew := ⟨h.os, h.tape, h.output, h.size, h.same, h.blk⟩
theorem Chg.alloc {E : Env} {i : Nat} {w' : World} (h : Chg E i w') (ob : Obj) : Chg E i (w'.alloc ob) where
  os := h.os
  tape := h.tape
  output := h.output
  size := by rw [World.size_alloc]; have := h.size; omega
  same b hb hn := (RowKit.Below.heap_alloc w' ob b (Nat.lt_of_lt_of_le hb h.size)).trans (h.same b hb hn)
  blk b arr e f hb := by
    obtain ⟨arr', h1, h2⟩ := h.blk b arr e f hb
    have hlt : b < w'.heap.size := (Array.getElem?_eq_some_iff.1 h1).1
    exact ⟨arr', (RowKit.Below.heap_alloc w' ob b hlt).trans h1, h2⟩
theorem setCell_blk (w : World) (x : Addr) (u : Value) (b : Nat) (arr : Array Value) (e : TypeId) (f : Nat × Nat) (hb : w.heap[b]? = some (Obj.cells arr e f)) :
    ∃ arr' : Array Value, (w.setCell x u).heap[b]? = some (Obj.cells arr' e f) ∧ arr'.size = arr.size := by
  simp only [World.setCell, Array.getElem?_modify]
  by_cases h : x.block = b
  · rw [if_pos h, hb]
    simp only [Option.map_some]
    refine ⟨_, rfl, ?_⟩
    split <;> simp
  · rw [if_neg h]; exact ⟨arr, hb, rfl⟩
theorem Chg.setCells {E : Env} {i b : Nat} (hm : E.mutAt i b) : ∀ (vs : List Value) (o : Nat) (w' : World), Chg E i w' → Chg E i (w'.setCells b o vs)
  | [], _, _, h => h
  | v :: vs, o, w', h => by
    rw [World.setCells]
    refine Chg.setCells hm vs (o + 1) _ ⟨h.os, h.tape, h.output, by rw [World.size_setCell]; exact h.size, fun c hc hn => ?_, fun c arr e f hc => ?_⟩
    · rw [RowKit.Below.heap_setCell w' ⟨b, o, Option.none⟩ v c (fun q => hn (by rw [q]; exact hm))]
      exact h.same c hc hn
    · obtain ⟨arr', h1, h2⟩ := h.blk c arr e f hc
      obtain ⟨arr'', h3, h4⟩ := setCell_blk w' ⟨b, o, Option.none⟩ v c arr' e f h1
      exact ⟨arr'', h3, h4.trans h2⟩

theorem relay (hw : WRel E) (hi : E.H[i]? = some o) (hv : o.ver ≤ o'.ver) (hs : o'.ver = o.ver → sameShape o.body o'.body ∧ E.ρ[i]? = some p)
    (hc : Chg E i w') (hp : ∀ b base, o'.body.isMut = true → p = some (b, base) → E.mutAt i b ∨ E.w.heap.size ≤ b)
    (hobj : Step E (E.put i o' p w') → ObjRel (E.put i o' p w') i o') :
    WRel (E.put i o' p w') ∧ Step E (E.put i o' p w') := by
  have hlen : i < E.ρ.length := by rw [hw.len]; exact (List.getElem?_eq_some_iff.1 hi).1
  have hMut : ∀ j b, (E.put i o' p w').mutAt j b → E.mutAt j b ∨ (j = i ∧ E.w.heap.size ≤ b) := by
    intro j b hm
    by_cases e : i = j
    · subst e
      obtain ⟨h1, base, h2⟩ := (mutAt_put_eq hw.len hi).1 hm
      exact (hp b base h1 h2).imp id fun h => ⟨rfl, h⟩
    · exact .inl ((mutAt_put_ne e).1 hm)
  have hstep : Step E (E.put i o' p w') := by
    refine ⟨rfl, fun j q hq => ?_, ?_⟩
    · by_cases e : i = j
      · subst e
        rw [hi] at hq
        cases hq
        exact ⟨o', set_get_eq hi, hv, fun e => ⟨(hs e).1, by rw [(hs e).2]; exact List.getElem?_set_self hlen⟩⟩
      · exact ⟨q, (set_get_ne e).trans hq, Nat.le_refl _, fun _ => ⟨.refl _, set_get_ne e⟩⟩
    · refine ⟨hc.os, hc.tape, hc.output, hc.size, fun b hb hn => ⟨hc.same b hb fun q => hn ⟨i, q⟩, ?_⟩, hc.blk⟩
      rintro ⟨j, hm⟩
      rcases hMut j b hm with h | ⟨_, h⟩
      · exact hn ⟨j, h⟩
      · omega
  refine ⟨⟨by simp [Env.put, hw.len], fun j q hq => ?_, fun j k b hj hk => ?_, fun j b hm => ?_, fun b hb => Nat.lt_of_lt_of_le (hw.fOld b hb) hc.size⟩, hstep⟩
  · by_cases e : i = j
    · subst e
      have : q = o' := by
        have h := set_get_eq (x := o') hi
        have hq' : (E.H.set i o')[i]? = some q := hq
        rw [h] at hq'
        exact (Option.some.inj hq').symm
      subst this
      exact hobj hstep
    · have hq' : E.H[j]? = some q := by rw [← hq]; exact (set_get_ne e).symm
      have hold := hw.obj j q hq'
      have hρ : (E.put i o' p w').ρ[j]? = E.ρ[j]? := set_get_ne e
      -- the block of another object is as it was
      have hkeep : ∀ b base, E.ρ[j]? = some (some (b, base)) → (q.body.isMut = true ∨ ¬ E.X b) → b < E.w.heap.size → ∀ x, (E.put i o' p w').w.cell? ⟨b, x, none⟩ = E.w.cell? ⟨b, x, none⟩ := by
        intro b base h1 h2 h3 x
        refine cell?_of_heap (hc.same b h3 fun hm => ?_) x
        rcases h2 with h2 | h2
        · exact e (hw.inj i j b hm ⟨q, base, hq', h2, h1⟩)
        · exact h2 (.inr ⟨i, hm⟩)
      unfold ObjRel at hold ⊢
      cases hb : q.body with
      | none => trivial
      | var cs =>
        rw [hb] at hold
        obtain ⟨b, base, h1, h2, h3⟩ := hold
        exact ⟨b, base, hρ.trans h1, h2.mono hstep.w, h3.keeps hstep.keeps (hkeep b base h1 (.inl (by rw [hb]; rfl)) h2.lt)⟩
      | row m s cs =>
        rw [hb] at hold
        rcases hold with ⟨h1, h2⟩ | ⟨b, base, h1, h2, h3, h4⟩
        · exact .inl ⟨h1, hρ.trans h2⟩
        · refine .inr ⟨b, base, hρ.trans h1, h2.mono hstep.w, CRel.keeps hstep.keeps cs b base (hkeep b base h1 ?_ h2.lt) h3, fun hm => (hstep.x h2.lt (h4 hm)).1⟩
          cases m with
          | true => exact .inl (by rw [hb]; rfl)
          | false => exact .inr (h4 rfl)
  · by_cases e1 : i = j <;> by_cases e2 : i = k
    · rw [← e1, ← e2]
    · subst e1
      obtain ⟨h1, base, h2⟩ := (mutAt_put_eq hw.len hi).1 hj
      have hk' := (mutAt_put_ne e2).1 hk
      rcases hp b base h1 h2 with h | h
      · exact hw.inj i k b h hk'
      · obtain ⟨q, bs, q1, q2, q3⟩ := hk'
        have := hw.obj k q q1
        unfold ObjRel at this
        exfalso
        have hlt : b < E.w.heap.size := by
          cases hb : q.body with
          | none => rw [hb] at q2; cases q2
          | var cs => rw [hb] at this; obtain ⟨b', bs', r1, r2, _⟩ := this; rw [q3] at r1; cases r1; exact r2.lt
          | row m s cs =>
            rw [hb] at this
            rcases this with ⟨_, r1⟩ | ⟨b', bs', r1, r2, _⟩
            · rw [q3] at r1; cases r1
            · rw [q3] at r1; cases r1; exact r2.lt
        omega
    · subst e2
      obtain ⟨h1, base, h2⟩ := (mutAt_put_eq hw.len hi).1 hk
      have hj' := (mutAt_put_ne e1).1 hj
      rcases hp b base h1 h2 with h | h
      · exact (hw.inj i j b h hj').symm
      · obtain ⟨q, bs, q1, q2, q3⟩ := hj'
        have := hw.obj j q q1
        unfold ObjRel at this
        exfalso
        have hlt : b < E.w.heap.size := by
          cases hb : q.body with
          | none => rw [hb] at q2; cases q2
          | var cs => rw [hb] at this; obtain ⟨b', bs', r1, r2, _⟩ := this; rw [q3] at r1; cases r1; exact r2.lt
          | row m s cs =>
            rw [hb] at this
            rcases this with ⟨_, r1⟩ | ⟨b', bs', r1, r2, _⟩
            · rw [q3] at r1; cases r1
            · rw [q3] at r1; cases r1; exact r2.lt
        omega
    · exact hw.inj j k b ((mutAt_put_ne e1).1 hj) ((mutAt_put_ne e2).1 hk)
  · rcases hMut j b hm with h | ⟨_, h⟩
    · exact hw.fNot j b h
    · intro hf; have := hw.fOld b hf; omega
end

theorem WRel.block_lt {E : Env} (hw : WRel E) {i b base : Nat} {q : AObj} (hq : E.H[i]? = some q) (hm : q.body.isMut = true) (hρ : E.ρ[i]? = some (some (b, base))) : b < E.w.heap.size := by
  have := hw.obj i q hq
  unfold ObjRel at this
  cases hb : q.body with
  | none => rw [hb] at hm; cases hm
  | var cs => rw [hb] at this; obtain ⟨b', bs', r1, r2, _⟩ := this; rw [hρ] at r1; cases r1; exact r2.lt
  | row m s cs =>
    rw [hb] at this
    rcases this with ⟨_, r1⟩ | ⟨b', bs', r1, r2, _⟩
    · rw [hρ] at r1; cases r1
    · rw [hρ] at r1; cases r1; exact r2.lt
/-- The world goes on, its blocks as they were. -/
theorem WRel.grow {E : Env} (hw : WRel E) {w' : World} (hos : w'.os = E.w.os) (ht : w'.tape = E.w.tape) (hout : w'.output = E.w.output) (hs : E.w.heap.size ≤ w'.heap.size)
    (hb : ∀ b, b < E.w.heap.size → w'.heap[b]? = E.w.heap[b]?) : WRel ⟨E.F, E.H, E.ρ, w'⟩ ∧ Step E ⟨E.F, E.H, E.ρ, w'⟩ := by
  have hst : Step E ⟨E.F, E.H, E.ρ, w'⟩ :=
    ⟨rfl, fun _ o h => ⟨o, h, Nat.le_refl _, fun _ => ⟨.refl _, rfl⟩⟩, hos, ht, hout, hs, fun b h hn => ⟨hb b h, hn⟩, fun b arr e f h => ⟨arr, (hb b (Array.getElem?_eq_some_iff.1 h).1).trans h, rfl⟩⟩
  refine ⟨⟨hw.len, fun i q hq => ?_, hw.inj, hw.fNot, fun b h => Nat.lt_of_lt_of_le (hw.fOld b h) hs⟩, hst⟩
  have := hw.obj i q hq
  unfold ObjRel at this ⊢
  cases hbb : q.body with
  | none => trivial
  | var cs =>
    rw [hbb] at this
    obtain ⟨b, base, h1, h2, h3⟩ := this
    exact ⟨b, base, h1, h2.mono hst.w, h3.keeps hst.keeps (fun o => cell?_of_heap (hb b h2.lt) o)⟩
  | row m s cs =>
    rw [hbb] at this
    rcases this with h | ⟨b, base, h1, h2, h3, h4⟩
    · exact .inl h
    · exact .inr ⟨b, base, h1, h2.mono hst.w, CRel.keeps hst.keeps cs b base (fun o => cell?_of_heap (hb b h2.lt) o) h3, h4⟩
theorem WRel.alloc {E : Env} (hw : WRel E) (ob : Obj) : WRel ⟨E.F, E.H, E.ρ, E.w.alloc ob⟩ ∧ Step E ⟨E.F, E.H, E.ρ, E.w.alloc ob⟩ :=
  hw.grow rfl rfl rfl (by simp) fun b hb => RowKit.Below.heap_alloc E.w ob b hb
theorem WRel.drew {E : Env} (hw : WRel E) : WRel ⟨E.F, E.H, E.ρ, E.w.drew⟩ ∧ Step E ⟨E.F, E.H, E.ρ, E.w.drew⟩ :=
  hw.grow rfl rfl rfl (Nat.le_refl _) fun _ _ => rfl

/-- What an operation comes to. -/
def Lay (E : Env) (ups : List (Nat × AObj)) (ρ : List (Option (Nat × Nat))) (w' : World) : Env := ⟨E.F, layAll E.H ups, ρ, w'⟩
def Out (E : Env) (x : AV) (ups : List (Nat × AObj)) (v : Value) (w' : World) : Prop :=
  ∃ ρ, WRel (Lay E ups ρ w') ∧ Step E (Lay E ups ρ w') ∧ VRel (Lay E ups ρ w') x v
theorem Out.same {E : Env} {x : AV} {v : Value} (hw : WRel E) (h : VRel E x v) : Out E x [] v E.w := ⟨E.ρ, hw, .refl _, h⟩
theorem Out.put {E : Env} {i : Nat} {o : AObj} {p : Option (Nat × Nat)} {w' : World} {x : AV} {v : Value} (h : WRel (E.put i o p w') ∧ Step E (E.put i o p w')) (hv : VRel (E.put i o p w') x v) :
    Out E x [(i, o)] v w' := ⟨_, h.1, h.2, hv⟩

/-- Own rows told as they stand: from here on they stay. -/
theorem freeze_one {E : Env} {i : Nat} {v sz : Nat} {m : Bool} {cs : List AV} (hw : WRel E) (hi : E.H[i]? = some ⟨v, .row m sz cs⟩) :
    ∃ p, WRel (E.put i ⟨v, .row false sz cs⟩ p E.w) ∧ Step E (E.put i ⟨v, .row false sz cs⟩ p E.w) ∧ (E.put i ⟨v, .row false sz cs⟩ p E.w).ρ = E.ρ := by
  have hlt : i < E.ρ.length := by rw [hw.len]; exact (List.getElem?_eq_some_iff.1 hi).1
  have hp : E.ρ[i]? = some (E.ρ[i]'hlt) := List.getElem?_eq_getElem hlt
  have hset : E.ρ.set i (E.ρ[i]'hlt) = E.ρ := by
    apply List.ext_getElem? 
    intro j
    rw [List.getElem?_set]
    split
    · rename_i e; subst e; rw [hp]
    · rfl
  refine ⟨E.ρ[i]'hlt, ?_⟩
  have := relay (o' := ⟨v, .row false sz cs⟩) (p := E.ρ[i]'hlt) hw hi (Nat.le_refl _) (fun _ => ⟨⟨rfl, rfl⟩, hp⟩) (Chg.none E i) (fun b base h => by cases h) (fun hst => by
    have hold := hw.obj i _ hi
    unfold ObjRel at hold ⊢
    simp only at hold ⊢
    have hρ : (E.put i ⟨v, .row false sz cs⟩ (E.ρ[i]'hlt) E.w).ρ[i]? = E.ρ[i]? := by show (E.ρ.set i _)[i]? = _; rw [hset]
    rcases hold with ⟨h1, h2⟩ | ⟨b, base, h1, h2, h3, h4⟩
    · exact .inl ⟨h1, hρ.trans h2⟩
    · refine .inr ⟨b, base, hρ.trans h1, h2, CRel.keeps hst.keeps cs b base (fun _ => rfl) h3, fun _ => ?_⟩
      cases m with
      | false => exact (hst.x h2.lt (h4 rfl)).1
      | true =>
        have hm : E.mutAt i b := ⟨_, base, hi, rfl, h1⟩
        rintro (hf | ⟨j, hj⟩)
        · exact hw.fNot i b hm hf
        · by_cases e : i = j
          · subst e
            have := (mutAt_put_eq hw.len hi).1 hj
            exact absurd this.1 (by simp [ABody.isMut])
          · exact e (hw.inj i j b hm ((mutAt_put_ne e).1 hj)))
  exact ⟨this.1, this.2, hset⟩

end Go.Ev
