/- The evaluator, its soundness (texts put together: EvSort). -/
import Derived.Shelf.SlSortCmp.WholeK
import Derived.Test.YtpohmfihpnineaaEvGd
set_option linter.unusedSimpArgs false
set_option linter.unusedVariables false
section
namespace Go.Ev
open Go.Sort
theorem evalFun_more (M : Tab) {x : CallF} (hx : Le M.ext x) : ∀ k, Le (evalFun M k) (evalFun ⟨M.fn, x⟩ k)
  | 0 => fun f a H r h => by simp [evalFun] at h
  | k + 1 => fun f a H r h => by
    have ih := evalFun_more M hx k
    simp only [evalFun] at h ⊢
    split at h
    · exact hx _ _ _ _ h
    · rename_i mf hmf
      split at h
      · cases h
      · rename_i hl
        rw [if_neg hl]
        split at h
        · rename_i st hst; rw [evalCode_mono ih (Nat.le_refl _) hst]; exact h
        · rename_i st hst; rw [evalCode_mono ih (Nat.le_refl _) hst]; exact h
        · cases h
theorem cfT_ex {M : Tab} {f : FuncId} {a : List AV} {H : List AObj} {r : AV × List AObj} (h : cfT M f a H = some r) : ∃ k, evalFun M k f a H = some r := by
  unfold cfT at h
  split at h
  · rename_i hx
    have h2 := Classical.choose_spec (Classical.choose_spec hx)
    cases h
    exact ⟨_, h2⟩
  · cases h
theorem cfT_more {M : Tab} {x : CallF} (hx : Le M.ext x) {f : FuncId} {a : List AV} {H : List AObj} {r : AV × List AObj} (h : cfT M f a H = some r) : cfT ⟨M.fn, x⟩ f a H = some r := by
  obtain ⟨k, hk⟩ := cfT_ex h
  exact cfT_of (evalFun_more M hx k _ _ _ _ hk)
theorem grow_of {M M' : Nat → Prop} {w w' : World} (h : Wst M M' w w') (hM : ∀ b, ¬ M b) : ∃ q os, w' = grow (w.drewN q) os := by
  refine ⟨w'.drawn - w.drawn, w'.heap.extract w.heap.size w'.heap.size, ?_⟩
  have hheap : w'.heap = w.heap ++ w'.heap.extract w.heap.size w'.heap.size := by
    apply Array.ext_getElem?
    intro b
    by_cases hb : b < w.heap.size
    · rw [(h.keep b hb (hM b)).1, Array.getElem?_append_left hb]
    · rw [Array.getElem?_append_right (by omega), Array.getElem?_extract]
      have hs := h.size
      by_cases hb2 : b < w'.heap.size
      · rw [if_pos (by omega), show w.heap.size + (b - w.heap.size) = b from by omega]
      · rw [if_neg (by omega), Array.getElem?_eq_none (by omega)]
  have hd := h.drawn
  obtain ⟨hp, tp, dr, os, out⟩ := w'
  have h1 := h.os
  have h2 := h.tape
  have h3 := h.output
  simp only at h1 h2 h3 hheap hd
  unfold grow World.drewN
  simp only
  rw [show w.drawn + (dr - w.drawn) = dr from by omega, ← hheap, h1, h2, h3]
theorem cmp_world {P : Program} {M : Tab} (hM : TabOk P M) {g : FuncId} {xs : List AV} {v : Int} {H1 : List AObj} (h : cfT M g xs [] = some (.int .i64 v, H1)) (W : World) {vals : Array Value} (hv : LRel (topEnv W) xs vals.toList) :
    Calls P g vals W fun e w' => e = .returned (.int .i64 v) ∧ ∃ q os, w' = grow (W.drewN q) os := by
  obtain ⟨k, hk⟩ := cfT_ex h
  refine Calls.mono ((evalFun_sound hM k g xs [] _ _ hk).2 (topEnv W) vals (topEnv_wrel W) rfl hv) ?_
  rintro e w' ⟨v', rfl, E', rfl, _, _, hv', hst⟩
  simp only [VRel] at hv'
  subst hv'
  refine ⟨rfl, grow_of hst.w ?_⟩
  rintro b ⟨i, o, base, h, _⟩
  simp [topEnv] at h
section
variable {α : Type}
def insL (lt : α → α → Bool) (x : α) : List α → List α
  | [] => [x]
  | y :: r => if lt y x then y :: insL lt x r else x :: y :: r
def insS (lt : α → α → Bool) : List α → List α
  | [] => []
  | x :: l => insL lt x (insS lt l)
theorem insL_perm (lt : α → α → Bool) (x : α) : ∀ l : List α, (insL lt x l).Perm (x :: l)
  | [] => .refl _
  | y :: r => by
    unfold insL
    split
    · exact ((insL_perm lt x r).cons y).trans (.swap x y r)
    · exact .refl _
theorem insS_perm (lt : α → α → Bool) : ∀ l : List α, (insS lt l).Perm l
  | [] => .refl _
  | x :: l => (insL_perm lt x (insS lt l)).trans ((insS_perm lt l).cons x)
theorem insL_sorted {lt : α → α → Bool} (hO : SWO lt) (x : α) : ∀ {l : List α}, l.Pairwise (fun a b => lt b a = false) → (insL lt x l).Pairwise fun a b => lt b a = false
  | [], _ => by simp [insL]
  | y :: r, h => by
    unfold insL
    obtain ⟨h1, h2⟩ := List.pairwise_cons.1 h
    split
    · rename_i c
      refine List.pairwise_cons.2 ⟨fun z hz => ?_, insL_sorted hO x h2⟩
      rcases List.mem_cons.1 ((insL_perm lt x r).mem_iff.1 hz) with rfl | hz
      · cases e : lt z y with
        | false => rfl
        | true => have := hO.trans _ _ _ c e; rw [hO.irrefl] at this; cases this
      · exact h1 z hz
    · rename_i c
      have c := (Bool.not_eq_true _).mp c
      refine List.pairwise_cons.2 ⟨fun z hz => ?_, h⟩
      rcases List.mem_cons.1 hz with rfl | hz
      · exact c
      · exact hO.ntrans _ _ _ (h1 z hz) c
theorem insS_sorted {lt : α → α → Bool} (hO : SWO lt) : ∀ l : List α, (insS lt l).Pairwise fun a b => lt b a = false
  | [] => .nil
  | x :: l => insL_sorted hO x (insS_sorted hO l)
theorem ins_unique [Inhabited α] {lt : α → α → Bool} (hO : SWO lt) (hT : ∀ x y, lt x y = false → lt y x = false → x = y) {d d' : Array α} (hP : PermIn 0 d.size d d') (hS : SortedIn lt 0 d.size d') : d'.toList = insS lt d.toList := by
  obtain ⟨hsz, _, hperm⟩ := hP
  have e1 : d'.extract 0 d.size = d' := by rw [← hsz]; exact Array.extract_size
  rw [e1, Array.extract_size] at hperm
  refine List.Perm.eq_of_pairwise (le := fun x y => lt y x = false) (fun a b _ _ h1 h2 => hT a b h2 h1) ?_ (insS_sorted hO _) (hperm.trans (insS_perm lt _).symm)
  rw [List.pairwise_iff_getElem]
  intro i j hi hj hij
  have hi' : i < d'.size := by simpa using hi
  have hj' : j < d'.size := by simpa using hj
  have := hS i j (Nat.zero_le _) hij (by omega)
  rw [getElem!_pos d' i hi', getElem!_pos d' j hj'] at this
  simpa using this
theorem flat_get {β : Type} {enc : α → List β} {k : Nat} [Inhabited α] [Inhabited β] (hk : ∀ x, (enc x).length = k) : ∀ (l : List α) (t : Nat), t < l.length * k → (l.flatMap enc)[t]? = some ((enc (l.toArray[t / k]!))[t % k]!)
  | [], t, h => by simp at h
  | x :: l, t, h => by
    rw [List.flatMap_cons]
    have k0 : 0 < k := by
      rcases Nat.eq_zero_or_pos k with h0 | h0
      · subst h0; simp at h
      · exact h0
    by_cases ht : t < k
    · rw [List.getElem?_append_left (by rw [hk]; exact ht), Nat.div_eq_of_lt ht, Nat.mod_eq_of_lt ht]
      rw [List.getElem?_eq_getElem (by rw [hk]; exact ht)]
      rw [show (x :: l).toArray[0]! = x from by simp, getElem!_pos (enc x) t (by rw [hk]; exact ht)]
    · rw [List.getElem?_append_right (by rw [hk]; omega), hk, flat_get hk l (t - k) (by
        rw [List.length_cons, Nat.add_mul, Nat.one_mul] at h; omega)]
      have h1 : t / k = (t - k) / k + 1 := by
        rw [Nat.div_eq_sub_div k0 (by omega)]
      have h2 : t % k = (t - k) % k := Nat.mod_eq_sub_mod (by omega)
      rw [h1, h2]
      congr 3
      simp only [List.getElem!_toArray]
      rfl
end
def toV : AV → Value
  | .int k n => .int k n
  | _ => .bool false
def ints (cs : List AV) : Prop := ∀ c ∈ cs, ∃ k n, c = AV.int k n
theorem lrel_ints (E : Env) : ∀ {cs : List AV}, ints cs → LRel E cs (cs.map toV)
  | [], _ => rfl
  | c :: cs, h => by
    obtain ⟨k, n, rfl⟩ := h c (by simp)
    simp only [LRel, List.map_cons]
    exact ⟨_, _, rfl, by simp only [VRel]; rfl, lrel_ints E fun x hx => h x (by simp [hx])⟩
def sortX {α : Type} (f g : FuncId) (k : Nat) (enc : α → List AV) (dec : List AV → Option (List α)) (lt : α → α → Bool) : CallF := fun f' args H =>
  if f' = f then
    match args, H with
    | [.own 0 0 off n sz, .fn g' [] []], [⟨0, .row true sz' cs⟩] =>
      if g' = g ∧ off = 0 ∧ sz = k ∧ sz' = k then
        match dec cs with
        | some l => if l.length = n ∧ n < 4611686018427387904 then some (.tup [], [⟨0, .row true k ((insS lt l).flatMap enc)⟩]) else none
        | none => none
      else none
    | _, _ => none
  else none
structure SortOk (P : Program) (M : Tab) {α : Type} [Inhabited α] (f g : FuncId) (k : Nat) (enc : α → List AV) (dec : List AV → Option (List α)) (lt : α → α → Bool) : Prop where
  hk : ∀ x, (enc x).length = k
  hi : ∀ x, ints (enc x)
  hdec : ∀ cs l, dec cs = some l → cs = l.flatMap enc
  hO : SWO lt
  hT : ∀ x y, lt x y = false → lt y x = false → x = y
  hcmp : ∃ cf : α → α → Int, Go.Proofs.ltOf cf = lt ∧ ∀ x y, ∃ H1, cfT M g [.agg (enc x), .agg (enc y)] [] = some (.int .i64 (cf x y), H1)
  ok : CallOk P f
  okg : CallOk P g
  zero : ∀ (p : Option Addr) (cap : Nat) (fv : Value) (w : World), Calls P f #[.slice p 0 cap, fv] w fun e w' => e = .returned (.tuple #[]) ∧ w' = w
  pos : ∀ (encV : α → List Value), (∀ x, (encV x).length = k) → (∀ x, ∀ v ∈ encV x, v.oneCell' = true) → ∀ (cf : α → α → Int), SWO (Go.Proofs.ltOf cf) → ∀ (blk off cap : Nat) (d : Array α) (w : World),
    (∀ args w, (callFunc g args).run P w = .ok (.enter g args) w) → Go.Proofs.CmpLays P g #[] encV k cf blk off d.size w → HoldsK encV k w blk off d → blk < w.heap.size → d.size < 4611686018427387904 →
    Calls P f #[.slice (some ⟨blk, off, none⟩) d.size cap, .func (.func g) #[] #[]] w fun e w' =>
      e = .returned (.tuple #[]) ∧ ∃ d' n os, PermIn 0 d.size d d' ∧ SortedIn (Go.Proofs.ltOf cf) 0 d.size d' ∧ w' = Go.Proofs.sortWorldK encV k w blk off n d' os
theorem flatK_cell {α : Type} [Inhabited α] {k : Nat} {enc : α → List AV} (hk : ∀ x, (enc x).length = k) (l : List α) (j : Nat) (c : AV) (h : (l.flatMap enc)[j]? = some c) (d : Array α) (hd : d.toList = l) :
    j < d.size * k ∧ (flatK (fun x => (enc x).map toV) k d)[j]! = toV c := by
  have hlen : (l.flatMap enc).length = l.length * k := by
    clear h hd
    induction l with
    | nil => simp
    | cons x l ih => rw [List.flatMap_cons, List.length_append, hk, ih, List.length_cons, Nat.add_mul, Nat.one_mul, Nat.add_comm]
  have hj := (List.getElem?_eq_some_iff.1 h).1
  rw [hlen] at hj
  have hs : d.size = l.length := by rw [← hd]; simp
  have h2 := @flat_get α AV enc k _ ⟨.undef⟩ hk l j hj
  rw [h] at h2
  have hj2 : j < d.size * k := by rw [hs]; exact hj
  refine ⟨hj2, ?_⟩
  have k0 : 0 < k := by
    rcases Nat.eq_zero_or_pos k with h0 | h0
    · subst h0; simp at hj
    · exact h0
  have hm : j % k < k := Nat.mod_lt _ k0
  rw [get_flatK _ _ _ j hj2]
  have hda : l.toArray = d := by rw [← hd]
  rw [hda] at h2
  have h3 := Option.some.inj h2
  letI : Inhabited AV := ⟨.undef⟩
  have h4 : (enc d[j / k]!)[j % k]! = c := h3.symm
  rw [getElem!_pos (enc d[j / k]!) (j % k) (by rw [hk]; exact hm)] at h4
  rw [getElem!_pos ((enc d[j / k]!).map toV) (j % k) (by rw [List.length_map, hk]; exact hm), List.getElem_map, h4]
theorem sortWorld_chg {α : Type} [Inhabited α] {E : Env} {i b base : Nat} (hm : E.mutAt i b) (encV : α → List Value) (k n : Nat) (d : Array α) (os : Array Obj) : Chg E i (Go.Proofs.sortWorldK encV k E.w b base n d os) := by
  have hheap : (Go.Proofs.sortWorldK encV k E.w b base n d os).heap = (E.w.heap.modify b (onCells (putCells id base (flatK encV k d)))) ++ os := rfl
  refine ⟨rfl, rfl, rfl, ?_, fun c hc hn => ?_, fun c arr e f hc => ?_, Nat.le_add_right _ _⟩
  · rw [hheap, Array.size_append, Array.size_modify]; omega
  · have hne : b ≠ c := fun h => hn (by rw [← h]; exact hm)
    rw [hheap, Array.getElem?_append_left (by rw [Array.size_modify]; exact hc), Array.getElem?_modify, if_neg hne]
  · have hlt : c < E.w.heap.size := (Array.getElem?_eq_some_iff.1 hc).1
    rw [hheap, Array.getElem?_append_left (by rw [Array.size_modify]; exact hlt), Array.getElem?_modify]
    by_cases h : b = c
    · rw [if_pos h, hc]
      exact ⟨_, rfl, by simp [putCells]⟩
    · rw [if_neg h]
      exact ⟨arr, hc, rfl⟩
theorem frozen_of_blk {w : World} {b n : Nat} (h : Blk w b n) (o : Nat) : w.frozen? ⟨b, o, none⟩ = false := by
  obtain ⟨arr, e, h1, _⟩ := h
  simp [World.frozen?, h1]
theorem sortX_sound {P : Program} {M : Tab} (hM : TabOk P M) {α : Type} [Inhabited α] {f g : FuncId} {k : Nat} {enc : α → List AV} {dec : List AV → Option (List α)} {lt : α → α → Bool} (S : SortOk P M f g k enc dec lt) :
    CfSound P (sortX f g k enc dec lt) := by
  intro f' args H r H1 he
  unfold sortX at he
  split at he
  · rename_i hf
    subst hf
    split at he
    · rename_i off n sz g' sz' cs
      split at he
      · rename_i hc
        obtain ⟨rfl, rfl, rfl, rfl⟩ := hc
        split at he
        · rename_i l hdec
          split at he
          · rename_i hln
            obtain ⟨rfl, hn⟩ := hln
            cases he
            have hcs := S.hdec _ _ hdec
            subst hcs
            refine ⟨S.ok, fun E vals hw hH hv => ?_⟩
            simp only [LRel] at hv
            obtain ⟨v, r, hvals, hr, v2, r2, rfl, hr2, rfl⟩ := hv
            simp only [VRel, LRel] at hr hr2
            obtain ⟨a, cap, rfl, hcap, hsome, o, ho, _, hoo⟩ := hr
            obtain ⟨a1, a2, rfl, h1, h2⟩ := hr2
            have ha1 : a1 = #[] := by cases a1; simpa using h1
            have ha2 : a2 = #[] := by cases a2; simpa using h2
            subst ha1
            subst ha2
            have hva : vals = #[.slice a l.length cap, .func (.func g') #[] #[]] := by
              cases vals
              simpa using hvals
            subst hva
            rw [hH] at ho
            simp only [List.getElem?_cons_zero, Option.some.injEq] at ho
            subst ho
            rcases Nat.eq_zero_or_pos l.length with h0 | h0
            · have hl : l = [] := List.length_eq_zero_iff.1 h0
              subst hl
              refine Calls.mono (S.zero a cap _ E.w) ?_
              rintro e w' ⟨rfl, rfl⟩
              refine ⟨_, rfl, E, rfl, hH, hw, ?_, .refl _⟩
              simp only [VRel, LRel]
              exact ⟨#[], rfl, rfl⟩
            · have hoo := hoo rfl
              simp only at hoo
              obtain ⟨hfit, hpl⟩ := hoo
              have hq : E.H[0]? = some ⟨0, .row true sz' (l.flatMap enc)⟩ := by rw [hH]; rfl
              have hobj := hw.obj 0 _ hq
              unfold ObjRel at hobj
              simp only at hobj
              have hlen : (l.flatMap enc).length = l.length * sz' := by
                have key : ∀ l : List α, (l.flatMap enc).length = l.length * sz' := by
                  intro l
                  induction l with
                  | nil => simp
                  | cons x l ih => rw [List.flatMap_cons, List.length_append, S.hk, ih, List.length_cons, Nat.add_mul, Nat.one_mul, Nat.add_comm]
                exact key l
              have hplace : ∃ b base, E.ρ[0]? = some (some (b, base)) ∧ a = some ⟨b, base, none⟩ := by
                rcases hpl with ⟨b, base, p1, p2, _⟩ | ⟨_, _, p3, _⟩
                · exact ⟨b, base, p1, by simpa using p2⟩
                · rw [p3] at hsome; have := hsome h0; cases this
              obtain ⟨b, base, hρ, rfl⟩ := hplace
              have hobj2 : Blk E.w b (base + (l.flatMap enc).length) ∧ CRel E (l.flatMap enc) b base := by
                rcases hobj with ⟨_, h⟩ | ⟨b', base', h1, h2, h3, _⟩
                · rw [hρ] at h; cases h
                · rw [hρ] at h1; cases h1; exact ⟨h2, h3⟩
              obtain ⟨hblk, hcr⟩ := hobj2
              have hmut : E.mutAt 0 b := ⟨_, base, hq, rfl, hρ⟩
              obtain ⟨cf, hcf, hcmp⟩ := S.hcmp
              have hHold : HoldsK (fun x => (enc x).map toV) sz' E.w b base l.toArray := by
                intro j hj
                rw [size_flatK] at hj
                have hjl : j < (l.flatMap enc).length := by rw [hlen]; simpa using hj
                obtain ⟨_, v, hv1, hv2⟩ := hcr.get j _ (List.getElem?_eq_getElem hjl)
                obtain ⟨_, hf⟩ := flatK_cell S.hk l j _ (List.getElem?_eq_getElem hjl) l.toArray (by simp)
                obtain ⟨x, _, hx⟩ := List.mem_flatMap.1 (List.getElem_mem hjl)
                obtain ⟨kk, nn, he⟩ := S.hi x _ hx
                rw [he] at hv2 hf
                simp only [VRel] at hv2
                subst hv2
                refine ⟨?_, frozen_of_blk hblk _⟩
                rw [hf]
                exact hv1
              have hsz : l.toArray.size = l.length := by simp
              have hpos := S.pos (fun x => (enc x).map toV) (fun x => by rw [List.length_map]; exact S.hk x) (fun x v hv => by
                  obtain ⟨c, hc, rfl⟩ := List.mem_map.1 hv
                  obtain ⟨kk, nn, rfl⟩ := S.hi x c hc
                  rfl) cf (by rw [hcf]; exact S.hO) b base cap l.toArray E.w (fun args w => callFunc_run S.okg args w) (fun m os dk _ x y => by
                  obtain ⟨H1, hc⟩ := hcmp x y
                  refine cmp_world hM hc _ ?_
                  simp only [LRel, VRel]
                  exact ⟨_, _, rfl, ⟨_, rfl, lrel_ints _ (S.hi x)⟩, _, _, rfl, ⟨_, rfl, lrel_ints _ (S.hi y)⟩, rfl⟩) hHold hblk.lt (by rw [hsz]; exact hn)
              rw [hsz] at hpos
              refine Calls.mono hpos ?_
              rintro e w' ⟨rfl, d', n', os, hP, hS, rfl⟩
              rw [hcf] at hS
              have hd' : d'.toList = insS lt l := by
                have := ins_unique S.hO S.hT (d := l.toArray) (by rw [hsz]; exact hP) (by rw [hsz]; exact hS)
                simpa using this
              have hds : d'.size = l.toArray.size := by rw [hsz]; exact hP.1.trans hsz
              have hHold2 := Go.Proofs.holdsK_sortWorldK (fun x => (enc x).map toV) sz' E.w b base n' l.toArray d' os hblk.lt hHold hds
              have hlen2 : ((insS lt l).flatMap enc).length = (l.flatMap enc).length := ((insS_perm lt l).flatMap_right enc).length_eq
              have hre := relay (E := E) (o' := ⟨0, .row true sz' ((insS lt l).flatMap enc)⟩) (p := some (b, base)) hw hq (Nat.le_refl _) (fun _ => ⟨⟨rfl, hlen2.symm⟩, hρ⟩) (sortWorld_chg hmut (fun x => (enc x).map toV) sz' n' d' os) (fun b' base' _ h => by cases h; exact .inl hmut) (fun hst => by
                unfold ObjRel
                refine .inr ⟨b, base, put_ρ hw hq, ?_, CRel.of fun j c hj => ?_, fun h => by cases h⟩
                · rw [hlen2]; exact hblk.mono hst.w
                · obtain ⟨h1, h2⟩ := flatK_cell S.hk (insS lt l) j c hj d' hd'
                  obtain ⟨x, _, hx⟩ := List.mem_flatMap.1 (List.mem_of_getElem? hj)
                  obtain ⟨kk, nn, rfl⟩ := S.hi x _ hx
                  refine ⟨rfl, .int kk nn, ?_, by simp only [VRel]⟩
                  have h3 := (hHold2 j (by rw [size_flatK]; exact h1)).1
                  rw [h2] at h3
                  exact h3)
              refine ⟨_, rfl, _, rfl, ?_, hre.1, ?_, hre.2⟩
              · simp [Env.put, hH]
              · simp only [VRel, LRel]
                exact ⟨#[], rfl, rfl⟩
          · cases he
        · cases he
      · cases he
    · cases he
  · cases he
end Go.Ev
end
