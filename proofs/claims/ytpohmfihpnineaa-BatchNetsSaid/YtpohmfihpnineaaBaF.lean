/- The base's rows, in whatever order the map gives them out: by contract. -/
import Derived.Test.YtpohmfihpnineaaBaE
import Derived.Test.YtpohmfihpnineaaRowU
import Derived.Test.YtpohmfihpnineaaRowSorts
import Derived.Test.YtpohmfihpnineaaEvRange
set_option linter.unusedSimpArgs false
set_option linter.unusedVariables false
set_option maxHeartbeats 16000000
set_option maxRecDepth 100000
namespace Go.Proofs.Ytpohmfihpnineaa
open Go.Ev
def expand (es : List Me) : List Rw := es.flatMap fun e => List.replicate e.2.1.toNat e.1
def rpOf : MCode → RP
  | .seq mA (.seq mB (.seq mC (.seq (.seq (.region false ms4) (.block b0 (.loop lv ids (.seq (.region false [⟨some t13, none, .nxt _⟩, ⟨some t14, none, _⟩]) (.seq _ (.block b1 (.seq (.region false (⟨some t15, none, .ent _⟩ :: ms6)) (.region false ms7)))))))) mD))) =>
    match ms4.getLast? with
    | some ⟨some t12, none, .rng q x⟩ => ⟨mA, mB, mC, ms4.dropLast, x, q, t12, b0, lv, ids, t13, t14, b1, t15, ms6, ms7, mD⟩
    | _ => default
  | _ => default
where default : RP := ⟨.skip, .skip, .skip, [], .s 0, 0, 0, 0, [], [], 0, 0, 0, 0, [], [], .skip⟩
def rp : RP := rpOf Mf.f31.body
theorem rp_ok : Mf.f31.body = rp.code := by rfl
theorem rp_12 : rp.t12 = 12 ∧ rp.t13 = 13 ∧ rp.t14 = 14 ∧ rp.t15 = 15 ∧ rp.q = 3 ∧ rp.lv = [3, 12] ∧ rp.ids = [2, 3] ∧ rp.x = .s 11 := ⟨rfl, rfl, rfl, rfl, rfl, rfl, rfl, rfl⟩
theorem perm_map_inv {α β : Type} {f : α → β} {t m : List β} (h : t.Perm m) : ∀ l : List α, m = l.map f → ∃ t0 : List α, t = List.map f t0 ∧ List.Perm t0 l := by
  induction h with
  | nil => intro l hl; exact ⟨[], rfl, by cases l <;> simp at hl ⊢⟩
  | cons x h ih =>
    intro l hl
    cases l with
    | nil => simp at hl
    | cons a l =>
      simp only [List.map_cons, List.cons.injEq] at hl
      obtain ⟨t0, rfl, h2⟩ := ih l hl.2
      exact ⟨a :: t0, by simp [hl.1], h2.cons a⟩
  | swap x y l' =>
    intro l hl
    cases l with
    | nil => simp at hl
    | cons a l =>
      cases l with
      | nil => simp at hl
      | cons b l =>
        simp only [List.map_cons, List.cons.injEq] at hl
        exact ⟨b :: a :: l, by simp [hl.1, hl.2.1, hl.2.2], List.Perm.swap a b l⟩
  | trans h1 h2 ih1 ih2 =>
    intro l hl
    obtain ⟨t0, h3, h4⟩ := ih2 l hl
    obtain ⟨t1, h5, h6⟩ := ih1 t0 h3
    exact ⟨t1, h5, h6.trans h4⟩
theorem cf_sound {M : Go.Ev.Tab} (hM : TabOk Try.prog M) : CfSound Try.prog (cfT M) := fun f args H r H1 h => by
  obtain ⟨k, hk⟩ := cfT_ex h
  exact evalFun_sound hM k f args H r H1 hk
def nSl (n : Nat) : List AV := [.undef, .undef, .undef, .own 2 0 0 n 6, .undef, .undef, .undef, .undef, .undef, .undef, .undef, .undef, .ptr 3 0 0, .undef, .undef, .undef, .undef, .undef, .undef, .undef, .undef, .undef, .undef, .undef, .undef, .undef]
def nH (o0 o1 : AObj) (cs : List AV) : List AObj := [o0, o1, ⟨0, .row true 6 cs⟩, ⟨0, .none⟩, ⟨0, .none⟩]
theorem round_ev (o0 o1 : AObj) (acc : List Rw) (r : Rw) (k : Nat) (h1 : 1 ≤ k) (h2 : k ≤ 1000000) (h3 : acc.length + k ≤ 1000000) :
    ∃ st2 st3, runOps (cfT tabS) rp.ms6 ⟨(ovr rp (nSl acc.length)).set rp.t15 (.tup [.agg (rowC r), .int .i64 k]), nH o0 o1 (flatW acc)⟩ = some st2 ∧ runOps (cfT tabS) rp.ms7 st2 = some st3 ∧
      st3.H = [o0, o1, ⟨1, .row true 6 (flatW (acc ++ List.replicate k r))⟩, ⟨0, .none⟩, ⟨1, .var (rowC r)⟩] ∧ st3.sl[3]? = some (.own 2 1 0 (acc.length + k) 6) ∧ st3.sl[12]? = some (.ptr 3 0 0) ∧ st3.sl.length = 26 := by
  have e1 := cvTS (repeat_ev r k h1 h2)
  simp only [rW, List.length_replicate, rowC] at e1
  have g1 : (acc.length + k) * 24 ≤ 140737488355328 := by omega
  have g2 : acc.length + k < 4611686018427387904 := by omega
  have g3 := flatW_len acc
  have g4 : (flatW (List.replicate k r)).length = k * 6 := by rw [flatW_len, List.length_replicate]
  have g5 : flatW (acc ++ List.replicate k r) = flatW acc ++ flatW (List.replicate k r) := flatW_append _ _
  rw [g5]
  generalize flatW (List.replicate k r) = B at *
  generalize flatW acc = A at *
  have e6 : rp.ms6 = [⟨some 16, none, .extract (.s 15) 0⟩, ⟨some 17, none, .extract (.s 15) 1⟩, ⟨some 4, none, .alloc 4 [.int .u8 0, .int .u8 0, .int .u8 0, .int .u8 0, .int .i64 0, .int .i64 0]⟩, ⟨none, none, .store 6 4 [] (.s 4) (.s 16)⟩, ⟨some 5, none, .mv (.s 17)⟩] := rfl
  have e7 : rp.ms7 = [⟨some 18, none, .mv (.s 3)⟩, ⟨some 19, none, .load (some 6) (some 4) (.s 4)⟩, ⟨some 20, none, .lit none [] 1 6 [.int .u8 0, .int .u8 0, .int .u8 0, .int .u8 0, .int .i64 0, .int .i64 0] [(0, 6, .s 19)]⟩,
    ⟨some 21, none, .mv (.s 5)⟩, ⟨some 22, none, .call (.c (.fn 52 [] [])) [.s 20, .s 21] [] [] [] true⟩, ⟨some 23, none, .append 24 6 2 none (.s 18) (.s 22)⟩, ⟨some 3, none, .mv (.s 23)⟩] := rfl
  obtain ⟨t12, t13, t14, t15, _⟩ := rp_12
  rw [e6, e7, t15]
  unfold ovr
  rw [t13, t14]
  simp [runOps, stepOp, wanted, opV, ev, putV, layAll, nSl, nH, rowC, AV.cells, AV.atom, setCells, Ev.loadCells, objCells, bodyCells, fillV, repeatL, mapO, treeCell, AV.tree, freezeAll, callV_T, passV, passCell, e1, srcCells, g1, g2, g3, g4]
def treesV (c0 c1 c3 c4 c5 : AV) : Bool := [c0, c1, c3, c4, c5].all AV.tree
theorem fixCell_tree {m : Nat} {ids : List Nat} {H : List AObj} {c : AV} (h : c.tree = true) : fixCell m ids H c = c := by
  cases c <;> simp [AV.tree] at h <;> rfl
theorem fixVar {c0 c1 c3 c4 c5 : AV} (hc : treesV c0 c1 c3 c4 c5 = true) (ids : List Nat) (H : List AObj) : fixBody 2 ids H (.var [c0, c1, .mp 1 0, c3, c4, c5]) = some (.var [c0, c1, .mp 1 0, c3, c4, c5]) := by
  simp only [treesV, List.all_cons, List.all_nil, Bool.and_true, Bool.and_eq_true] at hc
  obtain ⟨k0, k1, k3, k4, k5⟩ := hc
  have hm : fixCell 2 ids H (.mp 1 0) = .mp 1 0 := by simp [fixCell]
  have hma : AV.atom (.mp 1 0) = true := rfl
  simp only [fixBody, List.map_cons, List.map_nil, fixCell_tree k0, fixCell_tree k1, fixCell_tree k3, fixCell_tree k4, fixCell_tree k5, hm, List.all_cons, List.all_nil, AV.tree_atom k0, AV.tree_atom k1, AV.tree_atom k3, AV.tree_atom k4, AV.tree_atom k5, hma, Bool.and_self, if_true]
theorem norm_ev (o0 o1 : AObj) (ha : ∀ ids H, fixBody 2 ids H o0.body = some o0.body) (hb : ∀ ids H, fixBody 2 ids H o1.body = some o1.body) (n : Nat) (cs : List AV) (st : St) (v q : Nat) (b4 : AObj)
    (hH : st.H = [o0, o1, ⟨v, .row true 6 cs⟩, ⟨q, .none⟩, b4]) (h3 : st.sl[3]? = some (.own 2 v 0 n 6)) (h12 : st.sl[12]? = some (.ptr 3 q 0)) (hl : st.sl.length = 26) :
    norm 2 rp.lv rp.ids st = some ⟨nSl n, nH o0 o1 cs⟩ := by
  obtain ⟨sl, H⟩ := st
  simp only at hH h3 h12 hl
  subst hH
  obtain ⟨_, _, _, _, _, elv, eid, _⟩ := rp_12
  rw [elv, eid]
  match sl, hl with
  | [a0, a1, a2, a3, a4, a5, a6, a7, a8, a9, a10, a11, a12, a13, a14, a15, a16, a17, a18, a19, a20, a21, a22, a23, a24, a25], _ =>
    simp at h3 h12
    subst h3
    subst h12
    obtain ⟨v0, B0⟩ := o0
    obtain ⟨v1, B1⟩ := o1
    simp only at ha hb
    have hr : ∀ H, fixBody 2 [2, 3] H (.row true 6 cs) = some (.row true 6 cs) := fun _ => rfl
    have hn : ∀ H, fixBody 2 [2, 3] H .none = some .none := fun _ => rfl
    simp [norm, fixObjs, ha, hb, hr, hn, fixSlots, fixV, fixCell, nSl, nH]
theorem loop_ev {c0 c1 c3 c4 c5 : AV} (hc : treesV c0 c1 c3 c4 c5 = true) (clk : Nat) (es : List Ent) : ∀ (t : List Me) (acc : List Rw) (st : St) (v q : Nat) (b4 : AObj), (∀ e ∈ t, 1 ≤ e.2.1 ∧ e.2.1 ≤ 1000000) → acc.length + (expand t).length ≤ 1000000 →
    st.H = [⟨0, .var [c0, c1, .mp 1 0, c3, c4, c5]⟩, ⟨0, .map clk es⟩, ⟨v, .row true 6 (flatW acc)⟩, ⟨q, .none⟩, b4] → st.sl[3]? = some (.own 2 v 0 acc.length 6) → st.sl[12]? = some (.ptr 3 q 0) → st.sl.length = 26 →
    IterR (cfT tabS) rp 2 1 0 clk es q (t.map encE) st ⟨ovr rp (nSl (acc ++ expand t).length), nH ⟨0, .var [c0, c1, .mp 1 0, c3, c4, c5]⟩ ⟨0, .map clk es⟩ (flatW (acc ++ expand t))⟩
  | [], acc, st, v, q, b4, hp, hn, hH, h3, h12, hl => by
    obtain ⟨t12, t13, t14, t15, tq, _⟩ := rp_12
    have hN := norm_ev ⟨0, .var [c0, c1, .mp 1 0, c3, c4, c5]⟩ ⟨0, .map clk es⟩ (fixVar hc) (fun _ _ => rfl) acc.length (flatW acc) st v q b4 hH h3 h12 hl
    have := IterR.done (cf := cfT tabS) (p := rp) (m := 2) (i := 1) (ver := 0) (clk := clk) (es := es) (vq := q) (st := st) ⟨by rw [hH]; rfl, by rw [t12, tq]; exact h12, by rw [hH, tq]; rfl, by rw [t13, hl]; omega, by rw [t14, hl]; omega⟩ hN
    simpa [expand] using this
  | e :: t, acc, st, v, q, b4, hp, hn, hH, h3, h12, hl => by
    obtain ⟨t12, t13, t14, t15, tq, _⟩ := rp_12
    have hN := norm_ev ⟨0, .var [c0, c1, .mp 1 0, c3, c4, c5]⟩ ⟨0, .map clk es⟩ (fixVar hc) (fun _ _ => rfl) acc.length (flatW acc) st v q b4 hH h3 h12 hl
    have he := hp e (by simp)
    obtain ⟨k, hk⟩ : ∃ k : Nat, e.2.1 = k := ⟨e.2.1.toNat, by omega⟩
    have hex : expand (e :: t) = List.replicate k e.1 ++ expand t := by simp [expand, hk]
    have hlen : acc.length + k + (expand t).length ≤ 1000000 := by rw [hex] at hn; simp at hn; omega
    obtain ⟨st2, st3, r1, r2, r3, r4, r5, r6⟩ := round_ev ⟨0, .var [c0, c1, .mp 1 0, c3, c4, c5]⟩ ⟨0, .map clk es⟩ acc e.1 k (by omega) (by omega) (by omega)
    have ih := loop_ev hc clk es t (acc ++ List.replicate k e.1) st3 1 0 _ (fun x hx => hp x (by simp [hx])) (by simp; omega) r3 (by simpa using r4) r5 r6
    rw [hex, ← List.append_assoc]
    refine IterR.step ⟨by rw [hH]; rfl, by rw [t12, tq]; exact h12, by rw [hH, tq]; rfl, by rw [t13, hl]; omega, by rw [t14, hl]; omega⟩ hN ?_ r2 ih
    simp only [encE, hk]
    exact r1
def decM : List Ent → Option (List Me)
  | [] => some []
  | ([.int .u8 a, .int .u8 b, .int .u8 c, .int .u8 d, .int .i64 x, .int .i64 y], v, s) :: r => (decM r).map ((⟨a, b, c, d, x, y⟩, v, s) :: ·)
  | _ => none
theorem decM_enc : ∀ (es : List Me), decM (es.map encE) = some es
  | [] => rfl
  | e :: es => by
    rw [List.map_cons]
    show decM (([.int .u8 e.1.a, .int .u8 e.1.b, .int .u8 e.1.c, .int .u8 e.1.d, .int .i64 e.1.x, .int .i64 e.1.y], e.2.1, e.2.2) :: es.map encE) = _
    simp only [decM, decM_enc es, Option.map_some]
theorem enc_decM : ∀ (E : List Ent) (es : List Me), decM E = some es → E = es.map encE := by
  intro E
  induction E using decM.induct with
  | case1 => intro es h; simp [decM] at h; subst h; rfl
  | case2 a b c d x y v s r ih =>
    intro es h
    simp only [decM] at h
    obtain ⟨l, h1, rfl⟩ := Option.map_eq_some_iff.1 h
    rw [List.map_cons, ← ih l h1]
    rfl
  | case3 t h1 h2 =>
    intro es h
    unfold decM at h
    split at h
    · exact absurd rfl h1
    · exact absurd rfl (h2 _ _ _ _ _ _ _ _ _)
    · cases h
def okX (clk : Nat) (es : List Me) : Bool :=
  decide ((es.map (·.2.2)).Nodup) && es.all (fun e => decide (e.2.2 < clk) && decide (1 ≤ e.2.1 ∧ e.2.1 ≤ 1000000) && decide (okW e.1)) && decide ((expand es).length ≤ 1000000)
def rowsX : CallF := fun f args H => if f = 31 then (match args, H with
    | [.ptr 0 0 0], [⟨0, .var [c0, c1, .mp 1 0, c3, c4, c5]⟩, ⟨0, .map clk E⟩] => match decM E with
      | some es => if okX clk es = true ∧ treesV c0 c1 c3 c4 c5 = true then
          some (rW (srt (expand es)), [⟨0, .var [c0, c1, .mp 1 0, c3, c4, c5]⟩, ⟨0, .map clk E⟩, ⟨0, .none⟩, ⟨0, .none⟩, ⟨0, .none⟩]) else none
      | none => none
    | [.nilptr], [⟨0, .none⟩, ⟨0, .none⟩] => some (.nilsl, [⟨0, .none⟩, ⟨0, .none⟩, ⟨0, .none⟩, ⟨0, .none⟩, ⟨0, .none⟩])
    | _, _ => none) else none
theorem expand_perm {a b : List Me} (h : a.Perm b) : (expand a).Perm (expand b) := h.flatMap_right _
theorem expand_ok {es : List Me} (h : ∀ e ∈ es, okW e.1) : okL (expand es) := fun r hr => by
  obtain ⟨e, he, h2⟩ := List.mem_flatMap.1 hr
  rw [(List.mem_replicate.1 h2).2]
  exact h e he
theorem enc_plain (e : Me) : (encE e).1.all plainC = true := rfl
theorem rows_nil : CallOk Try.prog 31 ∧ ∀ (E : Env) (vals : Array Value), WRel E → E.H = [⟨0, .none⟩, ⟨0, .none⟩] → LRel E [.nilptr] vals.toList →
    Calls Try.prog 31 vals E.w (CfPost E .nilsl [⟨0, .none⟩, ⟨0, .none⟩, ⟨0, .none⟩, ⟨0, .none⟩, ⟨0, .none⟩]) := by
  have hM : TabOk Try.prog ⟨fun f => if f = 31 then some Mf.f31 else none, fun _ _ _ => none⟩ := by
    refine ⟨fun f mf h => ?_, fun f args H r H1 h => by cases h⟩
    simp only at h
    split at h
    · rename_i e; cases h; subst e; exact ⟨Try.f31, Try.func31, mf31_ok⟩
    · cases h
  exact evalFun_sound hM 1 _ _ _ _ _ (by kernel_rfl)
theorem rows_some (c0 c1 c3 c4 c5 : AV) (clk : Nat) (es : List Me) (hx : okX clk es = true) (hc : treesV c0 c1 c3 c4 c5 = true) : CallOk Try.prog 31 ∧
    ∀ (E : Env) (vals : Array Value), WRel E → E.H = [⟨0, .var [c0, c1, .mp 1 0, c3, c4, c5]⟩, ⟨0, .map clk (es.map encE)⟩] → LRel E [.ptr 0 0 0] vals.toList →
      Calls Try.prog 31 vals E.w (CfPost E (rW (srt (expand es))) [⟨0, .var [c0, c1, .mp 1 0, c3, c4, c5]⟩, ⟨0, .map clk (es.map encE)⟩, ⟨0, .none⟩, ⟨0, .none⟩, ⟨0, .none⟩]) := by
  simp only [okX, Bool.and_eq_true, decide_eq_true_eq, List.all_eq_true] at hx
  obtain ⟨⟨hn, hall⟩, hlen⟩ := hx
  obtain ⟨t12, t13, t14, t15, tq, elv, eid, ex⟩ := rp_12
  have hA : rp.mA = .region false [⟨some 2, none, .mv (.c .nilsl)⟩] := rfl
  have hB : rp.mB = .seq (.region false [⟨some 6, none, .mv (.s 0)⟩, ⟨some 7, none, .bin .eql .ptr (.s 6) (.c .nilptr)⟩]) (.cond (.s 7) (.seq (.region false [⟨some 2, none, .mv (.c .nilsl)⟩]) .ret) .skip) := rfl
  have hC : rp.mC = .region false [⟨some 3, none, .vnil 2 6⟩] := rfl
  have h4 : rp.ms4 = [⟨some 8, none, .mv (.s 0)⟩, ⟨some 9, none, .nilchk (.s 8)⟩, ⟨some 10, none, .faddr 2 (.s 9)⟩, ⟨some 11, none, .load none (some 0) (.s 10)⟩] := rfl
  have hD : rp.mD = .seq (.region false [⟨some 24, none, .mv (.s 3)⟩, ⟨some 25, none, .call (.c (.fn 27 [] [])) [.s 24] [] [2] [] true⟩, ⟨some 2, none, .mv (.s 25)⟩]) .ret := rfl
  have hnp : Mf.f31.np = 1 := rfl
  have hnt : Mf.f31.nt = 26 := rfl
  have hno : Mf.f31.no = 3 := rfl
  have hre : Mf.f31.res = [.slot 2] := rfl
  obtain ⟨o0, ho0⟩ : ∃ o0 : AObj, o0 = ⟨0, .var [c0, c1, .mp 1 0, c3, c4, c5]⟩ := ⟨_, rfl⟩
  have main := rangeFun_sound (cf := cfT tabS) (cf_sound tabS_ok) rp (mf := Mf.f31) (fuel := 0) Try.func31 mf31_ok rp_ok (by rw [t13, t12]; decide) (by rw [t14, t12]; decide) (by rw [t14, t13]; decide) (by rw [eid, tq]; rfl)
    (args := [.ptr 0 0 0]) (H := [⟨0, .var [c0, c1, .mp 1 0, c3, c4, c5]⟩, ⟨0, .map clk (es.map encE)⟩]) (r := rW (srt (expand es))) (H1 := [⟨0, .var [c0, c1, .mp 1 0, c3, c4, c5]⟩, ⟨0, .map clk (es.map encE)⟩, ⟨0, .none⟩, ⟨0, .none⟩, ⟨0, .none⟩])
    (i := 1) (ver := 0) (clk := clk) (es := es.map encE) (oq := ⟨0, .none⟩) rfl (by rw [tq]; exact Nat.le_succ 2) (Nat.lt_succ_self 1) rfl rfl rfl rfl rfl rfl rfl
    (by simpa [encE, Function.comp_def] using hn) (fun e he => by
      obtain ⟨x, hx, rfl⟩ := List.mem_map.1 he
      exact (hall x hx).1.1) (fun e he => by obtain ⟨x, hx, rfl⟩ := List.mem_map.1 he; exact enc_plain x)
  refine main ?_
  intro t ht
  obtain ⟨t0, rfl, hp⟩ := perm_map_inv ht es rfl
  have hpe := expand_perm hp
  have hl := loop_ev hc clk (es.map encE) t0 [] ⟨(([.ptr 0 0 0, .tup [], .nilsl, .own 2 1 0 0 6, .tup [], .tup [], .ptr 0 0 0, .bool false, .ptr 0 0 0, .ptr 0 0 0, .ptr 0 0 2, .mp 1 0, .ptr 3 1 0, .tup [], .tup [], .tup [], .tup [], .tup [], .tup [], .tup [], .tup [], .tup [], .tup [], .tup [], .tup [], .tup []] : List AV)), [⟨0, .var [c0, c1, .mp 1 0, c3, c4, c5]⟩, ⟨0, .map clk (es.map encE)⟩, ⟨1, .row true 6 []⟩, ⟨1, .none⟩, ⟨0, .none⟩]⟩ 1 1 ⟨0, .none⟩
    (fun e he => (hall e (hp.mem_iff.1 he)).1.2) (by rw [hpe.length_eq]; simpa using hlen) rfl rfl rfl rfl
  simp only [List.nil_append] at hl
  have hok : okL (expand t0) := expand_ok fun e he => (hall e (hp.mem_iff.1 he)).2
  have hsrt : srt (expand t0) = srt (expand es) := srt_same hok hpe
  have hsl := srt_len (expand t0)
  have e1 := sort_ev hok (by rw [hpe.length_eq]; exact hlen)
  rw [hsrt] at e1
  have hT := flatW_len (expand t0)
  have htr := flatW_tree (expand t0)
  have hdr : List.take ((expand t0).length * 6) (flatW (expand t0)) = flatW (expand t0) := List.take_of_length_le (by omega)
  refine ⟨_, ⟨[.undef, .undef, rW (srt (expand es)), .own 2 0 0 (expand t0).length 6, .undef, .undef, .undef, .undef, .undef, .undef, .undef, .undef, .ptr 3 0 0, .undef, .undef, .undef, .undef, .undef, .undef, .undef, .undef, .undef, .undef, .undef, .own 2 0 0 (expand t0).length 6, rW (srt (expand es))], [⟨0, .var [c0, c1, .mp 1 0, c3, c4, c5]⟩, ⟨0, .map clk (es.map encE)⟩, ⟨0, .row false 6 (flatW (expand t0))⟩, ⟨0, .none⟩, ⟨0, .none⟩]⟩, rW (srt (expand es)), hl, ?_, ?_, rfl, ?_⟩
  · rw [hD]
    unfold ovr
    rw [t13, t14]
    clear main hl
    have hsl2 := srt_len (expand es)
    simp only [rW] at e1 ⊢
    generalize srt (expand es) = Z at *
    generalize flatW Z = FZ at *
    generalize flatW (expand t0) = A at *
    generalize (expand t0).length = N at *
    generalize ABody.var [c0, c1, .mp 1 0, c3, c4, c5] = B at *
    simp [evalCode, runOps, stepOp, wanted, opV, ev, putV, layAll, nSl, nH, freezeAll, callV_T, passV, passCell, mapO, objCells, bodyCells, hT, hdr, htr, e1, backR, backV, backCell]
  · rw [hre]; rfl
  · have hv := fixVar hc [] [⟨0, .var [c0, c1, .mp 1 0, c3, c4, c5]⟩, ⟨0, .map clk (es.map encE)⟩, ⟨0, .row false 6 (flatW (expand t0))⟩, ⟨0, .none⟩, ⟨0, .none⟩]
    have hm : ∀ H, fixBody 2 [] H (.map clk (es.map encE)) = some (.map clk (es.map encE)) := fun _ => rfl
    clear main hl
    simp only [List.length_cons, List.length_nil] at hv ⊢
    generalize ABody.var [c0, c1, .mp 1 0, c3, c4, c5] = B at *
    generalize ABody.map clk (es.map encE) = C at *
    simp [fixObjs, hv, hm]
theorem rowsX_sound : CfSound Try.prog rowsX := fun f args H r H1 h => by
  unfold rowsX at h
  split at h
  · rename_i e
    subst e
    split at h
    · rename_i c0 c1 c3 c4 c5 clk E
      split at h
      · rename_i es hd
        have hE := enc_decM _ _ hd
        subst hE
        split at h
        · rename_i hk
          cases h
          exact rows_some c0 c1 c3 c4 c5 clk es hk.1 hk.2
        · cases h
      · cases h
    · cases h
      exact rows_nil
    · cases h
  · cases h
def tabB : Go.Ev.Tab := ⟨tabS.fn, orX tabS.ext rowsX⟩
theorem tabB_ok : TabOk Try.prog tabB := ⟨tabS_ok.fn, orX_sound tabS_ok.ext rowsX_sound⟩
theorem tabB_le : Le tabS.ext tabB.ext := fun f a H r h => by
  show orX _ _ f a H = _
  unfold orX
  rw [h]
theorem cfB {f : FuncId} {a : List AV} {H : List AObj} {r : AV × List AObj} (h : cfT tabS f a H = some r) : cfT tabB f a H = some r := cfT_more tabB_le h
theorem cvFB {f : FuncId} {a : List AV} {r : AV} (h : cvF tabS f a = some r) : cvF tabB f a = some r := by
  unfold cvF at h ⊢
  obtain ⟨p, h1, h2⟩ := Option.bind_eq_some_iff.1 h
  rw [cfB h1]
  exact h2
theorem cvTB {f : FuncId} {a : List AV} {r : AV} (h : cvT tabS f a = some r) : cvT tabB f a = some r := by
  unfold cvT at h ⊢
  obtain ⟨p, h1, h2⟩ := Option.bind_eq_some_iff.1 h
  rw [cfB h1]
  exact h2
theorem rows_cf {c0 c1 c3 c4 c5 : AV} (hc : treesV c0 c1 c3 c4 c5 = true) {clk : Nat} {es : List Me} (hx : okX clk es = true) :
    cfT tabB 31 [.ptr 0 0 0] [⟨0, .var [c0, c1, .mp 1 0, c3, c4, c5]⟩, ⟨0, .map clk (es.map encE)⟩] =
      some (rW (srt (expand es)), [⟨0, .var [c0, c1, .mp 1 0, c3, c4, c5]⟩, ⟨0, .map clk (es.map encE)⟩, ⟨0, .none⟩, ⟨0, .none⟩, ⟨0, .none⟩]) := by
  refine cfT_ext rfl ?_
  have h0 : tabS.ext 31 [.ptr 0 0 0] [⟨0, .var [c0, c1, .mp 1 0, c3, c4, c5]⟩, ⟨0, .map clk (es.map encE)⟩] = none := rfl
  simp only [tabB]
  unfold orX
  rw [h0]
  simp [rowsX, decM_enc, hx, hc]
end Go.Proofs.Ytpohmfihpnineaa
