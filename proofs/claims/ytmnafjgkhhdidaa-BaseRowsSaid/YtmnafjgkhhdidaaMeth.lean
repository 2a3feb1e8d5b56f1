/- Calls that take an object along. -/
import Derived.Test.YtmnafjgkhhdidaaTab
set_option linter.unusedSimpArgs false
set_option linter.unusedVariables false
set_option maxHeartbeats 4000000
set_option maxRecDepth 100000
namespace Go.Proofs.Ytmnafjgkhhdidaa
open Go.Ev
theorem callV_O {M : Go.Ev.Tab} {H : List AObj} {f : FuncId} {first args caps : List AV} {i : Nat} {objs fzs : List Nat} : callV (cfT M) H (.fn f first caps) args (i :: objs) fzs [] true =
    if okIds (i :: objs) fzs [] = true then (mapO (passV H (i :: objs) fzs) (first ++ args ++ caps)).bind fun xs => (passObjs H (i :: objs) fzs (i :: objs)).bind fun H0 => (cfT M f xs H0).bind fun p =>
      (backR H p.2 (i :: objs) [] p.1).bind fun r' => (backObjs H p.2 (i :: objs) [] (i :: objs) p.2).bind fun ups => (freezeAll H fzs).map fun fr => (r', fr ++ ups) else none := by
  simp only [callV, passN_nil]
  by_cases h : okIds (i :: objs) fzs [] = true
  · simp only [h, if_true]
    cases mapO (passV H (i :: objs) fzs) (first ++ args ++ caps) with
    | none => rfl
    | some xs =>
      simp only [Option.bind_some]
      cases passObjs H (i :: objs) fzs (i :: objs) with
      | none => rfl
      | some H0 =>
        simp only [Option.bind_some]
        cases cfT M f xs H0 with
        | none => rfl
        | some p =>
          obtain ⟨r, H1⟩ := p
          simp only [Option.bind_some, adopts]
          cases backR H H1 (i :: objs) [] r with
          | none => rfl
          | some r' =>
            cases backObjs H H1 (i :: objs) [] (i :: objs) H1 with
            | none => rfl
            | some ups => simp
  · simp only [h, if_false]
    rfl
theorem callV_A {M : Go.Ev.Tab} {H : List AObj} {f : FuncId} {first args caps : List AV} {t : Nat} {fzs : List Nat} : callV (cfT M) H (.fn f first caps) args [] fzs [(0, t)] true =
    if okIds [] fzs [(0, t)] = true then (mapO (passN H [] fzs [(0, t)]) (first ++ args ++ caps)).bind fun xs => (cfT M f xs []).bind fun p =>
      (backR H p.2 [] [(0, t)] p.1).bind fun r' => (adopts H p.2 [] [(0, t)] [(0, t)]).bind fun ads => (freezeAll H fzs).map fun fr => (r', fr ++ ads) else none := by
  simp only [callV]
  by_cases h : okIds [] fzs [(0, t)] = true
  · simp only [h, if_true, passObjs]
    cases mapO (passN H [] fzs [(0, t)]) (first ++ args ++ caps) with
    | none => rfl
    | some xs =>
      simp only [Option.bind_some]
      cases cfT M f xs [] with
      | none => rfl
      | some p =>
        obtain ⟨r, H1⟩ := p
        simp only [Option.bind_some, backObjs]
        cases backR H H1 [] [(0, t)] r with
        | none => rfl
        | some r' =>
          cases adopts H H1 [] [(0, t)] [(0, t)] with
          | none => rfl
          | some ads => simp
  · simp only [h, if_false]
    rfl
theorem bytesOf_map (l : List Int) : Ev.bytesOf (l.map (.int .u8)) = some (l.map fun n => UInt8.ofNat n.toNat) := by
  induction l with
  | nil => rfl
  | cons a l ih => simp only [List.map, Ev.bytesOf, ih, Option.map_some]
end Go.Proofs.Ytmnafjgkhhdidaa
