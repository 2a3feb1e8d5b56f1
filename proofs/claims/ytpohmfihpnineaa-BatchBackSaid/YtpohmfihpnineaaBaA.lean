/- The base: what it holds, and a new one. -/
import Derived.Test.YtpohmfihpnineaaPgB
import Derived.Test.YtpohmfihpnineaaPgD
set_option linter.unusedSimpArgs false
set_option linter.unusedVariables false
set_option maxHeartbeats 4000000
set_option maxRecDepth 100000
namespace Go.Proofs.Ytpohmfihpnineaa
open Go.Ev
abbrev Me := Rw × Int × Nat
def encE (e : Me) : List AV × Int × Nat := (rowC e.1, e.2.1, e.2.2)
structure Bs where
  clk : Nat
  es : List Me
  n : Int
  mx : Int
  my : Int
theorem callV_R {M : Go.Ev.Tab} {H : List AObj} {f : FuncId} {first args caps : List AV} {rp0 : Nat × Nat} {ret : List (Nat × Nat)} {fzs : List Nat} : callV (cfT M) H (.fn f first caps) args [] fzs (rp0 :: ret) true =
    if okIds [] fzs (rp0 :: ret) = true then (mapO (passN H [] fzs (rp0 :: ret)) (first ++ args ++ caps)).bind fun xs => (cfT M f xs []).bind fun p =>
      (backR H p.2 [] (rp0 :: ret) p.1).bind fun r' => (adopts H p.2 [] (rp0 :: ret) (rp0 :: ret)).bind fun ads => (freezeAll H fzs).map fun fr => (r', fr ++ ads) else none := by
  simp only [callV]
  by_cases h : okIds [] fzs (rp0 :: ret) = true
  · simp only [h, if_true, passObjs]
    cases mapO (passN H [] fzs (rp0 :: ret)) (first ++ args ++ caps) with
    | none => rfl
    | some xs =>
      simp only [Option.bind_some]
      cases cfT M f xs [] with
      | none => rfl
      | some p =>
        obtain ⟨r, H1⟩ := p
        simp only [Option.bind_some, backObjs]
        cases backR H H1 [] (rp0 :: ret) r with
        | none => rfl
        | some r' =>
          cases adopts H H1 [] (rp0 :: ret) (rp0 :: ret) with
          | none => rfl
          | some ads => simp
  · simp only [h, if_false]
    rfl
end Go.Proofs.Ytpohmfihpnineaa
