/- scaled.reader.read: what it answers (plain). NOT WALKED YET. -/
import Derived.Test.YtjefmcfkhalagaaScdZScaledWrites
import Derived.Test.YtjefmcfkhalagaaQ0ZScaledWrites
namespace Go.Proofs.Ytjefmcfkhalagaa.Scr
set_option linter.unusedVariables false
set_option linter.unusedSimpArgs false
open Go.RowKit Go.Proofs.Ytjefmcfkhalagaa.Q Go.Proofs.YtjefmcfkhalagaaW.PrintWords Go.Proofs.YtjefmcfkhalagaaW.PrintLast Go.Proofs.Ytjefmcfkhalagaa.Keep Go.Proofs.Ytjefmcfkhalagaa.Dig

/-- Where the digits begin; how many there are; is there a point; how many behind it; where the reader stands then. -/
def a1 (l : List Int) : Nat := if isb l 0 43 45 = true then 1 else 0
def m1 (l : List Int) : Nat := lead (l.drop (a1 l))
def pt (l : List Int) : Nat := a1 l + m1 l
def dot (l : List Int) : Bool := isb l (pt l) 46 46
def m2 (l : List Int) : Nat := if dot l = true then lead (l.drop (pt l + 1)) else 0
def endAt (l : List Int) : Nat := if dot l = true then pt l + 1 + m2 l else pt l
def whole (l : List Int) : List Int := (l.drop (a1 l)).take (m1 l)
def frac (l : List Int) : List Int := if dot l = true then (l.drop (pt l + 1)).take (m2 l) else []
/-- The first digit behind the scale that is no nought. -/
def badAt (f : List Int) (sc : Nat) : Option Nat := (List.range f.length).find? fun i => decide (sc ≤ i ∧ rd f (i : Int) ≠ 48)
def all (l : List Int) (sc : Nat) : List Int := 48 :: (whole l ++ ((frac l).take sc ++ List.replicate (sc - (frac l).length) 48))
/-- What read answers: a value, or what is thrown. -/
def readF (K : Nat) (l : List Int) (sc : Nat) : Option (Int ⊕ (Int × Int)) :=
  if m1 l + m2 l = 0 ∨ endAt l < l.length then some (.inr ((endAt l : Int), 121)) else
    match badAt (frac l) sc with
    | some i => some (.inr (((pt l + 1 + i : Nat) : Int), 122))
    | none => (digit_Value.f K (all l sc)).bind fun r => if r.2 ≠ 0 ∨ r.1 > 999999999999999999 then some (.inr (0, 123)) else some (.inl (if isb l 0 45 45 = true then IntKind.u64.wrap (-r.1) else r.1))
end Go.Proofs.Ytjefmcfkhalagaa.Scr
