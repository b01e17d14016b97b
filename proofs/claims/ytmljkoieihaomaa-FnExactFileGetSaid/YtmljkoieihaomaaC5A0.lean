/- Contracts. -/
import Derived.Test.YtmljkoieihaomaaC4C8
namespace Go.Ev.Ytmljkoieihaomaa
set_option linter.unusedVariables false
set_option linter.unusedSimpArgs false
open Go.Ev
/-! What is wrong with a class: in plain words. -/
/-- The text of a name, or the name of a class. -/
def nmM (p : List SConst) (i : Int) : List UInt8 := if (cAt p i).Kind = 2 then (cAt p (cAt p i).A).Text else (cAt p i).Text
def bit (n : Int) (i : Nat) : Bool := decide (n / (2 ^ i : Nat) % 2 = 1)
def facesGo (p : List SConst) : List Int → List Int → Bool
  | _, [] => true
  | pre, f :: l => classAtM p f && (pre.all (fun g => !decide (classM p g = classM p f)) && facesGo p (pre ++ [f]) l)
def objS : List UInt8 := [79, 98, 106]
def beginS : List UInt8 := [98, 101, 103, 105, 110]
def voidS : List UInt8 := [40, 41, 86]
def headM (c : SClass) : Bool :=
  classAtM c.Pool c.Name && (classAtM c.Pool c.Super && (!decide (classM c.Pool c.Super = classM c.Pool c.Name) && (facesGo c.Pool [] c.Faces && (inR c.Flags 0 7 && (!(bit c.Flags 1 && bit c.Flags 2) && (!bit c.Flags 0 || (bit c.Flags 2 && decide (classM c.Pool c.Super = objS))))))))
def fieldM (c : SClass) (f : SField) : Bool :=
  nameOk (textM c.Pool f.Name) && (typeOk (textM c.Pool f.Typ) && (inR f.Flags 0 3 && !(bit c.Flags 0 && !decide (f.Flags = 2))))
def fieldsGo (c : SClass) : List SField → List SField → Bool
  | _, [] => true
  | pre, f :: l => fieldM c f && (pre.all (fun g => !decide (textM c.Pool g.Name = textM c.Pool f.Name)) && fieldsGo c (pre ++ [f]) l)

end Go.Ev.Ytmljkoieihaomaa
