/- Plain laws of amounts of time: what a string like -1:30 is read as, and how seconds are printed. No program in sight. -/
import Derived.Test.YtgllbagmmpicaaaGreatDoorCiv
namespace Go.Proofs.YtgllbagmmpicaaaGreatDoor.Off

def digQ (c : UInt8) : Bool := decide (48 ≤ c.toNat) && decide (c.toNat ≤ 57)
/-- the number of some digits -/
def valD (l : List UInt8) : Nat := l.foldl (fun x c => 10 * x + (c.toNat - 48)) 0
theorem valD_snoc (l : List UInt8) (c : UInt8) : valD (l ++ [c]) = 10 * valD l + (c.toNat - 48) := by simp [valD]
def run (p : UInt8 → Bool) (l : List UInt8) : List UInt8 := l.takeWhile p
def past (p : UInt8 → Bool) (l : List UInt8) : List UInt8 := l.dropWhile p
/-- two digits below 60 at the front: their number, and what is behind -/
def pairL : List UInt8 → Option (Nat × List UInt8)
  | a :: b :: r => if digQ a && digQ b && decide (a.toNat ≤ 53) then some (10 * (a.toNat - 48) + (b.toNat - 48), r) else none
  | _ => none
/-- what stands behind the hours: how many seconds it adds -/
def tailL (l : List UInt8) : Option Nat :=
  match l with
  | [] => some 0
  | c :: r1 => if c = 58 then
      match pairL r1 with
      | none => none
      | some (m, []) => some (60 * m)
      | some (m, c2 :: r3) => if c2 = 58 then
          match pairL r3 with
          | some (s, []) => some (60 * m + s)
          | _ => none
        else none
    else none
/-- the amount of a string without a sign -/
def formL (l : List UInt8) : Option Nat :=
  let d := run digQ l
  if d = [] ∨ 3 < d.length ∨ (1 < d.length ∧ d.headD 0 = 48) then none
  else match tailL (past digQ l) with
    | none => none
    | some x => some (3600 * valD d + x)
/-- the seconds of a string, and the error: 0 none, 5 its form, 3 its range -/
def parseO (l : List UInt8) : Int × Int :=
  let minus := l.headD 0 = 45
  match formL (if minus then l.drop 1 else l) with
  | none => (0, 5)
  | some x => if minus ∧ x = 0 then (0, 5) else if 604799 < x then (0, 3) else if minus then (-(x : Int), 0) else ((x : Int), 0)

/-- a number below 1000, decimal -/
def dec (n : Nat) : List UInt8 := if n < 10 then [UInt8.ofNat (48 + n)] else if n < 100 then [UInt8.ofNat (48 + n / 10), UInt8.ofNat (48 + n % 10)] else [UInt8.ofNat (48 + n / 10 / 10), UInt8.ofNat (48 + n / 10 % 10), UInt8.ofNat (48 + n % 10)]
def two (n : Nat) : List UInt8 := [UInt8.ofNat (48 + n / 10), UInt8.ofNat (48 + n % 10)]
def printN (x : Nat) : List UInt8 := dec (x / 3600) ++ 58 :: two (x / 60 % 60) ++ (if x % 60 = 0 then [] else 58 :: two (x % 60))
/-- seconds, printed -/
def printO (x : Int) : List UInt8 := if x < 0 then 45 :: printN (-x).toNat else printN x.toNat
end Go.Proofs.YtgllbagmmpicaaaGreatDoor.Off
