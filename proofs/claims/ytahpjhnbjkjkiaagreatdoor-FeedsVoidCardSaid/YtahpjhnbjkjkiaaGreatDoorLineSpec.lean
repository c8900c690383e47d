/- Plain: what a line of the protocol asks for: the command that it has, what is told of it. No condition. -/
import Derived.Test.YtahpjhnbjkjkiaaGreatDoorNumsParse
import Derived.Test.YtahpjhnbjkjkiaaGreatDoorWords
import Derived.Test.YtahpjhnbjkjkiaaGreatDoorKeys
namespace Go.Proofs.YtahpjhnbjkjkiaaGreatDoor

/-- A command. -/
structure Cmd where
  verb : Nat
  keys : List (List UInt8)
  cverb : Nat
  key : List UInt8
  value : List UInt8
  flags : Nat
  exp : Int
  id : Nat
  by' : Nat
  bytes : Int
  quiet : Bool
def noCmd : Cmd := ⟨0, [], 0, [], [], 0, 0, 0, 0, 0, false⟩

def names : List (List UInt8) := [[103, 101, 116], [103, 101, 116, 115], [115, 101, 116], [97, 100, 100], [114, 101, 112, 108, 97, 99, 101], [99, 97, 115], [100, 101, 108, 101, 116, 101], [116, 111, 117, 99, 104], [105, 110, 99, 114], [100, 101, 99, 114], [102, 108, 117, 115, 104, 95, 97, 108, 108], [118, 101, 114, 115, 105, 111, 110], [113, 117, 105, 116]]
def noreply : List UInt8 := [110, 111, 114, 101, 112, 108, 121]
/-- The verb of a name; 0: none. -/
def verbOf (w : List UInt8) : Nat := match names.findIdx? (· == w) with | some i => i + 1 | none => 0
/-- How many words at least, at most; may it be quiet; are all words keys; the fields behind the key: 0 flags, 1 exp, 2 size, 3 id, 4 by. -/
def leastOf (v : Nat) : Nat := [0, 1, 1, 4, 4, 4, 5, 1, 2, 2, 2, 0, 0, 0].getD v 0
def mostOf (v : Nat) : Nat := [0, 64, 64, 4, 4, 4, 5, 1, 2, 2, 2, 1, 0, 0].getD v 0
def quietOf (v : Nat) : Bool := 3 ≤ v && v ≤ 11
def keysOf (v : Nat) : Bool := v == 1 || v == 2
def restOf (v : Nat) : List Nat := [[], [], [], [0, 1, 2], [0, 1, 2], [0, 1, 2], [0, 1, 2, 3], [], [1], [4], [4], [1], [], []].getD v []

/-- One word read into a field. -/
def readF (c : Cmd) (f : Nat) (w : List UInt8) : Cmd × Bool :=
  if f = 0 then ({ c with flags := (parse32N w).getD 0 }, (parse32N w).isSome)
  else if f = 1 then ({ c with exp := (signedN w).getD 0 }, (signedN w).isSome)
  else if f = 2 then ({ c with bytes := ((min ((parseN w).getD 0) 2147483647 : Nat) : Int) }, match parseN w with | some n => n ≤ 2147483647 | none => false)
  else if f = 3 then ({ c with id := (parseN w).getD 0 }, (parseN w).isSome)
  else ({ c with by' := (parseN w).getD 0 }, (parseN w).isSome)
/-- The words behind the key, field by field: the command, and what is told. -/
def readAll (c : Cmd) : List Nat → List (List UInt8) → Cmd × Nat
  | _, [] => (c, 0)
  | [], _ :: _ => (c, 2)
  | f :: fs, w :: ws => if (readF c f w).2 then readAll (readF c f w).1 fs ws else ((readF c f w).1, if f = 4 then 4 else 2)

/-- The words of a verb, behind its name, without a last noreply: the command, and what is told. -/
def parseW (v : Nat) (quiet : Bool) (l : List (List UInt8)) : Cmd × Nat :=
  let many := if keysOf v then l.length else min (leastOf v) 1
  let ks := l.take many
  if ks.any (fun k => !okB k) then (noCmd, 2)
  else
    let c : Cmd := ⟨v, ks, v, ks.headD [], [], 0, 0, 0, 0, -1, quiet⟩
    let r := readAll c (restOf v) (l.drop many)
    if r.2 ≠ 0 then (noCmd, r.2) else if 1024 < r.1.bytes then (r.1, 5) else (r.1, 0)
def isQuiet (v : Nat) (l : List (List UInt8)) : Bool := quietOf v && decide (leastOf v < l.length) && l.getLast? == some noreply
/-- A line. -/
def parseL (s : List UInt8) : Cmd × Nat :=
  if 2048 < s.length then (noCmd, 3)
  else match words s with
    | [] => (noCmd, 1)
    | name :: l =>
      let v := verbOf name
      let q := isQuiet v l
      let l' := if q then l.dropLast else l
      if v = 0 ∨ l'.length < leastOf v ∨ mostOf v < l'.length then (noCmd, 1) else parseW v q l'
end Go.Proofs.YtahpjhnbjkjkiaaGreatDoor
