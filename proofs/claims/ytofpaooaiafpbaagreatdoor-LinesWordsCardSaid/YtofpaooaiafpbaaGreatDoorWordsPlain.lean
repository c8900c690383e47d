/- Plain: the words of each verb: with its words nothing is told, and so on. No program in sight. -/
import Derived.Test.YtofpaooaiafpbaaGreatDoorLinePlain
namespace Go.Proofs.YtofpaooaiafpbaaGreatDoor

def onesN (k : Nat) : List UInt8 := List.replicate k 49
def keyW : List UInt8 := [107, 101, 121]
def otherW : List UInt8 := [111, 116, 104, 101, 114]
def moreW : List UInt8 := [109, 111, 114, 101]
/-- The words of a verb (from 0), with numbers of so many ones. -/
def wordsV (v : Nat) (a b c d : List UInt8) : List (List UInt8) :=
  match v with
  | 0 => [[103, 101, 116], keyW]
  | 1 => [[103, 101, 116, 115], keyW, otherW]
  | 2 => [[115, 101, 116], keyW, a, b, c]
  | 3 => [[97, 100, 100], keyW, a, b, c]
  | 4 => [[114, 101, 112, 108, 97, 99, 101], keyW, a, b, c]
  | 5 => [[99, 97, 115], keyW, a, b, c, d]
  | 6 => [[100, 101, 108, 101, 116, 101], keyW]
  | 7 => [[116, 111, 117, 99, 104], keyW, b]
  | 8 => [[105, 110, 99, 114], keyW, d]
  | 9 => [[100, 101, 99, 114], keyW, d]
  | 10 => [[102, 108, 117, 115, 104, 95, 97, 108, 108], b]
  | 11 => [[118, 101, 114, 115, 105, 111, 110]]
  | _ => [[113, 117, 105, 116]]
def pJ (L : List (List UInt8)) : Cmd × Nat := parseL (Lib.join L [32])
def callC (c d : Cmd) : Bool := c.cverb == d.cverb && c.key == d.key && c.value == d.value && c.flags == d.flags && c.exp == d.exp && c.id == d.id && c.by' == d.by'
/-- The words, another name ahead. -/
def renamed (L : List (List UInt8)) (x : List UInt8) : List (List UInt8) := x :: L.drop 1
def nameL (L : List (List UInt8)) : List UInt8 := L.headD []
def oddAt (x : List UInt8) (i : Nat) : List UInt8 := x.take i ++ Lib.toUpperA ((x.drop i).take 1) ++ x.drop (i + 1)
/-- What is asked of each. -/
def wordsOk (v : Nat) (L : List (List UInt8)) : Bool :=
  let m := (pJ (L ++ [moreW])).2
  let l := (pJ L.dropLast).2
  let q := pJ (L ++ [noreply])
  let c := (pJ L).1
  (pJ L).2 == 0 && !c.quiet && (pJ (renamed L (nameL L ++ [120]))).2 == 1 &&
  (List.range (nameL L).length).all (fun i => (nameL L).getD i 0 == 95 || (pJ (renamed L (oddAt (nameL L) i))).2 == 1) &&
  (if v < 2 then m == 0 && q.2 == 0 && !q.1.quiet && q.1.keys.length == L.length && ((l == 0) == (L.length == 3))
   else if v = 10 then m == 1 && l == 0 && q.2 == 0 && q.1.quiet && callC q.1 c
   else if v = 11 ∨ v = 12 then m == 1 && l == 1 && q.2 == 1
   else m == 1 && l == 1 && q.2 == 0 && q.1.quiet && callC q.1 c && q.1.bytes == c.bytes)
set_option maxRecDepth 100000 in
theorem words_ok0 : wordsOk 0 (wordsV 0 [] [] [] []) = true := by decide +kernel
set_option maxRecDepth 100000 in
theorem words_ok1 : wordsOk 1 (wordsV 1 [] [] [] []) = true := by decide +kernel
set_option maxRecDepth 100000 in
theorem words_ok2 : ∀ a < 3, ∀ b < 3, ∀ c < 3, wordsOk 2 (wordsV 2 (onesN (1 + a)) (onesN (1 + b)) (onesN (1 + c)) []) = true := by decide +kernel
set_option maxRecDepth 100000 in
theorem words_ok3 : ∀ a < 3, ∀ b < 3, ∀ c < 3, wordsOk 3 (wordsV 3 (onesN (1 + a)) (onesN (1 + b)) (onesN (1 + c)) []) = true := by decide +kernel
set_option maxRecDepth 100000 in
theorem words_ok4 : ∀ a < 3, ∀ b < 3, ∀ c < 3, wordsOk 4 (wordsV 4 (onesN (1 + a)) (onesN (1 + b)) (onesN (1 + c)) []) = true := by decide +kernel
set_option maxRecDepth 100000 in
theorem words_ok5 : ∀ a < 3, ∀ b < 3, ∀ c < 3, ∀ d < 3, wordsOk 5 (wordsV 5 (onesN (1 + a)) (onesN (1 + b)) (onesN (1 + c)) (onesN (1 + d))) = true := by decide +kernel
set_option maxRecDepth 100000 in
theorem words_ok6 : wordsOk 6 (wordsV 6 [] [] [] []) = true := by decide +kernel
set_option maxRecDepth 100000 in
theorem words_ok7 : ∀ b < 3, wordsOk 7 (wordsV 7 [] (onesN (1 + b)) [] []) = true := by decide +kernel
set_option maxRecDepth 100000 in
theorem words_ok8 : ∀ d < 3, wordsOk 8 (wordsV 8 [] [] [] (onesN (1 + d))) = true := by decide +kernel
set_option maxRecDepth 100000 in
theorem words_ok9 : ∀ d < 3, wordsOk 9 (wordsV 9 [] [] [] (onesN (1 + d))) = true := by decide +kernel
set_option maxRecDepth 100000 in
theorem words_ok10 : ∀ b < 3, wordsOk 10 (wordsV 10 [] (onesN (1 + b)) [] []) = true := by decide +kernel
set_option maxRecDepth 100000 in
theorem words_ok11 : wordsOk 11 (wordsV 11 [] [] [] []) = true := by decide +kernel
set_option maxRecDepth 100000 in
theorem words_ok12 : wordsOk 12 (wordsV 12 [] [] [] []) = true := by decide +kernel
theorem words_okV (v a b c d : Nat) (hv : v < 13) (ha : a < 3) (hb : b < 3) (hc : c < 3) (hd : d < 3) : wordsOk v (wordsV v (onesN (1 + a)) (onesN (1 + b)) (onesN (1 + c)) (onesN (1 + d))) = true := by
  match v, hv with
  | 0, _ => exact words_ok0
  | 1, _ => exact words_ok1
  | 2, _ => exact words_ok2 a ha b hb c hc
  | 3, _ => exact words_ok3 a ha b hb c hc
  | 4, _ => exact words_ok4 a ha b hb c hc
  | 5, _ => exact words_ok5 a ha b hb c hc d hd
  | 6, _ => exact words_ok6
  | 7, _ => exact words_ok7 b hb
  | 8, _ => exact words_ok8 d hd
  | 9, _ => exact words_ok9 d hd
  | 10, _ => exact words_ok10 b hb
  | 11, _ => exact words_ok11
  | 12, _ => exact words_ok12
end Go.Proofs.YtofpaooaiafpbaaGreatDoor
