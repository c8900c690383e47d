/- Plain: what a feed of bytes tells: byte by byte, and as the document has it, of all bytes. No condition, no program in sight. -/
import Derived.Test.YtahpjhnbjkjkiaaGreatDoorLineSpec
namespace Go.Proofs.YtahpjhnbjkjkiaaGreatDoor

/-- An event. -/
structure Ev where
  cmd : Cmd
  data : List UInt8
  told : Nat
def toldE (t : Nat) : Ev := ⟨noCmd, [], t⟩
/-- What a feed holds. -/
structure FSt where
  way : Nat
  held : List UInt8
  cmd : Cmd
  many : Nat
def fNew : FSt := ⟨0, [], noCmd, 0⟩
def trimCr (l : List UInt8) : List UInt8 := if l.getLast? = some 13 then l.dropLast else l
def beginF (st : FSt) (way : Nat) : FSt := { st with way := way, held := [] }
def fullF (st : FSt) : FSt := if st.cmd.bytes ≤ (st.held.length : Int) then { st with way := 2 } else st
def chunkF (st : FSt) (c : UInt8) : FSt × List Ev := (if c = 10 then beginF st 0 else beginF st 4, [toldE 6])
def lineF (st : FSt) (s : List UInt8) : FSt × List Ev :=
  let r := parseL s
  if r.2 = 5 then ({ beginF st 5 with many := r.1.bytes.toNat + 2 }, [toldE 5])
  else if r.2 = 0 then
    if 0 ≤ r.1.bytes then (fullF { beginF st 1 with cmd := r.1 }, [])
    else (beginF st 0, [⟨r.1, [], 0⟩])
  else (beginF st 0, [toldE r.2])
def gatherF (st : FSt) (c : UInt8) : FSt × List Ev :=
  if c = 10 then lineF st (trimCr st.held)
  else if st.held.length = 2048 then (beginF st 4, [toldE 3])
  else ({ st with held := st.held ++ [c] }, [])
/-- One byte. -/
def stepF (st : FSt) (c : UInt8) : FSt × List Ev :=
  if st.way = 0 then gatherF st c
  else if st.way = 1 then (fullF { st with held := st.held ++ [c] }, [])
  else if st.way = 2 then if c = 13 then ({ st with way := 3 }, []) else chunkF st c
  else if st.way = 3 then if c = 10 then (beginF st 0, [⟨st.cmd, st.held, 0⟩]) else chunkF st c
  else if st.way = 4 then (if c = 10 then beginF st 0 else st, [])
  else (if st.many - 1 = 0 then beginF { st with many := st.many - 1 } 0 else { st with many := st.many - 1 }, [])
def runF (st : FSt) : List UInt8 → FSt × List Ev
  | [] => (st, [])
  | c :: b => let r := stepF st c; let q := runF r.1 b; (q.1, r.2 ++ q.2)
def leftF (st : FSt) : Nat := if st.way = 3 then st.held.length + 1 else st.held.length
theorem runF_nil (st : FSt) : runF st [] = (st, []) := rfl
theorem runF_cons (st : FSt) (c : UInt8) (b : List UInt8) : runF st (c :: b) = ((runF (stepF st c).1 b).1, (stepF st c).2 ++ (runF (stepF st c).1 b).2) := rfl
theorem runF_append : ∀ (a b : List UInt8) (st : FSt), runF st (a ++ b) = ((runF (runF st a).1 b).1, (runF st a).2 ++ (runF (runF st a).1 b).2)
  | [], b, st => by simp [runF_nil]
  | c :: a, b, st => by
    rw [List.cons_append, runF_cons, runF_cons, runF_append a b]
    simp

/-! ### The document: all bytes, cut by definition -/
/-- Up to the first byte 10. -/
def line10 : List UInt8 → Nat
  | [] => 0
  | c :: b => if c = 10 then 0 else line10 b + 1
/-- Behind data of k bytes: the first byte that may be wrong. -/
def badOf (k : Nat) (rest : List UInt8) : Nat := if rest[k]? = some 13 then k + 1 else k
/-- A command with data of k bytes, behind its line of n bytes. -/
def dataD (n : Nat) (d : Cmd) (k : Nat) (rest : List UInt8) : List Ev × Option Nat × Nat :=
  if rest.length ≤ badOf k rest then ([], none, rest.length)
  else if badOf k rest = k + 1 ∧ rest[badOf k rest]? = some 10 then ([⟨d, rest.take k, 0⟩], some (n + 1 + badOf k rest), 0)
  else ([toldE 6], some (n + 1 + (badOf k rest + line10 (rest.drop (badOf k rest)))), 0)
/-- Behind a line of n bytes that says r: what is told, how many bytes the unit is, less one (none: it is not all there), how many bytes are held else. -/
def unitD (n : Nat) (r : Cmd × Nat) (rest : List UInt8) : List Ev × Option Nat × Nat :=
  if r.2 = 5 then (if rest.length < r.1.bytes.toNat + 2 then ([toldE 5], none, 0) else ([toldE 5], some (n + (r.1.bytes.toNat + 2)), 0))
  else if r.2 ≠ 0 then ([toldE r.2], some n, 0)
  else if r.1.bytes < 0 then ([⟨r.1, [], 0⟩], some n, 0)
  else dataD n r.1 r.1.bytes.toNat rest
theorem unitD_large (n : Nat) (d : Cmd) (q : List UInt8) : unitD n (d, 5) q = if q.length < d.bytes.toNat + 2 then ([toldE 5], none, 0) else ([toldE 5], some (n + (d.bytes.toNat + 2)), 0) := by unfold unitD; exact if_pos rfl
theorem unitD_told (n : Nat) (d : Cmd) {t : Nat} (q : List UInt8) (h5 : t ≠ 5) (h0 : t ≠ 0) : unitD n (d, t) q = ([toldE t], some n, 0) := by
  unfold unitD
  rw [if_neg (show ¬ (d, t).2 = 5 from h5), if_pos (show (d, t).2 ≠ 0 from h0)]
theorem unitD_plain (n : Nat) {d : Cmd} (q : List UInt8) (h : d.bytes < 0) : unitD n (d, 0) q = ([⟨d, [], 0⟩], some n, 0) := by
  unfold unitD
  rw [if_neg (show ¬ (d, 0).2 = 5 from (by decide : ¬ (0 : Nat) = 5)), if_neg (show ¬ (d, 0).2 ≠ 0 by simp), if_pos (show (d, 0).1.bytes < 0 from h)]
theorem unitD_data (n : Nat) {d : Cmd} (q : List UInt8) (h : ¬ d.bytes < 0) : unitD n (d, 0) q = dataD n d d.bytes.toNat q := by
  unfold unitD
  rw [if_neg (show ¬ (d, 0).2 = 5 from (by decide : ¬ (0 : Nat) = 5)), if_neg (show ¬ (d, 0).2 ≠ 0 by simp), if_neg (show ¬ (d, 0).1.bytes < 0 from h)]
/-- The first unit of bytes. -/
def unitR (b : List UInt8) : List Ev × Option Nat × Nat :=
  if 2048 < line10 b then ([toldE 3], some (line10 b), 0)
  else if line10 b = b.length then ([], none, b.length)
  else unitD (line10 b) (parseL (trimCr (b.take (line10 b)))) (b.drop (line10 b + 1))
/-- All events; how many bytes are held at the end. -/
def refEv : List UInt8 → List Ev × Nat
  | [] => ([], 0)
  | c :: b => match unitR (c :: b) with
    | (es, none, m) => (es, m)
    | (es, some k, _) => (es ++ (refEv (b.drop k)).1, (refEv (b.drop k)).2)
termination_by b => b.length
decreasing_by
  all_goals
    simp only [List.length_drop, List.length_cons]
    omega
theorem refEv_nil : refEv [] = ([], 0) := by rw [refEv]
theorem refEv_stop {c : UInt8} {b : List UInt8} {es : List Ev} {m : Nat} (hu : unitR (c :: b) = (es, none, m)) : refEv (c :: b) = (es, m) := by
  rw [refEv, hu]
theorem refEv_go {c : UInt8} {b : List UInt8} {es : List Ev} {k m : Nat} (hu : unitR (c :: b) = (es, some k, m)) : refEv (c :: b) = (es ++ (refEv (b.drop k)).1, (refEv (b.drop k)).2) := by
  rw [refEv, hu]
end Go.Proofs.YtahpjhnbjkjkiaaGreatDoor
