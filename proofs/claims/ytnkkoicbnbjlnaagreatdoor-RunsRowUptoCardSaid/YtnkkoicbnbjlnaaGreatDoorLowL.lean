/- Plain: the calls that events come to; what holds of the events that a feed tells. No program in sight. And what goes with it (2 texts). -/
import Derived.Test.YtnkkoicbnbjlnaaGreatDoorLowB
import Derived.Test.YtnkkoicbnbjlnaaGreatDoorLowF
import Derived.Test.YtnkkoicbnbjlnaaGreatDoorLowH
import Derived.Maps.AppendAt
namespace Go.Proofs.YtnkkoicbnbjlnaaGreatDoor
set_option maxRecDepth 100000
set_option maxHeartbeats 8000000
def callsE (e : Ev) : List Cmd :=
 if e.told ≠ 0 ∨ e.cmd.verb = 12 ∨ e.cmd.verb = 13 then []
 else if e.cmd.verb = 1 ∨ e.cmd.verb = 2 then e.cmd.keys.map (fun k => { e.cmd with key := k })
 else [{ e.cmd with value := e.data }]
def callsL (l : List Ev) : List Cmd := l.flatMap callsE
def ParC (c : Cmd) : Prop := ∃ s, parseL s = (c, 0)
structure EvOk (e : Ev) : Prop where
 par : e.told = 0 → ParC e.cmd
 data : e.data.length ≤ 1024
def GoodC (st : FSt) : Prop := st.way = 1 ∨ st.way = 2 ∨ st.way = 3 → ParC st.cmd ∧ (st.held.length : Int) ≤ st.cmd.bytes ∧ (st.way = 1 → (st.held.length : Int) < st.cmd.bytes)
theorem goodC_new : GoodC fNew := fun h => by
 have h : (0 : Nat) = 1 ∨ (0 : Nat) = 2 ∨ (0 : Nat) = 3 := h
 omega
theorem par_bytes {c : Cmd} (h : ParC c) : c.bytes ≤ 1024 := by
 obtain ⟨s, hs⟩ := h
 by_cases hv : c.verb = 0
 ·have := told_none (s := s) (by rw [hs]; exact hv)
  rw [hs] at this
  rw [show c = noCmd from this.1]; decide
 ·have := (line_back hs hv).told
  split at this <;> omega
theorem toldE_ok {t : Nat} (ht : t ≠ 0) : EvOk (toldE t) := ⟨fun h => absurd h ht, by show 0 ≤ 1024; omega⟩
theorem lineF_ok (st : FSt) (s : List UInt8) : GoodC (lineF st s).1 ∧ ∀ e ∈ (lineF st s).2, EvOk e := by
 rcases hp : parseL s with ⟨d, t⟩
 unfold lineF
 rw [hp]
 simp only
 by_cases h5 : t = 5
 ·rw [if_pos h5]
  refine ⟨fun h => ?_, fun e he => ?_⟩
  ·have h : (5 : Nat) = 1 ∨ (5 : Nat) = 2 ∨ (5 : Nat) = 3 := h
   omega
  ·obtain rfl : e = toldE 5 := by simpa using he
   exact toldE_ok (by omega)
 ·rw [if_neg h5]
  by_cases h0 : t = 0
  ·subst h0
   rw [if_pos rfl]
   have hpar : ParC d := ⟨s, hp⟩
   by_cases hb : 0 ≤ d.bytes
   ·rw [if_pos hb]
    refine ⟨?_, fun e he => by cases he⟩
    unfold fullF
    show GoodC (if d.bytes ≤ (([] : List UInt8).length : Int) then _ else _)
    by_cases hz : d.bytes ≤ (([] : List UInt8).length : Int)
    ·rw [if_pos hz]
     exact fun _ => ⟨hpar, by show ((0 : Nat) : Int) ≤ d.bytes; exact hb, fun h => by have h : (2 : Nat) = 1 := h; omega⟩
    ·rw [if_neg hz]
     simp only [List.length_nil] at hz
     exact fun _ => ⟨hpar, by show ((0 : Nat) : Int) ≤ d.bytes; omega, fun _ => by show ((0 : Nat) : Int) < d.bytes; omega⟩
   ·rw [if_neg hb]
    refine ⟨fun h => ?_, fun e he => ?_⟩
    ·have h : (0 : Nat) = 1 ∨ (0 : Nat) = 2 ∨ (0 : Nat) = 3 := h
     omega
    ·obtain rfl : e = ⟨d, [], 0⟩ := by simpa using he
     exact ⟨fun _ => hpar, by show 0 ≤ 1024; omega⟩
  ·rw [if_neg h0]
   refine ⟨fun h => ?_, fun e he => ?_⟩
   ·have h : (0 : Nat) = 1 ∨ (0 : Nat) = 2 ∨ (0 : Nat) = 3 := h
    omega
   ·obtain rfl : e = toldE t := by simpa using he
    exact ⟨fun h => absurd h h0, by show 0 ≤ 1024; omega⟩
theorem chunkF_ok (st : FSt) (c : UInt8) : GoodC (chunkF st c).1 ∧ ∀ e ∈ (chunkF st c).2, EvOk e := by
 unfold chunkF
 refine ⟨?_, fun e he => by
  obtain rfl : e = toldE 6 := by simpa using he
  exact toldE_ok (by omega)⟩
 show GoodC (if c = 10 then beginF st 0 else beginF st 4)
 split
 ·exact fun h => by
   have h : (0 : Nat) = 1 ∨ (0 : Nat) = 2 ∨ (0 : Nat) = 3 := h
   omega
 ·exact fun h => by
   have h : (4 : Nat) = 1 ∨ (4 : Nat) = 2 ∨ (4 : Nat) = 3 := h
   omega
theorem none_ok {st : FSt} (h : GoodC st) : GoodC (st, ([] : List Ev)).1 ∧ ∀ e ∈ (st, ([] : List Ev)).2, EvOk e := ⟨h, fun e he => by cases he⟩
theorem step_ok {st : FSt} (h : GoodC st) (c : UInt8) : GoodC (stepF st c).1 ∧ ∀ e ∈ (stepF st c).2, EvOk e := by
 unfold stepF
 by_cases w0 : st.way = 0
 ·rw [if_pos w0]
  unfold gatherF
  split
  ·exact lineF_ok _ _
  ·split
   ·refine ⟨fun h => ?_, fun e he => ?_⟩
    ·have h : (4 : Nat) = 1 ∨ (4 : Nat) = 2 ∨ (4 : Nat) = 3 := h
     omega
    ·obtain rfl : e = toldE 3 := by simpa using he
     exact toldE_ok (by omega)
   ·exact none_ok (fun h => by
     have h : st.way = 1 ∨ st.way = 2 ∨ st.way = 3 := h
     omega)
 rw [if_neg w0]
 by_cases w1 : st.way = 1
 ·rw [if_pos w1]
  obtain ⟨h1, h2, h3⟩ := h (.inl w1)
  have h3 := h3 w1
  refine none_ok ?_
  unfold fullF
  show GoodC (if st.cmd.bytes ≤ ((st.held ++ [c]).length : Int) then _ else _)
  split
  ·exact fun _ => ⟨h1, by show ((st.held ++ [c]).length : Int) ≤ st.cmd.bytes; rw [List.length_append]; simp only [List.length_cons, List.length_nil]; omega, fun h => by have h : (2 : Nat) = 1 := h; omega⟩
  ·exact fun _ => ⟨h1, by show ((st.held ++ [c]).length : Int) ≤ st.cmd.bytes; omega, fun _ => by show ((st.held ++ [c]).length : Int) < st.cmd.bytes; omega⟩
 rw [if_neg w1]
 by_cases w2 : st.way = 2
 ·rw [if_pos w2]
  obtain ⟨h1, h2, h3⟩ := h (.inr (.inl w2))
  split
  ·exact none_ok (fun _ => ⟨h1, h2, fun h => by have h : (3 : Nat) = 1 := h; omega⟩)
  ·exact chunkF_ok _ _
 rw [if_neg w2]
 by_cases w3 : st.way = 3
 ·rw [if_pos w3]
  obtain ⟨h1, h2, h3⟩ := h (.inr (.inr w3))
  split
  ·refine ⟨fun h => ?_, fun e he => ?_⟩
   ·have h : (0 : Nat) = 1 ∨ (0 : Nat) = 2 ∨ (0 : Nat) = 3 := h
    omega
   ·obtain rfl : e = ⟨st.cmd, st.held, 0⟩ := by simpa using he
    exact ⟨fun _ => h1, by have := par_bytes h1; show st.held.length ≤ 1024; omega⟩
  ·exact chunkF_ok _ _
 rw [if_neg w3]
 split
 ·split
  ·exact none_ok (fun h => by
    have h : (0 : Nat) = 1 ∨ (0 : Nat) = 2 ∨ (0 : Nat) = 3 := h
    omega)
  ·exact none_ok h
 ·split
  ·exact none_ok (fun h => by
    have h : (0 : Nat) = 1 ∨ (0 : Nat) = 2 ∨ (0 : Nat) = 3 := h
    omega)
  ·exact none_ok (fun h' => by
    have h' : st.way = 1 ∨ st.way = 2 ∨ st.way = 3 := h'
    exact h h')
theorem run_ok : ∀ (bl : List UInt8) {st : FSt}, GoodC st → GoodC (runF st bl).1 ∧ ∀ e ∈ (runF st bl).2, EvOk e
 | [], st, h => ⟨h, fun e he => by cases he⟩
 | c :: bl, st, h => by
  obtain ⟨h1, h2⟩ := step_ok h c
  obtain ⟨h3, h4⟩ := run_ok bl h1
  rw [runF_cons]
  refine ⟨h3, fun e he => ?_⟩
  rcases List.mem_append.1 he with he | he
  ·exact h2 e he
  ·exact h4 e he
theorem par_keys {c : Cmd} (h : ParC c) : c.keys.length ≤ 2048 := by
 obtain ⟨s, hs⟩ := h
 have := (parse_short s).2
 rwa [hs] at this
theorem callsE_len {e : Ev} (h : EvOk e) : (callsE e).length ≤ 2048 := by
 unfold callsE
 split
 ·simp
 ·rename_i h1
  split
  ·rw [List.length_map]
   exact par_keys (h.par (by
    refine Classical.byContradiction fun h0 => h1 (.inl h0)))
  ·simp
open Go.RowKit Go.ChangeMaps Go.MapKept
abbrev callCells (c : Cmd) : List Value := [.int .u8 (c.cverb : Int), sv c.key, sv c.value, .int .u32 (c.flags : Int), .int .i64 c.exp, .int .u64 (c.id : Int), .int .u64 (c.by' : Int)]
abbrev callZero : Array Value := #[.int .u8 0, .string ⟨#[]⟩, .string ⟨#[]⟩, .int .u32 0, .int .i64 0, .int .u64 0, .int .u64 0]
def callsCells (C : List Cmd) : List Value := C.flatMap callCells
theorem callsCells_snoc (C : List Cmd) (c : Cmd) : callsCells (C ++ [c]) = callsCells C ++ callCells c := by simp [callsCells]
theorem infoCall : (Tryz.prog.info? 26).map (fun i => (i.zero, i.size, i.bytes)) = some (some (.agg callZero), 7, 72) := by kernel_rfl
structure CallJ (w : World) (W : World) (ov : Value) (C : List Cmd) : Prop where
 row : W.ownsRow w.heap.size 26 7 ov C.length (callsCells C)
 low : Below w.heap.size w W
theorem callsE_skip {e : Ev} (h : e.told ≠ 0 ∨ e.cmd.verb = 12 ∨ e.cmd.verb = 13) : callsE e = [] := by unfold callsE; rw [if_pos h]
theorem callsE_gets {e : Ev} (h0 : e.told = 0) (h : e.cmd.verb = 1 ∨ e.cmd.verb = 2) : callsE e = e.cmd.keys.map (fun k => { e.cmd with key := k }) := by
 unfold callsE
 rw [if_neg (by omega), if_pos h]
theorem callsE_one {e : Ev} (h0 : e.told = 0) (h1 : e.cmd.verb ≠ 1) (h2 : e.cmd.verb ≠ 2) (h3 : e.cmd.verb ≠ 12) (h4 : e.cmd.verb ≠ 13) : callsE e = [{ e.cmd with value := e.data }] := by
 unfold callsE
 rw [if_neg (by omega), if_neg (by omega)]
theorem take_keys {L : List (List UInt8)} {i : Nat} {x : List UInt8} (f : List UInt8 → Cmd) (h : L[i]? = some x) : (L.take (i + 1)).map f = (L.take i).map f ++ [f x] := by
 obtain ⟨hi, he⟩ := List.getElem?_eq_some_iff.1 h
 rw [List.take_succ_eq_append_getElem hi, he]
 simp
end Go.Proofs.YtnkkoicbnbjlnaaGreatDoor
