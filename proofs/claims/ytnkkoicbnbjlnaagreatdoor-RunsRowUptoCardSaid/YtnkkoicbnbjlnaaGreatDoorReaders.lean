/- What (*parser).readers makes; look-ups in it, and in the map of shapes. No condition. (Printed by genreaders.py.) -/
import Derived.Test.YtnkkoicbnbjlnaaGreatDoorShapes
import Derived.Test.YtnkkoicbnbjlnaaGreatDoorLowD
import Derived.Test.YtnkkoicbnbjlnaaGreatDoorLowA
namespace Go.Proofs.YtnkkoicbnbjlnaaGreatDoor
set_option maxRecDepth 100000
set_option maxHeartbeats 8000000
open Go.RowKit Go.ChangeMaps Go.MapKept
def readerEs (p : Nat) : List MapEntry := [⟨.int .i64 0, .func (.func 310) #[.pointer (some ⟨p, 0, none⟩)] #[], 0⟩,
 ⟨.int .i64 1, .func (.func 311) #[.pointer (some ⟨p, 0, none⟩)] #[], 1⟩,
 ⟨.int .i64 2, .func (.func 312) #[.pointer (some ⟨p, 0, none⟩)] #[], 2⟩,
 ⟨.int .i64 3, .func (.func 313) #[.pointer (some ⟨p, 0, none⟩)] #[], 3⟩,
 ⟨.int .i64 4, .func (.func 314) #[.pointer (some ⟨p, 0, none⟩)] #[], 4⟩]
theorem readers_any (p : Nat) (w : World) : Calls Tryz.prog 284 #[.pointer (some ⟨p, 0, none⟩)] w fun e w' => e = .returned (.map (some w.heap.size)) ∧ w' = w.alloc (.map (readerEs p).toArray 5) := by
 have hmm := @run_makeMap Tryz.prog
 have hmf := @mkFn Tryz.prog
 go_enter Tryz.func284, Tryz.ntmps284
 go_wp2_with (first
  | ((with_reducible show wpList _ _ _ (⟨_, Op.insert _ _ (.const (.int .i64 0)) _, _, _, _, _⟩ :: _) _ _); refine wpList_insert_lit w w.heap.size rfl [] #[] 0 rfl rfl (.tmp 3) (.const (.int .i64 0)) (.tmp 5) 407 rfl 405 263 (Go.Maps.int_keyed Tryz.underlying405) Tryz.underlying407 (.int .i64) Tryz.underlying405 rfl (.int .i64 0) _ rfl (Go.Maps.keyOf_int_mk Tryz.underlying405 (by decide)) rfl (w.alloc (.map #[⟨.int .i64 0, .func (.func 310) #[.pointer (some ⟨p, 0, none⟩)] #[], 0⟩] 1)) rfl ?_)
  | ((with_reducible show wpList _ _ _ (⟨_, Op.insert _ _ (.const (.int .i64 1)) _, _, _, _, _⟩ :: _) _ _); refine wpList_insert_lit w w.heap.size rfl [] #[⟨.int .i64 0, .func (.func 310) #[.pointer (some ⟨p, 0, none⟩)] #[], 0⟩] 1 rfl rfl (.tmp 3) (.const (.int .i64 1)) (.tmp 7) 407 rfl 405 263 (Go.Maps.int_keyed Tryz.underlying405) Tryz.underlying407 (.int .i64) Tryz.underlying405 rfl (.int .i64 1) _ rfl (Go.Maps.keyOf_int_mk Tryz.underlying405 (by decide)) rfl (w.alloc (.map #[⟨.int .i64 0, .func (.func 310) #[.pointer (some ⟨p, 0, none⟩)] #[], 0⟩, ⟨.int .i64 1, .func (.func 311) #[.pointer (some ⟨p, 0, none⟩)] #[], 1⟩] 2)) rfl ?_)
  | ((with_reducible show wpList _ _ _ (⟨_, Op.insert _ _ (.const (.int .i64 2)) _, _, _, _, _⟩ :: _) _ _); refine wpList_insert_lit w w.heap.size rfl [] #[⟨.int .i64 0, .func (.func 310) #[.pointer (some ⟨p, 0, none⟩)] #[], 0⟩, ⟨.int .i64 1, .func (.func 311) #[.pointer (some ⟨p, 0, none⟩)] #[], 1⟩] 2 rfl rfl (.tmp 3) (.const (.int .i64 2)) (.tmp 9) 407 rfl 405 263 (Go.Maps.int_keyed Tryz.underlying405) Tryz.underlying407 (.int .i64) Tryz.underlying405 rfl (.int .i64 2) _ rfl (Go.Maps.keyOf_int_mk Tryz.underlying405 (by decide)) rfl (w.alloc (.map #[⟨.int .i64 0, .func (.func 310) #[.pointer (some ⟨p, 0, none⟩)] #[], 0⟩, ⟨.int .i64 1, .func (.func 311) #[.pointer (some ⟨p, 0, none⟩)] #[], 1⟩, ⟨.int .i64 2, .func (.func 312) #[.pointer (some ⟨p, 0, none⟩)] #[], 2⟩] 3)) rfl ?_)
  | ((with_reducible show wpList _ _ _ (⟨_, Op.insert _ _ (.const (.int .i64 3)) _, _, _, _, _⟩ :: _) _ _); refine wpList_insert_lit w w.heap.size rfl [] #[⟨.int .i64 0, .func (.func 310) #[.pointer (some ⟨p, 0, none⟩)] #[], 0⟩, ⟨.int .i64 1, .func (.func 311) #[.pointer (some ⟨p, 0, none⟩)] #[], 1⟩, ⟨.int .i64 2, .func (.func 312) #[.pointer (some ⟨p, 0, none⟩)] #[], 2⟩] 3 rfl rfl (.tmp 3) (.const (.int .i64 3)) (.tmp 11) 407 rfl 405 263 (Go.Maps.int_keyed Tryz.underlying405) Tryz.underlying407 (.int .i64) Tryz.underlying405 rfl (.int .i64 3) _ rfl (Go.Maps.keyOf_int_mk Tryz.underlying405 (by decide)) rfl (w.alloc (.map #[⟨.int .i64 0, .func (.func 310) #[.pointer (some ⟨p, 0, none⟩)] #[], 0⟩, ⟨.int .i64 1, .func (.func 311) #[.pointer (some ⟨p, 0, none⟩)] #[], 1⟩, ⟨.int .i64 2, .func (.func 312) #[.pointer (some ⟨p, 0, none⟩)] #[], 2⟩, ⟨.int .i64 3, .func (.func 313) #[.pointer (some ⟨p, 0, none⟩)] #[], 3⟩] 4)) rfl ?_)
  | ((with_reducible show wpList _ _ _ (⟨_, Op.insert _ _ (.const (.int .i64 4)) _, _, _, _, _⟩ :: _) _ _); refine wpList_insert_lit w w.heap.size rfl [] #[⟨.int .i64 0, .func (.func 310) #[.pointer (some ⟨p, 0, none⟩)] #[], 0⟩, ⟨.int .i64 1, .func (.func 311) #[.pointer (some ⟨p, 0, none⟩)] #[], 1⟩, ⟨.int .i64 2, .func (.func 312) #[.pointer (some ⟨p, 0, none⟩)] #[], 2⟩, ⟨.int .i64 3, .func (.func 313) #[.pointer (some ⟨p, 0, none⟩)] #[], 3⟩] 4 rfl rfl (.tmp 3) (.const (.int .i64 4)) (.tmp 13) 407 rfl 405 263 (Go.Maps.int_keyed Tryz.underlying405) Tryz.underlying407 (.int .i64) Tryz.underlying405 rfl (.int .i64 4) _ rfl (Go.Maps.keyOf_int_mk Tryz.underlying405 (by decide)) rfl (w.alloc (.map #[⟨.int .i64 0, .func (.func 310) #[.pointer (some ⟨p, 0, none⟩)] #[], 0⟩, ⟨.int .i64 1, .func (.func 311) #[.pointer (some ⟨p, 0, none⟩)] #[], 1⟩, ⟨.int .i64 2, .func (.func 312) #[.pointer (some ⟨p, 0, none⟩)] #[], 2⟩, ⟨.int .i64 3, .func (.func 313) #[.pointer (some ⟨p, 0, none⟩)] #[], 3⟩, ⟨.int .i64 4, .func (.func 314) #[.pointer (some ⟨p, 0, none⟩)] #[], 4⟩] 5)) rfl ?_))
 go_ret
 exact ⟨rfl, rfl⟩
def readerFn (f : Nat) : Nat := [310, 311, 312, 313, 314].getD f 0
theorem readers_at {w : World} {b p f : Nat} (hb : w.heap[b]? = some (.map (readerEs p).toArray 5)) (hf : f < 5) :
  (Instr.lookup 407 (.map (some b)) (.int .i64 (f : Int)) false).run Tryz.prog w = .ok (.func (.func (readerFn f)) #[.pointer (some ⟨p, 0, none⟩)] #[]) w := by
 have h := fun (n : Int) (v : Value) (i : Nat) (hw : (Lit.int .i64 n).wf = true) (hn : Instr.findNow (.int .i64) (.int .i64 n) (readerEs p).toArray.toList 0 = some (some (i, v))) =>
  run_lookup_hit (P := Tryz.prog) (Go.Maps.int_keyed Tryz.underlying405) Tryz.underlying407 Tryz.underlying405 hb (Go.Maps.keyOf_int_mk Tryz.underlying405 hw) hn false
 match f, hf with
 | 0, _ => exact h 0 _ 0 (by decide) rfl
 | 1, _ => exact h 1 _ 1 (by decide) rfl
 | 2, _ => exact h 2 _ 2 (by decide) rfl
 | 3, _ => exact h 3 _ 3 (by decide) rfl
 | 4, _ => exact h 4 _ 4 (by decide) rfl
theorem reads_at (f : Nat) (hf : f < 5) : Reads (readerFn f) f := by
 match f, hf with
 | 0, _ => exact flags_any
 | 1, _ => exact exp_any
 | 2, _ => exact size_any
 | 3, _ => exact id_any
 | 4, _ => exact by_any
def restV (B v : Nat) : Value := [.slice none 0 0, .slice none 0 0, .slice none 0 0, .slice (some ⟨B, 0, none⟩) 3 3, .slice (some ⟨B, 0, none⟩) 3 3, .slice (some ⟨B, 0, none⟩) 3 3, .slice (some ⟨B + 2, 0, none⟩) 4 4, .slice none 0 0, .slice (some ⟨B + 3, 0, none⟩) 1 1, .slice (some ⟨B + 4, 0, none⟩) 1 1, .slice (some ⟨B + 5, 0, none⟩) 1 1, .slice (some ⟨B + 6, 0, none⟩) 1 1, .slice none 0 0, .slice none 0 0].getD v (.slice none 0 0)
def shapeV (B v : Nat) : Value := .agg #[.int .u8 (v : Int), .int .i64 (leastOf v : Int), .int .i64 (mostOf v : Int), .bool (quietOf v), .bool (keysOf v), restV B v]
theorem shapes_at {w : World} {b B : Nat} (hb : w.heap[b]? = some (.map (shapeEs B).toArray 13)) (x : List UInt8) (hx : x.length ≤ maxLen) :
  (Instr.lookup 371 (.map (some b)) (sv x) true).run Tryz.prog w = .ok (.tuple #[shapeV B (verbOf x), .bool (decide (verbOf x ≠ 0))]) w := by
 have hk := Go.WideMaps.keyOf_string_mk Tryz.underlying9 (s := ⟨x.toArray⟩) (by rw [sv_size]; exact hx)
 by_cases hm : x ∈ names
 ·have h := fun (v : Value) (i : Nat) (hn : Instr.findNow .string (sv x) (shapeEs B).toArray.toList 0 = some (some (i, v))) =>
   run_lookup_hit (P := Tryz.prog) (Go.Maps.string_keyed Tryz.underlying9) Tryz.underlying371 Tryz.underlying9 hb hk hn true
  simp only [names, List.mem_cons, List.not_mem_nil, or_false] at hm
  rcases hm with rfl | rfl | rfl | rfl | rfl | rfl | rfl | rfl | rfl | rfl | rfl | rfl | rfl
  ·exact h _ 0 rfl
  ·exact h _ 1 rfl
  ·exact h _ 2 rfl
  ·exact h _ 3 rfl
  ·exact h _ 4 rfl
  ·exact h _ 5 rfl
  ·exact h _ 6 rfl
  ·exact h _ 7 rfl
  ·exact h _ 8 rfl
  ·exact h _ 9 rfl
  ·exact h _ 10 rfl
  ·exact h _ 11 rfl
  ·exact h _ 12 rfl
 ·have hn : Instr.findNow .string (sv x) (shapeEs B).toArray.toList 0 = some none := by
   have hne : ∀ (l : List UInt8), l ∈ names → ((⟨x.toArray⟩ : ByteArray) == ⟨l.toArray⟩) = false := fun l hl => by
    rw [Bool.eq_false_iff]
    intro hb2
    have he := (MapKept.bytes_beq _ _).1 hb2
    exact hm (by rw [show x = l from by have := congrArg bs he; simpa [bs] using this]; exact hl)
   simp only [shapeEs, Instr.findNow, Instr.sameNow, hne [103, 101, 116] (by decide), hne [103, 101, 116, 115] (by decide), hne [115, 101, 116] (by decide), hne [97, 100, 100] (by decide), hne [114, 101, 112, 108, 97, 99, 101] (by decide), hne [99, 97, 115] (by decide), hne [100, 101, 108, 101, 116, 101] (by decide), hne [116, 111, 117, 99, 104] (by decide), hne [105, 110, 99, 114] (by decide), hne [100, 101, 99, 114] (by decide), hne [102, 108, 117, 115, 104, 95, 97, 108, 108] (by decide), hne [118, 101, 114, 115, 105, 111, 110] (by decide), hne [113, 117, 105, 116] (by decide)]
  have hv : verbOf x = 0 := by
   unfold verbOf
   rw [List.findIdx?_eq_none_iff.2 (fun y hy => by rw [beq_eq_false_iff_ne]; rintro rfl; exact hm hy)]
  have h := run_lookup_miss (P := Tryz.prog) (z := shapeV B 0) (Go.Maps.string_keyed Tryz.underlying9) Tryz.underlying371 Tryz.underlying9 hb hk hn (by kernel_rfl) true
  rw [hv]
  exact h
end Go.Proofs.YtnkkoicbnbjlnaaGreatDoor
