/- nums.number, Incr, Decr and the reference's; a text of digits. No condition. -/
import Derived.Test.YtahpjhnbjkjkiaaGreatDoorDigits
import Derived.Laws.RangeAny
namespace Go.Proofs.YtahpjhnbjkjkiaaGreatDoor
open Go.RowKit

theorem good_all_digits {l : List UInt8} (h : Good (fun c => !digitB c) l l.length) : l.all digitB = true := by
  rw [List.all_eq_true]
  intro x hx
  obtain ⟨j, hj, rfl⟩ := List.getElem_of_mem hx
  simpa using h j hj _ (List.getElem?_eq_getElem hj)
theorem bad_digit {l : List UInt8} {k : Nat} {c : UInt8} (hc : l[k]? = some c) (h : digitB c = false) : numB l = false := by
  have : l.all digitB = false := by
    rw [Bool.eq_false_iff]
    intro ha
    rw [List.all_eq_true] at ha
    rw [ha c (List.mem_of_getElem? hc)] at h
    cases h
  simp [numB, this]

set_option maxHeartbeats 1000000 in
set_option maxRecDepth 100000 in
theorem number_any (s : ByteArray) (w : World) :
    Calls Tryz.prog 158 #[.string s] w fun e w' => e = .returned (.bool (numB (bs s))) ∧ Below w.heap.size w w' := by
  go_enter Tryz.func158, Tryz.ntmps158
  go_wp2
  go_loopw [2] (fun n w' => ∃ pos : Nat, w' = w.iter s pos ∧ n = .bool false ∧ pos ≤ s.size ∧ Good (fun c => !digitB c) (bs s) pos) (fun _ w' => s.size - w'.iterPos w.heap.size)
  case atStart => exact ⟨0, rfl, rfl, Nat.zero_le _, good_zero _ _⟩
  case round =>
    obtain ⟨pos, rfl, rfl, hps, hg⟩ := hrel
    have HG := Lib.hid hg
    have hbl : ∀ q, Below w.heap.size w (w.iter s q) := fun q => (Below.refl _ _).alloc (Nat.le_refl _) _
    clear hg
    by_cases hp : pos < s.size
    · have hget := bs_get? hp
      have HGET := Lib.hid hget
      clear hget
      generalize hc : s[pos] = c at HGET
      by_cases hd : digitB c = true
      · have hd' := hd
        simp only [digitB, Bool.and_eq_true, decide_eq_true_eq] at hd
        have hnx : ∀ ty, (Instr.next (.pointer (some ⟨w.heap.size, 0, none⟩)) true ty).run Tryz.prog (w.iter s pos) = .ok (.tuple #[.bool true, .int .i64 pos, .int .i32 (c.toNat : Int)]) (w.iter s (pos + 1)) := fun ty => by
          rw [run_next_any w s pos ty hp, decode_ascii s pos hp (by rw [hc]; omega), hc]
        have h1 : ¬ ((c.toNat : Int) < 48) := by omega
        have h2 : ¬ ((57 : Int) < (c.toNat : Int)) := by omega
        clear hd
        go_wp2
        go_roundw
        case rel => exact ⟨pos + 1, rfl, rfl, by omega, good_step HGET.out (by simp [hd']) HG.out⟩
        case measure => simp; omega
      · have hd0 : digitB c = false := by simpa using hd
        have hn : numB (bs s) = false := bad_digit HGET.out hd0
        have HN := Lib.hid hn
        by_cases h128 : c.toNat < 128
        · have hnx : ∀ ty, (Instr.next (.pointer (some ⟨w.heap.size, 0, none⟩)) true ty).run Tryz.prog (w.iter s pos) = .ok (.tuple #[.bool true, .int .i64 pos, .int .i32 (c.toNat : Int)]) (w.iter s (pos + 1)) := fun ty => by
            rw [run_next_any w s pos ty hp, decode_ascii s pos hp (by rw [hc]; omega), hc]
          by_cases h48 : c.toNat < 48
          · have h1 : (c.toNat : Int) < 48 := by omega
            clear hd hd0 hn h128 h48
            go_wp2
            go_ret
            exact ⟨by rw [HN.out]; rfl, hbl _⟩
          · have h1 : ¬ ((c.toNat : Int) < 48) := by omega
            have h2 : (57 : Int) < (c.toNat : Int) := by
              simp only [digitB, Bool.and_eq_false_iff, decide_eq_false_iff_not] at hd0
              omega
            clear hd hd0 hn h128 h48
            go_wp2
            go_ret
            exact ⟨by rw [HN.out]; rfl, hbl _⟩
        · have hhi := (decode_high s pos hp (by rw [hc]; omega)).1
          have hnx : ∀ ty, (Instr.next (.pointer (some ⟨w.heap.size, 0, none⟩)) true ty).run Tryz.prog (w.iter s pos) = _ := fun ty => run_next_any w s pos ty hp
          have h1 : ¬ (((Utf8.decode s pos).1 : Int) < 48) := by omega
          have h2 : (57 : Int) < ((Utf8.decode s pos).1 : Int) := by omega
          clear hd hd0 hn h128 hhi
          go_wp2
          go_ret
          exact ⟨by rw [HN.out]; rfl, hbl _⟩
    · have hnx : ∀ ty, (Instr.next (.pointer (some ⟨w.heap.size, 0, none⟩)) true ty).run Tryz.prog (w.iter s pos) = _ := fun ty => run_next_end w s pos ty hp
      obtain rfl : pos = s.size := by omega
      have hall : (bs s).all digitB = true := good_all_digits (by rw [bs_length]; exact HG.out)
      have hnum : numB (bs s) = (!(bs s).isEmpty && decide (s.size ≤ 20)) := by simp [numB, hall]
      have HNUM := Lib.hid hnum
      clear hall hnum
      by_cases he : s.toList.isEmpty = true
      · have h0 := bs_empty he
        go_wp2
        go_ret
        exact ⟨by rw [HNUM.out, h0]; rfl, hbl _⟩
      · have he' : s.toList.isEmpty = false := by simpa using he
        have h0 := bs_some he'
        have h1 : (!(bs s).isEmpty) = true := by simpa using h0
        clear he
        by_cases h20 : s.size ≤ 20
        · have h2 : (s.size : Int) ≤ 20 := by omega
          go_wp2
          go_ret
          exact ⟨by rw [HNUM.out, h1]; simp [h20], hbl _⟩
        · have h2 : ¬ ((s.size : Int) ≤ 20) := by omega
          go_wp2
          go_ret
          exact ⟨by rw [HNUM.out, h1]; simp [h20], hbl _⟩

def decrN (n b : Int) : Int := if b ≤ n then n - b else 0
end Go.Proofs.YtahpjhnbjkjkiaaGreatDoor
