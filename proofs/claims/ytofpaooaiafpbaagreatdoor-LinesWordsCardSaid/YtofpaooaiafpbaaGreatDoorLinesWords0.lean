/- The words of each verb as the law makes them: the closure 'number', and 'words'. No condition. -/
import Derived.Test.YtofpaooaiafpbaaGreatDoorWordsPlain
import Derived.Test.YtofpaooaiafpbaaGreatDoorLineLine
namespace Go.Proofs.YtofpaooaiafpbaaGreatDoor
open Go.RowKit Go.ChangeMaps Go.MapKept

theorem repeat_one : ∀ k : Nat, Lib.repeatL [49] k = List.replicate k 49
  | 0 => rfl
  | k + 1 => by rw [Lib.repeatL, repeat_one k]; rfl
theorem ones_any (n : Nat) (h : n ≤ 3) (w : World) : Calls Tryz.prog 14 #[.string ⟨#[49]⟩, .int .i64 (n : Int)] w fun e w' => e = .returned (sv (onesN n)) ∧ Below w.heap.size w w' := by
  have := Tryz.strings_Repeat ⟨#[49]⟩ n w (by omega) (by show 1 * n ≤ _; omega)
  rw [show Lib.repeatL (⟨#[49]⟩ : ByteArray).data.toList n = List.replicate n 49 from repeat_one n] at this
  exact this
set_option maxRecDepth 100000 in
set_option maxHeartbeats 1000000 in
theorem number29_any (i k : Nat) (p : Nat) (w : World) (hz1 : k < 65536) (hi : i < 4) (hcell : w.cell? ⟨p, i, none⟩ = some (.int .u16 (k : Int))) :
    Calls Tryz.prog 13 #[.int .i64 (i : Int), .pointer (some ⟨p, 0, none⟩)] w fun e w' => e = .returned (sv (onesN (1 + k % 3))) ∧ Below w.heap.size w w' := by
  have hix : ∀ W : World, (Instr.indexAt 45 (.pointer (some ⟨p, 0, none⟩)) (.int .i64 (i : Int))).run Tryz.prog W = .ok (.pointer (some ⟨p, i, none⟩)) W := fun W => by
    have h0 : (0 : Int) ≤ (i : Int) := by omega
    have h1 : (i : Int) < 4 := by omega
    have h2 := Tryz.underlying45
    have h3 : Tryz.prog.cellsOf 44 = 1 := by kernel_rfl
    go_simp
  obtain ⟨m, hm⟩ : ∃ m, m = k % 3 := ⟨_, rfl⟩
  have hm3 : m < 3 := by omega
  have hc := ones_any (1 + m) (by omega)
  rw [← hm]
  rw [show ((1 + m : Nat) : Int) = 1 + (m : Int) from by omega] at hc
  generalize onesN (1 + m) = N at *
  have hm2 : ((k : Int)).tmod 3 = (m : Int) := by rw [Int.tmod_eq_emod_of_nonneg (by omega)]; omega
  have hm4 : (k : Int) % 3 = (m : Int) := by omega
  have hm1 : IntKind.u16.wrap (m : Int) = (m : Int) := by rw [IntKind.wrap_u16]; omega
  have hm5 : IntKind.i64.wrap (1 + (m : Int)) = 1 + (m : Int) := IntWalk.i64_in _ (by omega)
  have HC := Lib.hid hc
  clear hc hm
  go_enter Tryz.func13, Tryz.ntmps13
  go_wp2_with fail
  refine (HC.out _).mono ?_
  rintro e w' ⟨rfl, hb⟩
  go_wp2_with fail
  go_ret
  exact ⟨rfl, hb⟩
end Go.Proofs.YtofpaooaiafpbaaGreatDoor
