/- runs: windows of a machine of one connection, till nothing may be done any more, whatever its states are. No condition. And what goes with it (3 texts). -/
import Derived.Test.YtnkkoicbnbjlnaaGreatDoorMgD
import Derived.WalkMore
import Derived.Test.YtnkkoicbnbjlnaaGreatDoorLowA
import Derived.Test.YtnkkoicbnbjlnaaGreatDoorOnA
import Derived.Test.YtnkkoicbnbjlnaaGreatDoorOnB
import Derived.Test.YtnkkoicbnbjlnaaGreatDoorSpA
namespace Go.Proofs.YtnkkoicbnbjlnaaGreatDoor.One
set_option maxRecDepth 100000
set_option maxHeartbeats 8000000
open Go.RowKit Go.ChangeMaps Go.MapKept
structure Wins (w0 : World) (mp : Nat) (T U : Nat → Thing) : Prop where
 framed : ∀ n, Framed (T n)
 framedU : ∀ n, Framed (U n)
 conns : ∀ n V, n ≤ 18 → RoundJ w0 T n V → Calls Tryz.prog 28 #[ptrN mp] V fun e w' => e = .returned (.int .i64 1) ∧ V = w'
 connsU : ∀ n V, n ≤ 18 → RoundJ w0 U n V → Calls Tryz.prog 28 #[ptrN mp] V fun e w' => e = .returned (.int .i64 1) ∧ V = w'
 may0 : ∀ n V, n ≤ 18 → RoundJ w0 T n V → Calls Tryz.prog 51 #[ptrN mp, .int .i64 0] V fun e w' => e = .returned (.bool (decide (n < 18))) ∧ Below V.heap.size V w'
 do0 : ∀ n V, n < 18 → RoundJ w0 T n V → Calls Tryz.prog 25 #[ptrN mp, .agg #[.int .u8 1, .int .i64 0, .slice none 0 0]] V fun e w' => DidE e ∧ RoundJ w0 U (n + 1) w'
 tick : ∀ n V, 1 ≤ n → n ≤ 18 → RoundJ w0 U n V → Calls Tryz.prog 25 #[ptrN mp, .agg #[.int .u8 2, .int .i64 0, .slice none 0 0]] V fun e w' => DidE e ∧ RoundJ w0 T n w'
section
variable {w0 w : World} {mp : Nat} {T U : Nat → Thing}
theorem rpick_any (hR : Wins w0 mp T U) {n : Nat} (hn : n < 18) (h : RoundJ w0 T n w) : Calls Tryz.prog 52 #[ptrN mp, .int .i64 0] w fun e w' => (∃ t : Int, e = .returned (.int .i64 t) ∧ 0 ≤ t ∧ t ≤ 1) ∧ RoundJ w0 U (n + 1) w' := by
 have qb : ∀ W : World, (Instr.build 73 #[(0, .int .u8 1), (1, .int .i64 0)]).run Tryz.prog W = .ok (.agg #[.int .u8 1, .int .i64 0, .slice none 0 0]) W := fun W => by kernel_rfl
 have HD := hidZ (hR.do0 n w hn h)
 have qf : ∀ (i n : Int) (b : Bool) (k nm : Int) (W : World), (Instr.field 75 (didV i n b k nm) 0).run Tryz.prog W = .ok (.int .i64 i) W := fun i n b k nm W => by kernel_rfl
 clear h hR
 go_enter Tryz.func52, Tryz.ntmps52
 go_wp2_with fail
 refine HD.out.mono ?_
 rintro e V ⟨⟨i, n1, b, k, nm, rfl⟩, hj⟩
 have HJ := hidZ hj
 clear hj HD
 by_cases hi : i < 0
 ·have hd : decide (i < 0) = true := decide_eq_true hi
  clear hi
  go_wp2_with fail
  go_ret
  exact ⟨⟨0, rfl, by omega, by omega⟩, HJ.out⟩
 ·have hd : decide (i < 0) = false := decide_eq_false hi
  clear hi
  go_wp2_with fail
  go_ret
  exact ⟨⟨1, rfl, by omega, by omega⟩, HJ.out⟩
theorem rmore_any (hR : Wins w0 mp T U) {n : Nat} (hn : n ≤ 18) (h : RoundJ w0 T n w) : Calls Tryz.prog 26 #[ptrN mp] w fun e w' => e = .returned (.bool (decide (n < 18))) ∧ RoundJ w0 T n w' := by
 have HC := hidZ (hR.conns n w hn h)
 have HM := hidZ (fun V (hj : RoundJ w0 T n V) => hR.may0 n V hn hj)
 have HF := hidZ (hR.framed n)
 have HJ := hidZ h
 have HN := hidZ hn
 clear h hR hn
 go_enter Tryz.func26, Tryz.ntmps26
 go_upto_region 2 with (first
  | (refine HC.out.mono ?_; rintro e V ⟨rfl, rfl⟩)
  | fail)
 clear HC
 go_loopw [6] (fun s6 wr => ∃ i : Nat, s6 = .int .i64 (i : Int) ∧ Hid (RoundJ w0 T n wr ∧ (i = 0 ∨ i = 1 ∧ n = 18))) (fun s6 _ => 2 - (intOf s6).toNat)
 case atStart => exact ⟨0, rfl, hidZ ⟨HJ.out, .inl rfl⟩⟩
 case round =>
  obtain ⟨i, rfl, HI⟩ := hrel
  obtain ⟨hj, hi⟩ := HI.out
  rcases hi with rfl | ⟨rfl, rfl⟩
  ·have HMY := hidZ (HM.out wr hj)
   have HJ2 := hidZ hj
   clear hj HI HJ
   go_wp2_with fail
   refine HMY.out.mono ?_
   rintro e V ⟨rfl, hb⟩
   have HJ3 := hidZ (HJ2.out.below HF.out hb)
   clear hb HMY HJ2
   by_cases hlt : n < 18
   ·rw [decide_eq_true hlt]
    have HLT := hidZ hlt
    clear hlt
    go_wp2_with fail
    go_ret
    exact ⟨by rw [decide_eq_true HLT.out]; rfl, HJ3.out⟩
   ·rw [decide_eq_false hlt]
    have hn18 : n = 18 := by have := HN.out; omega
    have H18 := hidZ hn18
    clear hn18 hlt
    go_wp2_with fail
    go_roundw
    case rel => exact ⟨1, by go_num, hidZ ⟨HJ3.out, .inr ⟨rfl, H18.out⟩⟩⟩
    case measure => simp [intOf]
  ·have HJ3 := hidZ hj
   clear hj HI HJ
   go_wp2_with fail
   go_ret
   exact ⟨rfl, HJ3.out⟩
theorem rwindow_any (hR : Wins w0 mp T U) {n : Nat} (hn : n < 18) (h : RoundJ w0 T n w) : Calls Tryz.prog 27 #[ptrN mp, .slice none 0 0] w fun e w' => (∃ t : Int, e = .returned (.int .i64 t)) ∧ RoundJ w0 T (n + 1) w' := by
 have qb : ∀ W : World, (Instr.build 73 #[(0, .int .u8 2)]).run Tryz.prog W = .ok (.agg #[.int .u8 2, .int .i64 0, .slice none 0 0]) W := fun W => by kernel_rfl
 have HC := hidZ (fun V (hj : RoundJ w0 T n V) => hR.conns n V (by omega) hj)
 have HM := hidZ (fun V (hj : RoundJ w0 T n V) => hR.may0 n V (by omega) hj)
 have HP := hidZ (fun V (hj : RoundJ w0 T n V) => rpick_any hR hn hj)
 have HT := hidZ (fun V (hj : RoundJ w0 U (n + 1) V) => hR.tick (n + 1) V (by omega) (by omega) hj)
 have HF := hidZ (hR.framed n)
 have HJ := hidZ h
 have HN := hidZ hn
 clear h hR hn
 go_enter Tryz.func27, Tryz.ntmps27
 go_upto_region 4 with (first
  | (refine (HC.out _ HJ.out).mono ?_; rintro e V ⟨rfl, rfl⟩)
  | fail)
 go_loopw [4, 13] (fun s4 s13 wr => s4 = .int .i64 0 ∧ s13 = .int .i64 0 ∧ Hid (RoundJ w0 T n wr)) (fun _ _ _ => 0)
 case atStart => exact ⟨rfl, rfl, HJ⟩
 case round =>
  obtain ⟨rfl, rfl, HJ2⟩ := hrel
  clear HJ
  go_upto_region 9 with (first
   | (refine (HC.out _ HJ2.out).mono ?_; rintro e V ⟨rfl, rfl⟩)
   | fail)
  clear HC
  go_loopw [4, 29] (fun s4 s29 wr => ∃ (i : Nat) (t : Int), s4 = .int .i64 t ∧ s29 = .int .i64 (i : Int) ∧ Hid (0 ≤ t ∧ t ≤ 1) ∧ Hid (i = 0 ∧ t = 0 ∧ RoundJ w0 T n wr ∨ i = 1 ∧ RoundJ w0 U (n + 1) wr)) (fun _ s29 _ => 2 - (intOf s29).toNat)
  case atStart => exact ⟨0, 0, rfl, rfl, hidZ ⟨by omega, by omega⟩, hidZ (.inl ⟨rfl, rfl, HJ2.out⟩)⟩
  case round =>
   obtain ⟨i, t, rfl, rfl, HTT, HI⟩ := hrel
   rcases HI.out with ⟨rfl, rfl, hj⟩ | ⟨rfl, hj⟩
   ·have HMY := hidZ (HM.out _ hj)
    have HJ3 := hidZ hj
    clear hj HI HJ2 HTT
    go_wp2_with fail
    refine HMY.out.mono ?_
    rintro e V ⟨rfl, hb⟩
    have HJ4 := hidZ (HJ3.out.below HF.out hb)
    rw [decide_eq_true HN.out]
    clear hb HMY HJ3
    go_wp2_with fail
    refine (HP.out _ HJ4.out).mono ?_
    rintro e V2 ⟨⟨t, rfl, ht0, ht1⟩, hj⟩
    have HJ5 := hidZ hj
    have ht : IntKind.i64.wrap t = t := IntWalk.i64_in _ (by omega)
    have HTB := hidZ (And.intro ht0 ht1)
    clear hj HJ4 ht0 ht1
    go_wp2_with fail
    go_roundw
    case rel => exact ⟨1, t, rfl, by go_num, HTB, hidZ (.inr ⟨rfl, HJ5.out⟩)⟩
    case measure => simp [intOf]
   ·have HD := hidZ (HT.out _ hj)
    clear hj HI HJ2
    go_wp2_with fail
    refine HD.out.mono ?_
    rintro e V2 ⟨⟨i, n1, b, kk, nm, rfl⟩, hj⟩
    have HJ5 := hidZ hj
    clear hj HD
    go_wp2_with fail
    go_ret
    exact ⟨⟨_, rfl⟩, HJ5.out⟩
theorem rfinish_any (hR : Wins w0 mp T U) (h : RoundJ w0 T 0 w) : Calls Tryz.prog 9 #[ptrN mp, .int .i64 100] w fun e w' => e = .returned (.tuple #[.int .i64 18, .bool true]) ∧ RoundJ w0 T 18 w' := by
 have HM := hidZ (fun n V (hn : n ≤ 18) (hj : RoundJ w0 T n V) => rmore_any hR hn hj)
 have HW := hidZ (fun n V (hn : n < 18) (hj : RoundJ w0 T n V) => rwindow_any hR hn hj)
 have HJ := hidZ h
 clear h hR
 go_enter Tryz.func9, Tryz.ntmps9
 go_upto_region 1 with fail
 go_step3
 go_wp2_with fail
 go_step3
 go_upto_region 1 with fail
 go_loopw [4] (fun s4 wr => ∃ (k : Nat) (z : Int), s4 = .int .i64 z ∧ Hid (z = (k : Int) ∧ k ≤ 18) ∧ Hid (RoundJ w0 T k wr)) (fun s4 _ => 19 - (intOf s4).toNat)
 case atStart => exact ⟨0, 0, rfl, hidZ ⟨rfl, by omega⟩, HJ⟩
 case round =>
  obtain ⟨k, z, rfl, HK, HJ2⟩ := hrel
  have HMY := hidZ (HM.out k wr HK.out.2 HJ2.out)
  clear HJ
  go_wp2_with fail
  refine HMY.out.mono ?_
  rintro e V ⟨rfl, hj⟩
  have HJ3 := hidZ hj
  clear hj HMY HJ2
  by_cases hlt : k < 18
  ·rw [decide_eq_true hlt]
   have hz : decide ((100 : Int) ≤ z) = false := decide_eq_false (by have := HK.out; omega)
   have hz2 : decide (z ≥ (100 : Int)) = false := decide_eq_false (by have := HK.out; omega)
   have hw : IntKind.i64.wrap (z + 1) = z + 1 := IntWalk.i64_in _ (by have := HK.out; omega)
   have HLT := hidZ hlt
   have HWW := hidZ (HW.out k V hlt HJ3.out)
   clear hlt HJ3
   go_wp2_with fail
   refine HWW.out.mono ?_
   rintro e V2 ⟨⟨t, rfl⟩, hj⟩
   have HJ4 := hidZ hj
   clear hj HWW
   go_wp2_with fail
   go_roundw
   case rel => exact ⟨k + 1, z + 1, by go_num, hidZ ⟨by have := HK.out.1; omega, by have := HLT.out; omega⟩, HJ4⟩
   case measure => have h1 := HK.out; have h2 := HLT.out; simp [intOf]; omega
  ·rw [decide_eq_false hlt]
   obtain rfl : k = 18 := by have := HK.out.2; omega
   obtain rfl : z = 18 := by have := HK.out.1; omega
   have HMY := hidZ (HM.out 18 V (Nat.le_refl _) HJ3.out)
   clear hlt HJ3
   go_wp2_with fail
   refine HMY.out.mono ?_
   rintro e V2 ⟨rfl, hj⟩
   have HJ4 := hidZ hj
   clear hj HMY
   go_wp2_with fail
   rw [Exit.noGoto_ret]
   exact bodyPost_ret (results_tmp2 (by exact Tryz.results9) _ _ _) rfl ⟨rfl, HJ4.out⟩
end
open Go.RowKit Go.ChangeMaps Go.MapKept
open Go.Proofs.YtnkkoicbnbjlnaaGreatDoor.Tk (tickOk TF kw1 kw18 kt17 kE)
def kw : Nat → WorldM
 | 0 => lw0 | 1 => Tk.kw1 | 2 => Tk.kw2 | 3 => Tk.kw3 | 4 => Tk.kw4 | 5 => Tk.kw5 | 6 => Tk.kw6 | 7 => Tk.kw7 | 8 => Tk.kw8 | 9 => Tk.kw9 | 10 => Tk.kw10 | 11 => Tk.kw11 | 12 => Tk.kw12 | 13 => Tk.kw13 | 14 => Tk.kw14 | 15 => Tk.kw15 | 16 => Tk.kw16 | 17 => Tk.kw17 | _ => Tk.kw18
def kt : Nat → WorldM
 | 0 => lw0 | 1 => Tk.kt1 | 2 => Tk.kt2 | 3 => Tk.kt3 | 4 => Tk.kt4 | 5 => Tk.kt5 | 6 => Tk.kt6 | 7 => Tk.kt7 | 8 => Tk.kt8 | 9 => Tk.kt9 | 10 => Tk.kt10 | 11 => Tk.kt11 | 12 => Tk.kt12 | 13 => Tk.kt13 | 14 => Tk.kt14 | 15 => Tk.kt15 | 16 => Tk.kt16 | 17 => Tk.kt17 | _ => Tk.kt18
def LPs (p x : Nat) (n : Nat) (W : WorldM) : Thing := match n with
 | 0 => Tk.LP0 p x W | 1 => Tk.LP1 p x W | 2 => Tk.LP2 p x W | 3 => Tk.LP3 p x W | 4 => Tk.LP4 p x W | 5 => Tk.LP5 p x W | 6 => Tk.LP6 p x W | 7 => Tk.LP7 p x W | 8 => Tk.LP8 p x W | 9 => Tk.LP9 p x W | 10 => Tk.LP10 p x W | 11 => Tk.LP11 p x W | 12 => Tk.LP12 p x W | 13 => Tk.LP13 p x W | 14 => Tk.LP14 p x W | 15 => Tk.LP15 p x W | 16 => Tk.LP16 p x W | 17 => Tk.LP17 p x W | _ => Tk.LP18 p x W
theorem framed_LPs (p x n : Nat) (W : WorldM) : Framed (LPs p x n W) := by
 rcases n with _ | _ | _ | _ | _ | _ | _ | _ | _ | _ | _ | _ | _ | _ | _ | _ | _ | _ | _ | n
 ·exact Tk.framed_LP0 W
 ·exact Tk.framed_LP1 W
 ·exact Tk.framed_LP2 W
 ·exact Tk.framed_LP3 W
 ·exact Tk.framed_LP4 W
 ·exact Tk.framed_LP5 W
 ·exact Tk.framed_LP6 W
 ·exact Tk.framed_LP7 W
 ·exact Tk.framed_LP8 W
 ·exact Tk.framed_LP9 W
 ·exact Tk.framed_LP10 W
 ·exact Tk.framed_LP11 W
 ·exact Tk.framed_LP12 W
 ·exact Tk.framed_LP13 W
 ·exact Tk.framed_LP14 W
 ·exact Tk.framed_LP15 W
 ·exact Tk.framed_LP16 W
 ·exact Tk.framed_LP17 W
 ·exact Tk.framed_LP18 W
 ·exact Tk.framed_LP18 W
theorem count_LPs (p x n : Nat) (W : WorldM) : CountIs p W.cells.count (LPs p x n W) := by
 rcases n with _ | _ | _ | _ | _ | _ | _ | _ | _ | _ | _ | _ | _ | _ | _ | _ | _ | _ | _ | n
 ·exact Tk.count_LP0 W
 ·exact Tk.count_LP1 W
 ·exact Tk.count_LP2 W
 ·exact Tk.count_LP3 W
 ·exact Tk.count_LP4 W
 ·exact Tk.count_LP5 W
 ·exact Tk.count_LP6 W
 ·exact Tk.count_LP7 W
 ·exact Tk.count_LP8 W
 ·exact Tk.count_LP9 W
 ·exact Tk.count_LP10 W
 ·exact Tk.count_LP11 W
 ·exact Tk.count_LP12 W
 ·exact Tk.count_LP13 W
 ·exact Tk.count_LP14 W
 ·exact Tk.count_LP15 W
 ·exact Tk.count_LP16 W
 ·exact Tk.count_LP17 W
 ·exact Tk.count_LP18 W
 ·exact Tk.count_LP18 W
theorem tick_LPs (p x n : Nat) (h1 : 1 ≤ n) (h2 : n ≤ 18) : TF p (LPs p x n (kw n)) (LPs p x n (kt n)) := by
 rcases n with _ | _ | _ | _ | _ | _ | _ | _ | _ | _ | _ | _ | _ | _ | _ | _ | _ | _ | _ | n
 ·exact absurd h1 (by omega)
 ·exact Tk.tick_LP1 Tk.kok1
 ·exact Tk.tick_LP2 Tk.kok2
 ·exact Tk.tick_LP3 Tk.kok3
 ·exact Tk.tick_LP4 Tk.kok4
 ·exact Tk.tick_LP5 Tk.kok5
 ·exact Tk.tick_LP6 Tk.kok6
 ·exact Tk.tick_LP7 Tk.kok7
 ·exact Tk.tick_LP8 Tk.kok8
 ·exact Tk.tick_LP9 Tk.kok9
 ·exact Tk.tick_LP10 Tk.kok10
 ·exact Tk.tick_LP11 Tk.kok11
 ·exact Tk.tick_LP12 Tk.kok12
 ·exact Tk.tick_LP13 Tk.kok13
 ·exact Tk.tick_LP14 Tk.kok14
 ·exact Tk.tick_LP15 Tk.kok15
 ·exact Tk.tick_LP16 Tk.kok16
 ·exact Tk.tick_LP17 Tk.kok17
 ·exact Tk.tick_LP18 Tk.kok18
 ·omega
theorem kt_count (n : Nat) (h2 : n ≤ 18) : (kt n).cells.count = 2 * n := by
 rcases n with _ | _ | _ | _ | _ | _ | _ | _ | _ | _ | _ | _ | _ | _ | _ | _ | _ | _ | _ | n
 ·exact by kernel_rfl
 ·exact by kernel_rfl
 ·exact by kernel_rfl
 ·exact by kernel_rfl
 ·exact by kernel_rfl
 ·exact by kernel_rfl
 ·exact by kernel_rfl
 ·exact by kernel_rfl
 ·exact by kernel_rfl
 ·exact by kernel_rfl
 ·exact by kernel_rfl
 ·exact by kernel_rfl
 ·exact by kernel_rfl
 ·exact by kernel_rfl
 ·exact by kernel_rfl
 ·exact by kernel_rfl
 ·exact by kernel_rfl
 ·exact by kernel_rfl
 ·exact by kernel_rfl
 ·omega
theorem kw_count (n : Nat) (h2 : n ≤ 18) (h1 : 1 ≤ n) : (kw n).cells.count + 1 = 2 * n := by
 rcases n with _ | _ | _ | _ | _ | _ | _ | _ | _ | _ | _ | _ | _ | _ | _ | _ | _ | _ | _ | n
 ·exact absurd h1 (by omega)
 ·exact by kernel_rfl
 ·exact by kernel_rfl
 ·exact by kernel_rfl
 ·exact by kernel_rfl
 ·exact by kernel_rfl
 ·exact by kernel_rfl
 ·exact by kernel_rfl
 ·exact by kernel_rfl
 ·exact by kernel_rfl
 ·exact by kernel_rfl
 ·exact by kernel_rfl
 ·exact by kernel_rfl
 ·exact by kernel_rfl
 ·exact by kernel_rfl
 ·exact by kernel_rfl
 ·exact by kernel_rfl
 ·exact by kernel_rfl
 ·exact by kernel_rfl
 ·omega
theorem ksteps (p x n : Nat) (h1 : 1 ≤ n) (h2 : n < 18) : StepTo x p (decide (n = 17)) (LPs p x n (kt n)) (LPs p x (n + 1) (kw (n + 1))) := by
 rcases n with _ | _ | _ | _ | _ | _ | _ | _ | _ | _ | _ | _ | _ | _ | _ | _ | _ | _ | _ | n
 ·exact absurd h1 (by omega)
 ·exact Tk.kstep1
 ·exact Tk.kstep2
 ·exact Tk.kstep3
 ·exact Tk.kstep4
 ·exact Tk.kstep5
 ·exact Tk.kstep6
 ·exact Tk.kstep7
 ·exact Tk.kstep8
 ·exact Tk.kstep9
 ·exact Tk.kstep10
 ·exact Tk.kstep11
 ·exact Tk.kstep12
 ·exact Tk.kstep13
 ·exact Tk.kstep14
 ·exact Tk.kstep15
 ·exact Tk.kstep16
 ·exact Tk.kstep17
 ·exact absurd h2 (by omega)
 ·omega
theorem count_star {p n : Nat} {A B : Thing} (h : CountIs p n A) : CountIs p n (Star A B) := fun V _ ⟨S1, _, h1, _⟩ => h V S1 h1
theorem got_LP18 {p x : Nat} {W : WorldM} : ∀ V S0, Tk.LP18 p x W V S0 → Calls Tryz.prog 396 #[ptrN x] V fun e w' => e = .returned (.tuple #[.agg #[.int .u8 1, .int .u64 1, .string ⟨#[]⟩, .string ⟨#[]⟩, .int .u32 0, .int .u64 0, .int .i64 0, .int .i64 0], .int .u64 10, .int .i64 21]) ∧ Below V.heap.size V w' := fun _ _ ⟨_, h⟩ => storeGot_any h
abbrev calledK : List Value := [.int .i64 0, .int .u8 3, sv sm0.key, sv sm0.value, .int .u32 (sm0.flags : Int), .int .i64 sm0.exp, .int .u64 (sm0.id : Int), .int .u64 (sm0.by' : Int), .int .i64 ((0 : Nat) : Int), .int .i64 ((34 + 1 : Nat) : Int), .int .u8 1, .int .u64 1, .string ⟨#[]⟩, .string ⟨#[]⟩, .int .u32 0, .int .u64 0, .int .i64 0, .int .i64 0, .int .u64 10, .int .i64 21]
section
variable (X : Thing) (n₀ mp wp tb tc c0 : Nat)
def KA : Thing := Star (Star (Star X (ConnT n₀ c0 mcA)) (MachB mp wp tb tc 1 (thCells c0 call7 .nilIface 0 ++ []) (.slice none 0 0))) (WorldIs wp lw0)
def KS (x : Nat) (L : Thing) : Thing := Star (Star (Star X (ConnT n₀ c0 mcB)) (MachB mp wp tb tc 1 (thCells c0 callL (.iface 209 (ptrN x)) (0 : Nat) ++ []) (.slice none 0 0))) L
def KC (cv : Value) (L : Thing) : Thing := Star (Star (Star X (ConnT n₀ c0 mcC)) (MachB mp wp tb tc 1 (thCells c0 callL .nilIface (0 : Nat) ++ []) cv)) (Star L (DoneRow cv 1 calledK))
def KN (Ws : Nat → WorldM) (n : Nat) : Thing := if n = 0 then KA X n₀ mp wp tb tc c0 else if n < 18 then fun V S => ∃ x, KS X n₀ mp wp tb tc c0 x (LPs wp x n (Ws n)) V S else fun V S => ∃ q : Nat × Value, KC X n₀ mp wp tb tc c0 q.2 (LPs wp q.1 18 (Ws 18)) V S
end
section
variable {X : Thing} {n₀ mp wp tb tc c0 : Nat} {Ws : Nat → WorldM}
theorem framed_R1 (hX : Framed X) (m : ConnM) : Framed (Star X (ConnT n₀ c0 m)) := hX.star (framed_connT _ _ _)
theorem framed_KA (hX : Framed X) : Framed (KA X n₀ mp wp tb tc c0) := ((framed_R1 hX _).star (framed_mach _ _ _ _ _ _ _)).star (framed_worldIs _ _)
theorem framed_KS (hX : Framed X) (x : Nat) {L : Thing} (hL : Framed L) : Framed (KS X n₀ mp wp tb tc c0 x L) := ((framed_R1 hX _).star (framed_mach _ _ _ _ _ _ _)).star hL
theorem framed_KC (hX : Framed X) (cv : Value) {L : Thing} (hL : Framed L) : Framed (KC X n₀ mp wp tb tc c0 cv L) := ((framed_R1 hX _).star (framed_mach _ _ _ _ _ _ _)).star (hL.star (framed_done _ _ _))
theorem KNm {n : Nat} (h1 : 1 ≤ n) (h2 : n < 18) : KN X n₀ mp wp tb tc c0 Ws n = fun V S => ∃ x, KS X n₀ mp wp tb tc c0 x (LPs wp x n (Ws n)) V S := by
 unfold KN
 rw [if_neg (by omega), if_pos h2]
theorem framed_KN (hX : Framed X) (n : Nat) : Framed (KN X n₀ mp wp tb tc c0 Ws n) := by
 unfold KN
 split
 ·exact framed_KA hX
 ·split
  ·exact Framed.ex fun x => framed_KS hX x (framed_LPs _ _ _ _)
  ·exact Framed.ex fun q => framed_KC hX q.2 (framed_LPs _ _ _ _)
theorem KN_cases {n : Nat} (hn : n ≤ 18) {V : World} {S : Nat → Prop} (h : KN X n₀ mp wp tb tc c0 Ws n V S) : n = 0 ∧ KA X n₀ mp wp tb tc c0 V S ∨ (1 ≤ n ∧ n < 18 ∧ ∃ x, KS X n₀ mp wp tb tc c0 x (LPs wp x n (Ws n)) V S) ∨ n = 18 ∧ ∃ x cv, KC X n₀ mp wp tb tc c0 cv (LPs wp x 18 (Ws 18)) V S := by
 by_cases h0 : n = 0
 ·subst h0
  exact .inl ⟨rfl, h⟩
 ·by_cases h1 : n < 18
  ·rw [KNm (by omega) h1] at h
   exact .inr (.inl ⟨by omega, h1, h⟩)
  ·obtain rfl : n = 18 := by omega
   obtain ⟨q, h⟩ := h
   exact .inr (.inr ⟨rfl, q.1, q.2, h⟩)
theorem KN_mach {n : Nat} (hn : n ≤ 18) {V : World} {S : Nat → Prop} (h : KN X n₀ mp wp tb tc c0 Ws n V S) : ∃ th cv, MachR V mp wp tb tc 1 th cv ∧ th[0]? = some (ptrN c0) := by
 rcases KN_cases hn h with ⟨-, h⟩ | ⟨-, -, x, h⟩ | ⟨-, x, cv, h⟩
 ·exact ⟨_, _, Star.mach h, rfl⟩
 ·exact ⟨_, _, Star.mach h, rfl⟩
 ·exact ⟨_, _, Star.mach h, rfl⟩
theorem wins_any (hX : Framed X) (w0 : World) : Wins w0 mp (KN X w0.heap.size mp wp tb tc c0 kt) (KN X w0.heap.size mp wp tb tc c0 kw) where
 framed := framed_KN hX
 framedU := framed_KN hX
 conns := by
  rintro n V hn ⟨S, h, -⟩
  obtain ⟨th, cv, hr, -⟩ := KN_mach hn h
  exact mConns_any hr
 connsU := by
  rintro n V hn ⟨S, h, -⟩
  obtain ⟨th, cv, hr, -⟩ := KN_mach hn h
  exact mConns_any hr
 may0 := by
  rintro n V hn ⟨S, h, -⟩
  rcases KN_cases hn h with ⟨rfl, h⟩ | ⟨h1, h2, x, h⟩ | ⟨rfl, x, cv, h⟩
  ·have hc : ∃ S1, ConnIs w0.heap.size V c0 mcA S1 := by
    obtain ⟨T1, T2, ⟨T3, T4, ⟨T5, T6, -, a2, -⟩, -⟩, -⟩ := h
    exact ⟨T6, a2⟩
   obtain ⟨S1, hc⟩ := hc
   have hm := mMay_conn (k := 0) (c := c0) (Star.mach h) (by omega) rfl rfl (left_is32 hc mfA (by omega))
   rw [show decide (0 < leftM mcA) = true from by kernel_rfl] at hm
   exact hm
  ·rw [decide_eq_true h2]
   refine (mMay_do (k := 0) (t := 209) (o := x) (Star.mach h) (by omega) rfl).mono ?_
   rintro e w' ⟨rfl, rfl⟩
   exact ⟨rfl, Below.refl _ _⟩
  ·have hc : ∃ S1, ConnIs w0.heap.size V c0 mcC S1 := by
    obtain ⟨T1, T2, ⟨T3, T4, ⟨T5, T6, -, a2, -⟩, -⟩, -⟩ := h
    exact ⟨T6, a2⟩
   obtain ⟨S1, hc⟩ := hc
   have hm := mMay_conn (k := 0) (c := c0) (Star.mach h) (by omega) rfl rfl (left_is32 hc mfC (by omega))
   rw [show decide (0 < leftM mcC) = false from by kernel_rfl] at hm
   exact hm
 do0 := by
  rintro n V hn ⟨S, h, hE, hl, hb⟩
  have hlow := hb.size
  rcases KN_cases (by omega) h with ⟨rfl, h⟩ | ⟨h1, h2, x, h⟩ | ⟨rfl, -⟩
  ·refine (doPick_any (B := KN X w0.heap.size mp wp tb tc c0 kw 1) (framed_R1 hX _) (framed_worldIs _ _) (framed_KN hX 1) h (fun W hbW hW => ?_)).mono ?_
   ·refine (pickFirst_any (n := 0) (m := sm0) (W := lw0) (Y1 := fun x => Tk.LP1 wp x Tk.kw1) (by kernel_rfl) (by kernel_rfl) (by decide) (by decide) (by kernel_rfl) (by kernel_rfl) hX (fun _ => Tk.framed_LP1 _) mfA.good (by kernel_rfl) (by kernel_rfl) rfl hW (fun x => ?_) (fun x => Tk.count_LP1 Tk.kw1)).mono ?_
    ·exact Tk.kstep0.wk (fun V S ⟨T1, T2, a1, ⟨q, T3, T4, ⟨T5, T6, b1, b2, b3, b4⟩, d2, d3, d4⟩, a3, a4⟩ => ⟨S, ⟨q, Star.fst_mono (Star.assoc' ⟨T1, T2, a1, ⟨T3, T4, ⟨T5, T6, b1, b2, b3, b4⟩, d2, d3, d4⟩, a3, a4⟩) (fun _ h => Star.assoc' h)⟩, fun _ e => e⟩) (Wk.refl _)
    ·rintro e w' ⟨he, hst⟩
     exact ⟨he, hst⟩
   ·rintro e w' ⟨he, hst⟩
    exact ⟨he, RoundJ.step hE hl hb hst⟩
  ·by_cases h17 : n = 17
   ·subst h17
    refine (doPick_any (B := KN X w0.heap.size mp wp tb tc c0 kw 18) (framed_R1 hX _) (framed_LPs _ _ _ _) (framed_KN hX 18) h (fun W hbW hW => ?_)).mono ?_
    ·refine (pickLast_any (n := 34) (f := 0) (kd := 1) (nm := 1) (ep := 10) (pt := 21) (m := sm0) (cm := mcB) hX (framed_LPs _ _ _ _) (framed_LPs _ _ 18 Tk.kw18) hW (ksteps _ _ 17 (by omega) (by omega)) (count_LPs _ _ 17 (kt 17)) (count_LPs _ _ 18 Tk.kw18) got_LP18 (hE.chg (Chg.of_below (M := fun _ => False) hbW) (fun _ e => e.elim)) (Nat.le_trans hlow hbW.size) hl mfB (by omega) (by omega) ansS_ok).mono ?_
     rintro e w' ⟨he, hst⟩
     exact ⟨he, hst.mono (fun S' ⟨cv, h⟩ => ⟨(x, cv), h⟩)⟩
    ·rintro e w' ⟨he, hst⟩
     exact ⟨he, RoundJ.step hE hl hb hst⟩
   ·refine (doPick_any (B := KS X w0.heap.size mp wp tb tc c0 x (LPs wp x (n + 1) (kw (n + 1)))) (framed_R1 hX _) (framed_LPs _ _ _ _) (framed_KS hX x (framed_LPs _ _ _ _)) h (fun W hbW hW => ?_)).mono ?_
    ·have hs := ksteps wp x n h1 h2
     rw [decide_eq_false h17] at hs
     have c1 := count_LPs wp x n (kt n)
     have c2 := count_LPs wp x (n + 1) (kw (n + 1))
     have e1 := kt_count n (by omega)
     have e2 := kw_count (n + 1) (by omega) (by omega)
     rw [show (kw (n + 1)).cells.count = (kt n).cells.count + 1 from by omega] at c2
     exact pickMid_any rfl (framed_R1 hX _) (framed_LPs _ _ _ _) (framed_LPs _ _ _ _) hW hs c1 c2
    ·rintro e w' ⟨he, hst⟩
     refine ⟨he, RoundJ.step hE hl hb (hst.mono (fun S' h => ?_))⟩
     rw [KNm (by omega) (by omega)]
     exact ⟨x, h⟩
  ·omega
 tick := by
  rintro n V hn1 hn ⟨S, h, hE, hl, hb⟩
  have e1 := kt_count n hn
  have e2 := kw_count n hn hn1
  rcases KN_cases hn h with ⟨rfl, h⟩ | ⟨h1, h2, x, h⟩ | ⟨rfl, x, cv, h⟩
  ·omega
  ·have c2 := count_LPs wp x n (kt n)
   rw [show (kt n).cells.count = (kw n).cells.count + 1 from by omega] at c2
   refine (doTick_any (framed_R1 hX _) (framed_LPs _ _ _ _) (framed_LPs _ _ _ _) h (tick_LPs wp x n h1 hn).tick (count_LPs _ _ _ _) c2).mono ?_
   rintro e w' ⟨he, hst⟩
   refine ⟨he, RoundJ.step hE hl hb (hst.mono (fun S' h => ?_))⟩
   rw [KNm h1 h2]
   exact ⟨x, h⟩
  ·have c2 := count_LPs wp x 18 (kt 18)
   rw [show (kt 18).cells.count = (kw 18).cells.count + 1 from by omega] at c2
   refine (doTick_any (framed_R1 hX _) ((framed_LPs _ _ _ _).star (framed_done _ _ _)) ((framed_LPs _ _ _ _).star (framed_done _ _ _)) h ((tick_LPs wp x 18 (by omega) hn).star (framed_done _ _ _)).tick (count_star (count_LPs _ _ _ _)) (count_star c2)).mono ?_
   rintro e w' ⟨he, hst⟩
   exact ⟨he, RoundJ.step hE hl hb (hst.mono (fun S' h => ⟨(x, cv), h⟩))⟩
end
open Go.RowKit Go.ChangeMaps Go.MapKept
theorem thRow_one {tv : Value} {c0 : Nat} {w : World} {S : Nat → Prop} (h : ThRow tv [c0] w S) : ∃ tb tc, tv = .slice (some ⟨tb, 0, none⟩) 1 tc ∧ RowB tb (thCells c0 call7 .nilIface 0 ++ []) 103 w S := by
 obtain ⟨h1, hs⟩ := h
 obtain ⟨g2, o2, c2, e2, -, -, -, ht, hx2⟩ := (Row.of_owns h1).some (fun e => by simp [thCells] at e)
 obtain ⟨g3, c3, e3⟩ : ∃ g3 c3, tv = .slice (some ⟨g3, 0, none⟩) 1 c3 := by
  rcases h1.2 with ⟨-, h⟩ | ⟨g, cap, cur, h, -⟩
  ·simp at h
  ·exact ⟨g, cap, h⟩
 subst e3
 obtain ⟨ha, -, rfl⟩ := slice_inj e2
 obtain ⟨rfl, rfl⟩ : g3 = g2 ∧ o2 = 0 := by
  have := Option.some.inj ha
  injection this with e1 e2
  exact ⟨e1, e2.symm⟩
 refine ⟨g3, c3, rfl, ht, fun j v hv => ?_, fun k => ?_⟩
 ·have := hx2 j v (by simpa using hv)
  rw [Nat.zero_add] at this
  exact this
 ·rw [hs]
  simp [Value.ownBlock, eq_comm]
theorem mach_one {n₀ wp mp : Nat} {W : WorldM} {tv : Value} {cs : List Nat} {w : World} {S : Nat → Prop} (h : MachX n₀ wp mp W tv cs w S) (hcs : cs.length = 1) :
  ∃ c0 tb tc S', Star (Star (Star Emp (ConnT n₀ c0 cNew)) (MachB mp wp tb tc 1 (thCells c0 call7 .nilIface 0 ++ []) (.slice none 0 0))) (WorldIs wp W) w S' ∧ ∀ k, S' k → S k := by
 obtain ⟨c0, rfl⟩ : ∃ c0, cs = [c0] := List.length_eq_one_iff.1 hcs
 obtain ⟨T1, T2, ⟨T3, T4, a1, a2, a3, a4⟩, b2, b3, b4⟩ := h
 obtain ⟨tb, tc, rfl, hrow⟩ := thRow_one a2
 have h1 : Star (Star (Star (WorldIs wp W) (ConnL n₀ [c0])) (RowB tb (thCells c0 call7 .nilIface 0 ++ []) 103)) (Blk mp [ptrN wp, .slice (some ⟨tb, 0, none⟩) 1 tc, .slice none 0 0] 79) w S := ⟨T1, T2, ⟨T3, T4, a1, hrow, a3, a4⟩, b2, b3, b4⟩
 have hcl : Wk (ConnL n₀ [c0]) (Star Emp (ConnT n₀ c0 cNew)) := Wk.comm _ _
 obtain ⟨S', h2, h3⟩ := (((Wk.assoc _ _ _).trans (Wk.star ((Wk.star (Wk.refl _) hcl).trans (Wk.comm _ _)) (Wk.comm _ _))).trans (boxes_wk _ _ _)) w S h1
 exact ⟨c0, tb, tc, S', h2, h3⟩
theorem idx_scmd (g o n c : Nat) (W : World) : (Instr.indexAt 69 (.slice (some ⟨g, o, none⟩) (n + 1) c) (.int .i64 0)).run Tryz.prog W = .ok (.pointer (some ⟨g, o, none⟩)) W := by
 have h2 := Tryz.underlying69
 obtain ⟨i0, hi, hz0, hz1, hz2⟩ := infoP_parts infoSCmd
 go_simp
def scrL : List UInt8 := 0 :: 16 :: setLine
theorem scrL_parse : parseS scrL = [⟨0, 0, setLine⟩] := by kernel_rfl
theorem envUp {w w' : World} (h : EnvP w.heap.size w) (hb : Below w.heap.size w w') : EnvP w'.heap.size w' := (h.chg (Chg.of_below (M := fun _ => False) hb) (fun _ e => e.elim)).mono hb.size
theorem runFeed_any {w0 w V : World} {mp wp tb tc c0 : Nat} {a : Option Addr} {c : Nat} {S : Nat → Prop} (hs : Star (Star (Star Emp (ConnT w0.heap.size c0 cNew)) (MachB mp wp tb tc 1 (thCells c0 call7 .nilIface 0 ++ []) (.slice none 0 0))) (WorldIs wp lw0) w S) (hl : ∀ k, S k → w0.heap.size ≤ k)
  (hE : EnvP w0.heap.size w0) (hb : Below w0.heap.size w0 w) (hwV : Below w.heap.size w V) (hrow : Row V 5 1 (.slice a 16 c) 16 (setLine.map u8v)) (hbn : ∀ g, (Value.slice a 16 c).ownBlock = some g → w.heap.size ≤ g) :
  Calls Tryz.prog 25 #[ptrN mp, .agg #[.int .u8 0, .int .i64 0, .slice a 16 c]] V fun e w' => e = .returned (didV 0 0 false 0 0) ∧ RoundJ w0 (KN Emp w0.heap.size mp wp tb tc c0 kt) 0 w' := by
 have hFR : ∀ m, Framed (Star Emp (ConnT w0.heap.size c0 m)) := fun m => framed_emp.star (framed_connT _ _ _)
 have hF : Framed (Star (Star (Star Emp (ConnT w0.heap.size c0 cNew)) (MachB mp wp tb tc 1 (thCells c0 call7 .nilIface 0 ++ []) (.slice none 0 0))) (WorldIs wp lw0)) := ((hFR cNew).star (framed_mach mp wp tb tc 1 (thCells c0 call7 .nilIface 0 ++ []) (.slice none 0 0))).star (framed_worldIs wp lw0)
 have hb0V : Below w0.heap.size w0 V := hb.trans (hwV.mono hb.size)
 have hEV : EnvP w0.heap.size V := hE.chg (Chg.of_below (M := fun _ => False) hb0V) (fun _ e => e.elim)
 have hs2 := hF.below hs hwV
 have hlt : ∀ k, S k → k < w.heap.size := fun k hk => hF.lt hs hk
 refine (doFeed_any (B := KA Emp w0.heap.size mp wp tb tc c0) (hFR cNew) (framed_worldIs _ _) (framed_KA framed_emp) hs2 rfl (fun U S0 hU => ⟨((Star.mach hU).th 0 (ptrN c0) rfl).1, (Star.mach hU).c1⟩) (fun U hbU hU => ?_)).mono ?_
 ·obtain ⟨T3, T4, ⟨T5, T6, a1, a2, a3, a4⟩, d2, d3, d4⟩ := hU
  obtain ⟨T7, T8, c1, c2, c3, c4⟩ := a1
  have hb0U : Below w0.heap.size w0 U := hb0V.trans (hbU.mono hb0V.size)
  have hrU := hrow.below hbU
  have hin := in_is (bl := setLine) c2 (hE.chg (Chg.of_below (M := fun _ => False) hb0U) (fun _ e => e.elim)) hb0U.size (fit_new 0) (by decide) (by omega) hrU.bytes (fun _ g hg => .inr (hrU.tag hg)) (fun _ g hg e => by
   have h1 := hbn g hg
   have h2 := hlt g ((d4 g).2 (.inl ((a4 g).2 (.inl ((c4 g).2 (.inr e))))))
   omega)
  refine hin.mono ?_
  rintro e w' ⟨hv, hst⟩
  refine ⟨hv, ?_⟩
  have e1 : Stp (Star Emp (ConnT w0.heap.size c0 mcA)) T5 U w' := Stp.right framed_emp (framed_connT _ _ _) c1 c2 c3 c4 hst
  have e2 := Stp.left (framed_mach _ _ _ _ _ _ _) (hFR cNew) ⟨T7, T8, c1, c2, c3, c4⟩ a2 a3 a4 e1
  exact Stp.left (framed_worldIs _ _) ((hFR cNew).star (framed_mach _ _ _ _ _ _ _)) ⟨T5, T6, ⟨T7, T8, c1, c2, c3, c4⟩, a2, a3, a4⟩ d2 d3 d4 e2
 ·rintro e w' ⟨he, hst⟩
  exact ⟨he, RoundJ.step hEV hl hb0V (hst.mono fun S' h => h)⟩
theorem runRun_any {w : World} {bv : Value} (hE : EnvP w.heap.size w) (hb : BRow w bv scrL) (hbk : ∀ g, bv.ownBlock = some g → g < w.heap.size) :
  Calls Tryz.prog 7 #[.agg #[.int .i64 2, .int .i64 8, .int .i64 3, .int .i64 1, .int .i64 16, .int .i64 1], bv] w fun e w' => ∃ W0 mp wp tb tc c0, e = .returned (.tuple #[ptrN mp, .int .i64 0]) ∧ Below w.heap.size w W0 ∧ RoundJ W0 (KN Emp W0.heap.size mp wp tb tc c0 kt) 0 w' := by
 obtain ⟨b0, hb0⟩ := xE (w.heap.size)
 obtain ⟨w1, hw1⟩ := xE (w.alloc (.cells #[.int .i64 2, .int .i64 8, .int .i64 3, .int .i64 1, .int .i64 16, .int .i64 1] 42))
 have hb1 : Below w.heap.size w w1 := bal hw1
 have hz1 : w1.heap.size = w.heap.size + 1 := by rw [hw1, size_at]
 have HNEW := hidZ (machinesNew_any lcfg 1 (by decide) (by omega) (by omega) w1)
 have HE := hidZ (envUp hE hb1)
 have HB := hidZ (show BRow w1 bv scrL ∧ ∀ g, bv.ownBlock = some g → g < w1.heap.size from ⟨hb.below hb1, fun g hg => by have := hbk g hg; omega⟩)
 have HB1 := hidZ hb1
 clear hE hb hbk hb1 hz1
 go_enter Tryz.func7, Tryz.ntmps7
 go_upto_region 1 with fail
 rw [← hw1, ← hb0]
 have hq0 : ∀ j v, ([.int .i64 2, .int .i64 8, .int .i64 3, .int .i64 1, .int .i64 16, .int .i64 1] : List Value)[j]? = some v → w1.cell? ⟨b0, j, none⟩ = some v := fun j v hj => by
  rw [hw1, hb0]
  have := (cellsAt (heap_mem w (.cells #[.int .i64 2, .int .i64 8, .int .i64 3, .int .i64 1, .int .i64 16, .int .i64 1] 42)) j).1
  rw [this]
  simpa using hj
 have c0 := hq0 0 _ rfl
 have c1 := hq0 1 _ rfl
 have c2 := hq0 2 _ rfl
 have c3 := hq0 3 _ rfl
 have c4 := hq0 4 _ rfl
 have c5 := hq0 5 _ rfl
 clear hw1 hb0 hq0
 go_wp2_with fail
 refine HNEW.out.mono ?_
 rintro e w2 ⟨mp, wp, tv, cs, rfl, hcs, ⟨⟨S, hx, hl⟩, hb2⟩⟩
 obtain ⟨co, tb, tc, S1, hs1, hk1⟩ := mach_one hx hcs
 have HS := hidZ (show Star (Star (Star Emp (ConnT w1.heap.size co cNew)) (MachB mp wp tb tc 1 (thCells co call7 .nilIface 0 ++ []) (.slice none 0 0))) (WorldIs wp lw0) w2 S1 ∧ (∀ k, S1 k → w1.heap.size ≤ k) ∧ Below w1.heap.size w1 w2 from ⟨hs1, fun k hk => hl k (hk1 k hk), hb2⟩)
 have HPA := hidZ (sparse_any (HB.out.1.below hb2) (by decide) (fun _ g hg => Nat.lt_of_lt_of_le (HB.out.2 g hg) hb2.size))
 clear hx hl hcs hs1 hk1 hb2 HNEW c0 c1 c2 c3 c4 c5
 go_wp2_with fail
 refine HPA.out.mono ?_
 rintro e w3 ⟨v, L, rfl, hrow, hvb, hsr, hL, hb3⟩
 rw [scrL_parse] at hL
 obtain ⟨cb, rfl⟩ : ∃ cb, L = [(⟨0, 0, setLine⟩, cb)] := by
  rcases L with _ | ⟨⟨c, cb⟩, _ | ⟨y, L⟩⟩
  ·simp at hL
  ·simp only [List.map_cons, List.map_nil, List.cons.injEq, and_true] at hL
   exact ⟨cb, by rw [hL]⟩
  ·simp at hL
 have hcr : Row w3 5 1 cb 16 (setLine.map u8v) := (hsr _ (List.mem_singleton.2 rfl)).1
 have hcb : ∀ g, cb.ownBlock = some g → w2.heap.size ≤ g := (hsr _ (List.mem_singleton.2 rfl)).2
 obtain ⟨ca, cc, rfl⟩ := hcr.len
 obtain ⟨g, o, vc, rfl, hg, hn, -, -, hcell⟩ := hrow.some (by simp [scells])
 have k0 : w3.cell? ⟨g, o, none⟩ = some (.int .u8 0) := (hcell 0 _ rfl).1
 have k1 : w3.cell? ⟨g, o + 1, none⟩ = some (.int .i64 0) := (hcell 1 _ rfl).1
 have k2 : w3.cell? ⟨g, o + 2, none⟩ = some (.slice ca 16 cc) := (hcell 2 _ rfl).1
 have HX := hidZ (show Row w3 5 1 (.slice ca 16 cc) 16 (setLine.map u8v) ∧ (∀ g, (Value.slice ca 16 cc).ownBlock = some g → w2.heap.size ≤ g) ∧ Below w2.heap.size w2 w3 from ⟨hcr, hcb, hb3⟩)
 have hix : ∀ W : World, (Instr.indexAt 69 (.slice (some ⟨g, o, none⟩) 1 vc) (.int .i64 0)).run Tryz.prog W = .ok (.pointer (some ⟨g, o, none⟩)) W := idx_scmd g o 0 vc
 clear hrow hvb hsr hcr hcb hcell hn hL hb3 HPA
 go_wp2_with fail
 go_loopw [21] (fun s21 wr => ∃ i : Nat, s21 = .int .i64 (i : Int) ∧ Hid (i = 0 ∧ w3 = wr ∨ i = 1 ∧ RoundJ w1 (KN Emp w1.heap.size mp wp tb tc co kt) 0 wr)) (fun s21 _ => 2 - (intOf s21).toNat)
 case atStart => exact ⟨0, rfl, hidZ (.inl ⟨rfl, rfl⟩)⟩
 case round =>
  obtain ⟨i, rfl, HI⟩ := hrel
  rcases HI.out with ⟨rfl, rfl⟩ | ⟨rfl, hj⟩
  ·clear HI
   obtain ⟨w4, hw4⟩ := xE (w3.alloc (.cells #[.int .u8 0, .int .i64 0, .slice ca 16 cc] 73))
   have hb4 : Below w3.heap.size w3 w4 := bal hw4
   have HDO := hidZ (runFeed_any HS.out.1 HS.out.2.1 HE.out HS.out.2.2 (HX.out.2.2.trans (hb4.mono HX.out.2.2.size)) (HX.out.1.below hb4) HX.out.2.1)
   clear hb4
   go_wp2_with fail
   rw [← hw4]
   refine HDO.out.mono ?_
   rintro e w5 ⟨rfl, hj⟩
   have HJ := hidZ hj
   clear hj HDO hw4 k0 k1 k2 hix
   go_wp2_with fail
   go_roundw
   case rel => exact ⟨1, by go_num, hidZ (.inr ⟨rfl, HJ.out⟩)⟩
   case measure => simp [intOf]
  ·have HJ := hidZ hj
   clear HI hj
   go_wp2_with fail
   exact bodyPost_ret (results_tmp2 (by exact Tryz.results7) _ _ _) rfl ⟨w1, mp, wp, tb, tc, co, rfl, HB1.out, HJ.out⟩
end Go.Proofs.YtnkkoicbnbjlnaaGreatDoor.One
