/- The chapter's examples of layer 3 hold: 'lives' answers true. Condition: MaxLen holds a number. -/
import Derived.Test.YtaokclnandjlpaaDoorKeys
import Derived.Test.YtaokclnandjlpaaDoorWordsWalk
namespace Go.Proofs.YtaokclnandjlpaaDoor
open Go.RowKit

theorem look_at (l : List UInt8) (f p : Nat) (w : World) (h : look l = (f, p)) (hs : l.length ≤ maxLen) :
    Calls Tryd.prog 36 #[sv l] w fun e w' => e = .returned (.tuple #[.int .u8 f, .int .i64 p]) ∧ w = w' := by
  have := look_any ⟨l.toArray⟩ w (by simpa [ByteArray.size] using hs)
  rw [show bs ⟨l.toArray⟩ = l from rfl, h] at this
  exact this

theorem ok_at (l : List UInt8) (b : Bool) (w : World) (h : okB l = b) (hs : l.length ≤ maxLen) :
    Calls Tryd.prog 37 #[sv l] w fun e w' => e = .returned (.bool b) ∧ w = w' := by
  have := ok_any ⟨l.toArray⟩ w (by simpa [ByteArray.size] using hs)
  rw [show bs ⟨l.toArray⟩ = l from rfl, h] at this
  exact this

set_option maxRecDepth 100000 in
set_option maxHeartbeats 1000000 in
theorem lives03 (w : World) (hL : HasLen w) :
    Calls Tryd.prog 34 #[] w fun e w' => e = .returned (.bool true) ∧ Below w.heap.size w w' := by
  have HL := Lib.hid hL
  clear hL
  go_enter Tryd.func34, Tryd.ntmps34
  go_wp2_with fail
  refine (look_at [] 1 0 _ (by decide) (by decide)).mono ?_
  rintro e w1 ⟨rfl, rfl⟩
  go_wp2_with fail
  refine (look_at [97, 32, 98] 3 1 _ (by decide) (by decide)).mono ?_
  rintro e w1 ⟨rfl, rfl⟩
  go_wp2_with fail
  refine (Tryd.strings_Repeat ⟨#[107]⟩ 251 _ (by decide) (by decide)).mono ?_
  rintro e w1 ⟨rfl, hb1⟩
  have HL1 := Lib.hid (HL.out.below hb1)
  have hB1 := hb1.size
  go_wp2_with fail
  refine (look_at (Lib.repeatL [107] 251) 2 0 _ (by decide +kernel) (by decide +kernel)).mono ?_
  rintro e w2 ⟨rfl, rfl⟩
  go_wp2_with fail
  refine (look_at [107, 101, 121] 0 0 _ (by decide) (by decide)).mono ?_
  rintro e w2 ⟨rfl, rfl⟩
  go_wp2_with fail
  refine (words_any ⟨#[32, 32, 103, 101, 116, 32, 97, 32, 32]⟩ _ (by decide) HL1.out).mono ?_
  rintro e w2 ⟨v, rfl, hv, hb2⟩
  rw [show words (bs ⟨#[32, 32, 103, 101, 116, 32, 97, 32, 32]⟩) = [[103, 101, 116], [97]] from by decide] at hv
  have hB2 : Below w.heap.size w w2 := hb1.trans (hb2.mono hB1)
  obtain ⟨g, o, c, rfl, hg, _, hc, hcm, hcells⟩ := hv.some (by simp)
  · have c0 : w2.cell? ⟨g, o, none⟩ = some (sv [103, 101, 116]) := (hcells 0 _ rfl).1
    have c1 : w2.cell? ⟨g, o + 1, none⟩ = some (sv [97]) := (hcells 1 _ rfl).1
    clear hcells
    go_wp2_with fail
    refine (room_any _ _).mono ?_
    rintro e w' ⟨rfl, rfl⟩
    rw [show roomB 1024 = true from by decide]
    go_wp2_with fail
    refine (room_any _ _).mono ?_
    rintro e w' ⟨rfl, rfl⟩
    rw [show roomB 1025 = false from by decide]
    go_wp2_with fail
    go_ret
    exact ⟨rfl, hB2⟩
end Go.Proofs.YtaokclnandjlpaaDoor
