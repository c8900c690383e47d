/- The law KeysLook returns true at every key and number. Conditions: a key that a string may be; MaxLen holds a number. -/
import Derived.Test.YtaokclnandjlpaaDoorKeysLives
namespace Go.Proofs.YtaokclnandjlpaaDoor
open Go.RowKit

set_option maxRecDepth 100000 in
set_option maxHeartbeats 1000000 in
theorem keysLook_walk (s : ByteArray) (n : Int) (w : World) (hs : s.size ≤ maxLen) (hL : HasLen w) :
    Calls Tryd.prog 7 #[.string s, .int .i64 n] w fun e w' => e = .returned (.bool true) ∧ Below w.heap.size w w' := by
  have h1 := look_any s w hs
  have h2 := refLook_any s w hs
  have h3 := ok_any s w hs
  rw [← okB_is] at h3
  have h4 := value_any s w hs
  have h5 := refValue_any s w hs
  have h6 := room_any n w
  have h7 := refRoom_any n w
  have h8 := lives03 w hL
  have hf0 := look_ge (bs s)
  generalize (look (bs s)).1 = f at *
  generalize (look (bs s)).2 = p at *
  generalize roomB s.size = r at *
  generalize roomB n = q at *
  have H1 := Lib.hid h1; have H2 := Lib.hid h2; have H3 := Lib.hid h3; have H4 := Lib.hid h4; have H5 := Lib.hid h5; have H6 := Lib.hid h6; have H7 := Lib.hid h7; have H8 := Lib.hid h8
  clear h1 h2 h3 h4 h5 h6 h7 h8 hL
  go_enter Tryd.func7, Tryd.ntmps7
  go_wp2_with (first
    | (go_at_call 36; refine H1.out.mono ?_; rintro e w' ⟨rfl, rfl⟩)
    | (go_at_call 38; refine H2.out.mono ?_; rintro e w' ⟨rfl, rfl⟩)
    | (go_at_call 37; refine H3.out.mono ?_; rintro e w' ⟨rfl, rfl⟩)
    | (go_at_call 39; refine H4.out.mono ?_; rintro e w' ⟨rfl, rfl⟩)
    | (go_at_call 40; refine H5.out.mono ?_; rintro e w' ⟨rfl, rfl⟩)
    | (go_at_call 41; refine H6.out.mono ?_; rintro e w' ⟨rfl, rfl⟩)
    | (go_at_call 42; refine H7.out.mono ?_; rintro e w' ⟨rfl, rfl⟩)
    | (go_at_call 34; refine H8.out.mono ?_; rintro e w' ⟨rfl, hb⟩))
  go_ret
  exact ⟨rfl, ‹_›⟩
end Go.Proofs.YtaokclnandjlpaaDoor
