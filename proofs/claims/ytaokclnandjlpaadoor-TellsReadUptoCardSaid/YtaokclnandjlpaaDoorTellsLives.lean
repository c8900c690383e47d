/- The chapter's examples of layer 31 hold: 'lives' answers true. Condition: the table of the powers of ten lies as the library lays it. -/
import Derived.Test.YtaokclnandjlpaaDoorTellsValueRef
namespace Go.Proofs.YtaokclnandjlpaaDoor
open Go.RowKit

abbrev lifeC : CmdD := ⟨2, none, 0, 0, ⟨0, ⟨#[]⟩, ⟨#[]⟩, 0, 0, 0, 0⟩, 0, false⟩
abbrev lifeC0 : CmdD := ⟨0, none, 0, 0, ⟨0, ⟨#[]⟩, ⟨#[]⟩, 0, 0, 0, 0⟩, 0, false⟩
abbrev lifeI : ItemD := ⟨⟨#[97]⟩, ⟨#[120, 121, 122]⟩, 5, 9, 0, 0⟩
abbrev lifeA : AnsD := ⟨11, 0, lifeI⟩
abbrev lifeI0 : ItemD := ⟨⟨#[]⟩, ⟨#[]⟩, 0, 0, 0, 0⟩
abbrev lifeA0 : AnsD := ⟨8, 12, lifeI0⟩
theorem life_value : valueOf 2 11 lifeI = [86, 65, 76, 85, 69, 32, 97, 32, 53, 32, 51, 32, 57, 13, 10, 120, 121, 122, 13, 10] := by decide +kernel
theorem life_ans : ansOf false 8 12 = [49, 50, 13, 10] := by decide +kernel
theorem life_told : tOf 1 = [69, 82, 82, 79, 82, 13, 10] := by decide +kernel
theorem lifeA_ok : lifeA.Ok := ⟨by decide, by decide, ⟨by decide, by decide, by decide, by decide⟩⟩
theorem lifeA0_ok : lifeA0.Ok := ⟨by decide, by decide, ⟨by decide, by decide, by decide, by decide⟩⟩

set_option maxHeartbeats 4000000 in
set_option maxRecDepth 100000 in
theorem lives31 (w : World) (hP : HasPow w) :
    Calls Tryd.prog 19 #[] w fun e w' => e = .returned (.bool true) ∧ Below w.heap.size w w' := by
  have HP := Lib.hid hP
  clear hP
  go_enter Tryd.func19, Tryd.ntmps19
  go_wp2_with fail
  have hb0 := (Below.refl w.heap.size w).alloc (Nat.le_refl _) (.cells #[.int .u8 11, .int .u64 0, .string ⟨#[97]⟩, .string ⟨#[120, 121, 122]⟩, .int .u32 5, .int .u64 9, .int .i64 0, .int .i64 0] 34)
  refine (value_any lifeC lifeA _ lifeA_ok (by decide) (HP.out.below hb0)).mono ?_
  rintro e w1 ⟨rfl, hb1⟩
  rw [show valueOf lifeC.verb lifeA.kind lifeA.item = [86, 65, 76, 85, 69, 32, 97, 32, 53, 32, 51, 32, 57, 13, 10, 120, 121, 122, 13, 10] from life_value]
  have HB1 := Lib.hid (hb0.trans (hb1.mono hb0.size))
  clear hb0 hb1
  go_wp2_with fail
  refine (of_any 1 _ (by decide)).mono ?_
  rintro e w2 ⟨rfl, hb2⟩
  rw [life_told]
  have HB2 := Lib.hid (HB1.out.trans (hb2.mono HB1.out.size))
  clear hb2
  go_wp2_with fail
  refine (answer_any lifeC0 lifeA0 _ lifeA0_ok (HP.out.below HB2.out)).mono ?_
  rintro e w3 ⟨rfl, hb3⟩
  rw [show ansOf lifeC0.quiet lifeA0.kind lifeA0.number = [49, 50, 13, 10] from life_ans]
  have HB3 := Lib.hid (HB2.out.trans (hb3.mono HB2.out.size))
  clear hb3
  go_wp2_with fail
  go_ret
  exact ⟨rfl, HB3.out⟩
end Go.Proofs.YtaokclnandjlpaaDoor
