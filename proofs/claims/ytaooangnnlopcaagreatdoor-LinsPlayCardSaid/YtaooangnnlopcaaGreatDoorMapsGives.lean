/- What maps.gives gives, whatever the call. Condition: the map lies behind its pointer; the library's tables lie as they are laid. -/
import Derived.Test.YtaooangnnlopcaaGreatDoorMapsGive
namespace Go.Proofs.YtaooangnnlopcaaGreatDoor
open Go.RowKit
/-- What is handed back. -/
def givesR (m : MapM) (c : CallD) (ep : Nat) : Value := match givesM m c ep with
  | none => .tuple #[.agg givZero, .bool false, .bool false]
  | some g => .tuple #[.agg (givCells g), .bool (atL m.L c.key).isSome, .bool true]
theorem givesR_none {m : MapM} {c : CallD} {ep : Nat} (h : givesM m c ep = none) : givesR m c ep = .tuple #[.agg givZero, .bool false, .bool false] := by unfold givesR; rw [h]
theorem givesR_some {m : MapM} {c : CallD} {ep : Nat} {g : GivD} (h : givesM m c ep = some g) : givesR m c ep = .tuple #[.agg (givCells g), .bool (atL m.L c.key).isSome, .bool true] := by unfold givesR; rw [h]
theorem run_cas (args : Array Value) (W : World) : (callFunc 72 args).run Tryz.prog W = .ok (.enter 72 args) W := by kernel_rfl
theorem run_deletes (args : Array Value) (W : World) : (callFunc 73 args).run Tryz.prog W = .ok (.enter 73 args) W := by kernel_rfl
theorem run_flushes (args : Array Value) (W : World) : (callFunc 80 args).run Tryz.prog W = .ok (.enter 80 args) W := by kernel_rfl
theorem run_stores (args : Array Value) (W : World) : (callFunc 69 args).run Tryz.prog W = .ok (.enter 69 args) W := by kernel_rfl
theorem run_touches (args : Array Value) (W : World) : (callFunc 74 args).run Tryz.prog W = .ok (.enter 74 args) W := by kernel_rfl
theorem run_verbs_1 (args : Array Value) (W : World) : (callFunc 67 args).run Tryz.prog W = .ok (.enter 67 args) W := by kernel_rfl
theorem run_verbs_2 (args : Array Value) (W : World) : (callFunc 70 args).run Tryz.prog W = .ok (.enter 70 args) W := by kernel_rfl
theorem run_verbs_3 (args : Array Value) (W : World) : (callFunc 71 args).run Tryz.prog W = .ok (.enter 71 args) W := by kernel_rfl
theorem run_verbs_4 (args : Array Value) (W : World) : (callFunc 75 args).run Tryz.prog W = .ok (.enter 75 args) W := by kernel_rfl
theorem run_verbs_5 (args : Array Value) (W : World) : (callFunc 78 args).run Tryz.prog W = .ok (.enter 78 args) W := by kernel_rfl
section
variable (c : CallD) (ep : Nat) (was : ItemD) (has there : Bool) (next : Nat)
theorem incr_all (w : World) (hE : HasErr w) (hP : HasPow w) (hby : 0 ≤ c.by' ∧ c.by' ≤ 18446744073709551615) : Calls Tryz.prog 76 #[.agg (askedCells c ep was has there next), .func (.func 77) #[] #[]] w fun e w' => e = .returned (.agg (givCells (countG true c ep next was there))) ∧ Below w.heap.size w w' := by
  unfold countG
  cases there
  · rw [if_neg (by simp)]
    cases hp : parseN (bs was.value) with
    | none => exact incr_no c ep was has next w 0 false hE (by rw [parseV_none hp]; rfl)
    | some u => exact incr_no c ep was has next w u true hE (parseV_some hp)
  · rw [if_pos rfl]
    cases hp : parseN (bs was.value) with
    | none => exact incr_bad c ep was has next w 0 hE (by rw [parseV_none hp]; rfl)
    | some u =>
      have hu := parse_lt hp
      exact incr_yes c ep was has next w u (countN true u c.by'.toNat) hE (parseV_some hp) hP hu (by unfold countN; simp only [if_true]; omega) hby (by unfold countN; rw [if_pos rfl, IntKind.wrap_u64]; omega)
theorem decr_all (w : World) (hE : HasErr w) (hP : HasPow w) (hby : 0 ≤ c.by' ∧ c.by' ≤ 18446744073709551615) : Calls Tryz.prog 76 #[.agg (askedCells c ep was has there next), .func (.func 79) #[] #[]] w fun e w' => e = .returned (.agg (givCells (countG false c ep next was there))) ∧ Below w.heap.size w w' := by
  unfold countG
  cases there
  · rw [if_neg (by simp)]
    cases hp : parseN (bs was.value) with
    | none => exact decr_no c ep was has next w 0 false hE (by rw [parseV_none hp]; rfl)
    | some u => exact decr_no c ep was has next w u true hE (parseV_some hp)
  · rw [if_pos rfl]
    cases hp : parseN (bs was.value) with
    | none => exact decr_bad c ep was has next w 0 hE (by rw [parseV_none hp]; rfl)
    | some u =>
      have hu := parse_lt hp
      exact decr_yes c ep was has next w u (countN false u c.by'.toNat) hE (parseV_some hp) hP hu (by unfold countN; rw [if_neg (by simp)]; omega) hby (by unfold countN; rw [if_neg (by simp)]; unfold decrN; split <;> omega)
end
section
variable {w : World} {p : Nat} {m : MapM} {c : CallD} {ep : Nat}
set_option maxHeartbeats 4000000 in
theorem gives_any (h : MapAt w p m) (hme : m.epoch < 18446744073709551616) (he : ep < 18446744073709551616) (hkl : c.key.size ≤ maxLen) (hv0 : 0 ≤ c.verb ∧ c.verb ≤ 255) (hx : -9223372036854775808 ≤ c.exp ∧ c.exp ≤ 9223372036854775807) (hby : 0 ≤ c.by' ∧ c.by' ≤ 18446744073709551615) (hid : m.ids < 18446744073709551615) (hE : HasErr w) (hP : HasPow w) :
    Calls Tryz.prog 35 #[.pointer (some ⟨p, 0, none⟩), .agg #[.int .u8 c.verb, .string c.key, .string c.value, .int .u32 c.flags, .int .i64 c.exp, .int .u64 c.id, .int .u64 c.by'], .int .u64 (ep : Int)] w fun e w' => e = .returned (givesR m c ep) ∧ Below w.heap.size w w' := by
  cases hc : comesE m.epoch ep
  · rw [givesR_none (by unfold givesM mayE; rw [hc]; rfl)]
    exact gives_late h hme he hc
  · by_cases hk : c.verb = 11 ∨ okB (bs c.key) = true
    · have hk' : c.verb ≠ 11 → okB (bs c.key) = true := fun hn => hk.resolve_left hn
      have hmay : mayE m c ep = true := by
        unfold mayE
        rw [hc, Bool.true_and, Bool.or_eq_true, beq_iff_eq]
        exact hk
      have hgm : givesM m c ep = givesV c ep (m.ids + 1) (wasL m.L c.key) (thereL m.L c.key ep) := by unfold givesM; rw [if_pos hmay]
      by_cases hv : 1 ≤ c.verb ∧ c.verb ≤ 11
      · have hcases : c.verb = 1 ∨ c.verb = 2 ∨ c.verb = 3 ∨ c.verb = 4 ∨ c.verb = 5 ∨ c.verb = 6 ∨ c.verb = 7 ∨ c.verb = 8 ∨ c.verb = 9 ∨ c.verb = 10 ∨ c.verb = 11 := by omega
        rcases hcases with hv1 | hv1 | hv1 | hv1 | hv1 | hv1 | hv1 | hv1 | hv1 | hv1 | hv1
        · have hF : Instr.findNow (.int .u8) (.int .u8 c.verb) verbEs.toList 0 = some (some (0, .func (.func 67) #[] #[])) := by rw [hv1]; rfl
          cases hth : thereL m.L c.key ep
          · rw [givesR_some (hgm.trans (show _ = some (saysG 12 ep) from by rw [hth]; simp [givesV, hv1]))]
            exact gives_go h hme he hkl hc hk' hv0 hF hid run_verbs_1 (fun W hW => by rw [hth]; exact get_no c ep (wasL m.L c.key) (atL m.L c.key).isSome (m.ids + 1) W)
          · rw [givesR_some (hgm.trans (show _ = some (hitG (wasL m.L c.key) ep) from by rw [hth]; simp [givesV, hv1]))]
            exact gives_go h hme he hkl hc hk' hv0 hF hid run_verbs_1 (fun W hW => by rw [hth]; exact get_yes c ep (wasL m.L c.key) (atL m.L c.key).isSome (m.ids + 1) W)
        · have hF : Instr.findNow (.int .u8) (.int .u8 c.verb) verbEs.toList 0 = some (some (1, .func (.func 67) #[] #[])) := by rw [hv1]; rfl
          cases hth : thereL m.L c.key ep
          · rw [givesR_some (hgm.trans (show _ = some (saysG 12 ep) from by rw [hth]; simp [givesV, hv1]))]
            exact gives_go h hme he hkl hc hk' hv0 hF hid run_verbs_1 (fun W hW => by rw [hth]; exact get_no c ep (wasL m.L c.key) (atL m.L c.key).isSome (m.ids + 1) W)
          · rw [givesR_some (hgm.trans (show _ = some (hitG (wasL m.L c.key) ep) from by rw [hth]; simp [givesV, hv1]))]
            exact gives_go h hme he hkl hc hk' hv0 hF hid run_verbs_1 (fun W hW => by rw [hth]; exact get_yes c ep (wasL m.L c.key) (atL m.L c.key).isSome (m.ids + 1) W)
        · have hF : Instr.findNow (.int .u8) (.int .u8 c.verb) verbEs.toList 0 = some (some (2, .func (.func 69) #[] #[])) := by rw [hv1]; rfl
          rw [givesR_some (hgm.trans (show _ = some (storesG c ep (m.ids + 1)) from by simp [givesV, hv1]))]
          exact gives_go h hme he hkl hc hk' hv0 hF hid run_stores (fun W hW => stores_any c ep (wasL m.L c.key) (atL m.L c.key).isSome (thereL m.L c.key ep) (m.ids + 1) he hx W)
        · have hF : Instr.findNow (.int .u8) (.int .u8 c.verb) verbEs.toList 0 = some (some (3, .func (.func 70) #[] #[])) := by rw [hv1]; rfl
          cases hth : thereL m.L c.key ep
          · rw [givesR_some (hgm.trans (show _ = some (storesG c ep (m.ids + 1)) from by rw [hth]; simp [givesV, hv1]))]
            exact gives_go h hme he hkl hc hk' hv0 hF hid run_verbs_2 (fun W hW => by rw [hth]; exact add_no c ep (wasL m.L c.key) (atL m.L c.key).isSome (m.ids + 1) he hx W)
          · rw [givesR_some (hgm.trans (show _ = some (saysG 2 ep) from by rw [hth]; simp [givesV, hv1]))]
            exact gives_go h hme he hkl hc hk' hv0 hF hid run_verbs_2 (fun W hW => by rw [hth]; exact add_yes c ep (wasL m.L c.key) (atL m.L c.key).isSome (m.ids + 1) W)
        · have hF : Instr.findNow (.int .u8) (.int .u8 c.verb) verbEs.toList 0 = some (some (4, .func (.func 71) #[] #[])) := by rw [hv1]; rfl
          cases hth : thereL m.L c.key ep
          · rw [givesR_some (hgm.trans (show _ = some (saysG 2 ep) from by rw [hth]; simp [givesV, hv1]))]
            exact gives_go h hme he hkl hc hk' hv0 hF hid run_verbs_3 (fun W hW => by rw [hth]; exact repl_no c ep (wasL m.L c.key) (atL m.L c.key).isSome (m.ids + 1) W)
          · rw [givesR_some (hgm.trans (show _ = some (storesG c ep (m.ids + 1)) from by rw [hth]; simp [givesV, hv1]))]
            exact gives_go h hme he hkl hc hk' hv0 hF hid run_verbs_3 (fun W hW => by rw [hth]; exact repl_yes c ep (wasL m.L c.key) (atL m.L c.key).isSome (m.ids + 1) he hx W)
        · have hF : Instr.findNow (.int .u8) (.int .u8 c.verb) verbEs.toList 0 = some (some (5, .func (.func 72) #[] #[])) := by rw [hv1]; rfl
          cases hth : thereL m.L c.key ep
          · rw [givesR_some (hgm.trans (show _ = some (saysG 4 ep) from by rw [hth]; simp [givesV, hv1, casG]))]
            exact gives_go h hme he hkl hc hk' hv0 hF hid run_cas (fun W hW => by rw [hth]; exact cas_no c ep (wasL m.L c.key) (atL m.L c.key).isSome (m.ids + 1) W)
          · by_cases hi : (wasL m.L c.key).id = c.id
            · rw [givesR_some (hgm.trans (show _ = some (storesG c ep (m.ids + 1)) from by rw [hth]; simp [givesV, hv1, casG, hi]))]
              exact gives_go h hme he hkl hc hk' hv0 hF hid run_cas (fun W hW => by rw [hth]; exact cas_yes c ep (wasL m.L c.key) (atL m.L c.key).isSome (m.ids + 1) (by rw [bne_eq_false_iff_eq]; exact hi) he hx W)
            · rw [givesR_some (hgm.trans (show _ = some (saysG 3 ep) from by rw [hth]; simp [givesV, hv1, casG, hi]))]
              exact gives_go h hme he hkl hc hk' hv0 hF hid run_cas (fun W hW => by rw [hth]; exact cas_other c ep (wasL m.L c.key) (atL m.L c.key).isSome (m.ids + 1) (by rw [bne_iff_ne]; exact hi) W)
        · have hF : Instr.findNow (.int .u8) (.int .u8 c.verb) verbEs.toList 0 = some (some (6, .func (.func 73) #[] #[])) := by rw [hv1]; rfl
          cases hth : thereL m.L c.key ep
          · rw [givesR_some (hgm.trans (show _ = some (saysG 4 ep) from by rw [hth]; simp [givesV, hv1]))]
            exact gives_go h hme he hkl hc hk' hv0 hF hid run_deletes (fun W hW => by rw [hth]; exact del_no c ep (wasL m.L c.key) (atL m.L c.key).isSome (m.ids + 1) W)
          · rw [givesR_some (hgm.trans (show _ = some (goneG ep) from by rw [hth]; simp [givesV, hv1]))]
            exact gives_go h hme he hkl hc hk' hv0 hF hid run_deletes (fun W hW => by rw [hth]; exact del_yes c ep (wasL m.L c.key) (atL m.L c.key).isSome (m.ids + 1) W)
        · have hF : Instr.findNow (.int .u8) (.int .u8 c.verb) verbEs.toList 0 = some (some (7, .func (.func 74) #[] #[])) := by rw [hv1]; rfl
          cases hth : thereL m.L c.key ep
          · rw [givesR_some (hgm.trans (show _ = some (saysG 4 ep) from by rw [hth]; simp [givesV, hv1]))]
            exact gives_go h hme he hkl hc hk' hv0 hF hid run_touches (fun W hW => by rw [hth]; exact touch_no c ep (wasL m.L c.key) (atL m.L c.key).isSome (m.ids + 1) W)
          · rw [givesR_some (hgm.trans (show _ = some (touchG c ep (wasL m.L c.key)) from by rw [hth]; simp [givesV, hv1]))]
            exact gives_go h hme he hkl hc hk' hv0 hF hid run_touches (fun W hW => by rw [hth]; exact touch_yes c ep (wasL m.L c.key) (atL m.L c.key).isSome (m.ids + 1) he hx W)
        · have hF : Instr.findNow (.int .u8) (.int .u8 c.verb) verbEs.toList 0 = some (some (8, .func (.func 75) #[] #[])) := by rw [hv1]; rfl
          rw [givesR_some (hgm.trans (show _ = some (countG true c ep (m.ids + 1) (wasL m.L c.key) (thereL m.L c.key ep)) from by simp [givesV, hv1]))]
          exact gives_go h hme he hkl hc hk' hv0 hF hid run_verbs_4 (fun W hW => incrV c ep (wasL m.L c.key) (atL m.L c.key).isSome (thereL m.L c.key ep) (m.ids + 1) _ W (fun W' hW' => incr_all c ep (wasL m.L c.key) (atL m.L c.key).isSome (thereL m.L c.key ep) (m.ids + 1) W' (hE.below (hW.trans (hW'.mono hW.size))) (hP.below (hW.trans (hW'.mono hW.size))) hby))
        · have hF : Instr.findNow (.int .u8) (.int .u8 c.verb) verbEs.toList 0 = some (some (9, .func (.func 78) #[] #[])) := by rw [hv1]; rfl
          rw [givesR_some (hgm.trans (show _ = some (countG false c ep (m.ids + 1) (wasL m.L c.key) (thereL m.L c.key ep)) from by simp [givesV, hv1]))]
          exact gives_go h hme he hkl hc hk' hv0 hF hid run_verbs_5 (fun W hW => decrV c ep (wasL m.L c.key) (atL m.L c.key).isSome (thereL m.L c.key ep) (m.ids + 1) _ W (fun W' hW' => decr_all c ep (wasL m.L c.key) (atL m.L c.key).isSome (thereL m.L c.key ep) (m.ids + 1) W' (hE.below (hW.trans (hW'.mono hW.size))) (hP.below (hW.trans (hW'.mono hW.size))) hby))
        · have hF : Instr.findNow (.int .u8) (.int .u8 c.verb) verbEs.toList 0 = some (some (10, .func (.func 80) #[] #[])) := by rw [hv1]; rfl
          obtain ⟨fw, fb, hf⟩ : ∃ fw fb, flushE ep c.exp = (fw, fb) := ⟨_, _, rfl⟩
          cases fb
          · rw [givesR_some (hgm.trans (show _ = some (saysG 5 ep) from by simp [givesV, hv1, flushG, hf]))]
            exact gives_go h hme he hkl hc hk' hv0 hF hid run_flushes (fun W hW => flushes_no c ep (wasL m.L c.key) (atL m.L c.key).isSome (thereL m.L c.key ep) (m.ids + 1) fw he hf W)
          · rw [givesR_some (hgm.trans (show _ = some (⟨⟨10, 0, noItem⟩, noItem, false, false, false, false, fw⟩ : GivD) from by simp [givesV, hv1, flushG, hf]))]
            exact gives_go h hme he hkl hc hk' hv0 hF hid run_flushes (fun W hW => flushes_yes c ep (wasL m.L c.key) (atL m.L c.key).isSome (thereL m.L c.key ep) (m.ids + 1) fw he hf W)
      · have hno : ∀ k : Nat, 1 ≤ k → k ≤ 11 → c.verb ≠ (k : Int) := fun k h1 h2 e => hv (by omega)
        rw [givesR_none (hgm.trans (by
          unfold givesV
          have n1 := hno 1 (by omega) (by omega); have n2 := hno 2 (by omega) (by omega); have n3 := hno 3 (by omega) (by omega); have n4 := hno 4 (by omega) (by omega); have n5 := hno 5 (by omega) (by omega); have n6 := hno 6 (by omega) (by omega)
          have n7 := hno 7 (by omega) (by omega); have n8 := hno 8 (by omega) (by omega); have n9 := hno 9 (by omega) (by omega); have n10 := hno 10 (by omega) (by omega); have n11 := hno 11 (by omega) (by omega)
          rw [if_neg (by omega), if_neg (by omega), if_neg (by omega), if_neg (by omega), if_neg (by omega), if_neg (by omega), if_neg (by omega), if_neg (by omega), if_neg (by omega), if_neg (by omega)]))]
        exact gives_no h hme he hkl hc hk' hv0 hno
    · have hv : c.verb ≠ 11 := fun e => hk (.inl e)
      have ho : okB (bs c.key) = false := by
        cases hh : okB (bs c.key)
        · rfl
        · exact absurd (.inr hh) hk
      rw [givesR_none (by unfold givesM mayE; rw [hc, ho, beq_eq_false_iff_ne.2 hv]; rfl)]
      exact gives_wrong h hme he hkl hc hv ho
end
end Go.Proofs.YtaooangnnlopcaaGreatDoor
