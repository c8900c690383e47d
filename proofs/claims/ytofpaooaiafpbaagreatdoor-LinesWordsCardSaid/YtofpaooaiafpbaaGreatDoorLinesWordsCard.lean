/- The statement LinesWords holds: the card, from the walk and the given tie. No condition. -/
import Derived.Test.YtofpaooaiafpbaaGreatDoorLinesWords
import Derived.Test.YtofpaooaiafpbaaGreatDoorLaid
import Derived.Test.YtofpaooaiafpbaaGreatDoorOpenQuad
import Derived.Test.YtofpaooaiafpbaaGreatDoorClose
import Derived.Test.YtofpaooaiafpbaaGreatDoorWitness
namespace Go.Proofs.YtofpaooaiafpbaaGreatDoor.cardLinesWords
open Go.ChangeShapes Go.WideShapes Go.ChangeAt Go.RowKit
open Go.ChangeMaps (open_string shut_string)

set_option maxRecDepth 100000 in
set_option maxHeartbeats 1000000 in
theorem contract (H : Type) (enc : TypeId × Value → H) (W : World) (base : Nat) (args : Array Value) (ds gs : List (DataW H)) (before : List MemPlace)
    (hval : ∀ (j : Nat) t v, Tryz.f5.params[j]? = some t → args[j]? = some v → Value.okWide Tryz.prog W .any base t v)
    (hW : DataW.Whole enc Tryz.prog Tryz.f5.params.toList Rows.linesWordsSpec.vars false W args.toList ds gs before) (hL : laidMetH Tryz.prog Rows.linesWordsRow.laid W) (hS : W.ShapedOpen Tryz.prog) :
    Calls Tryz.prog 5 args W fun e W' => ∃ v, e = .returned v ∧ Rows.linesWordsSpec.post enc Tryz.prog Tryz.f5 false true false false W args v W' := by
  have hW' := hW
  obtain ⟨p, q, hA0, hV, hbef, hfz, hnd⟩ := hW
  have hA : DataW.TrodAll enc Tryz.prog W 0 (fun _ => true) true Tryz.f5.params.toList args.toList ds p := hA0
  rw [Tryz.params5] at hA hval
  obtain ⟨v0, vs0, d0, ds0, p0, q0, hargs, rfl, ep0, h0, r0⟩ := trodAll_cons hA
  obtain ⟨v1, vs1, d1, ds1, p1, q1, rfl, rfl, ep1, h1, r1⟩ := trodAll_cons r0
  obtain ⟨v2, vs2, d2, ds2, p2, q2, rfl, rfl, ep2, h2, r2⟩ := trodAll_cons r1
  obtain ⟨rfl, rfl, rfl⟩ := trodAll_nil r2
  obtain rfl : args = #[v0, v1, v2] := by cases args; simp_all
  obtain ⟨rfl, rfl⟩ := trodVars_none hV
  obtain ⟨z0, rfl, rfl, rfl, wz0⟩ := open_int Tryz.underlying5 (hval 0 5 v0 rfl rfl) h0
  have bz0 := bounds_u8 wz0
  obtain ⟨k0, rfl⟩ : ∃ k : Nat, z0 = k := ⟨z0.toNat, by omega⟩
  obtain ⟨na1, nb1, nc1, nd1, rfl, ha1, hb1, hc1, hd1⟩ := open_quad (hval 1 45 v1 rfl rfl) h1
  obtain ⟨z2, rfl, rfl, rfl, wz2⟩ := open_int Tryz.underlying5 (hval 2 5 v2 rfl rfl) h2
  have bz2 := bounds_u8 wz2
  obtain ⟨k2, rfl⟩ : ∃ k : Nat, z2 = k := ⟨z2.toNat, by omega⟩
  refine (linesWords_walk k0 na1 nb1 nc1 nd1 k2 W (by omega) ha1 hb1 hc1 hd1 (by omega) (HasLen.of_shaped hS) (words_laid hL).2 (words_laid hL).1).mono fun e W' ⟨he, hb⟩ => ?_
  exact ⟨_, he, law_post (s := Rows.linesWordsSpec) (f := Tryz.f5) rfl (by kernel_rfl) (by kernel_rfl) hW' (by kernel_rfl) hb⟩

theorem reads (os : Os) {H : Type} (enc : TypeId × Value → H) : ∃ places, DataW.whole enc Tryz.prog ((World.laidAll Tryz.prog os Rows.linesWordsRow.laid).forCall (fun _ _ => 0) ⟨#[], #[.int .u8 0, .agg #[.int .u16 0, .int .u16 0, .int .u16 0, .int .u16 0], .int .u8 0], []⟩).memory Tryz.f5.params.toList Rows.linesWordsSpec.vars false (#[.int .u8 0, .agg #[.int .u16 0, .int .u16 0, .int .u16 0, .int .u16 0], .int .u8 0] : Array Value).toList 8 = some ([.lit (.int .u8 0), .agg [.lit (.int .u16 0), .lit (.int .u16 0), .lit (.int .u16 0), .lit (.int .u16 0)], .lit (.int .u8 0)], [], places) :=
  ⟨[], by kernel_rfl⟩

set_option maxRecDepth 100000 in
theorem lifted (os : Os) (started : os.Started) (H : Type) (enc : TypeId × Value → H) (F : Stop.Interp) :
    ReturnsInHanded {} Tryz.checked os 5 .any ((OpenSpec.ofChange Rows.linesWordsSpec).preRow enc Tryz.prog Tryz.f5 Rows.linesWordsRow.domain false Rows.linesWordsRow.laid) (((OpenSpec.ofChange Rows.linesWordsSpec).at F).post enc Tryz.prog Tryz.f5 false true false false) := by
  obtain ⟨places, hx⟩ := reads os enc
  refine returnsInHanded_of_row (C := Tryz.checked) (s := OpenSpec.ofChange Rows.linesWordsSpec) own started (by kernel_rfl) Tryz.func5
    (witness_row_shaped (enc := enc) (C := Tryz.checked) false (World.laidAll Tryz.prog os Rows.linesWordsRow.laid) #[.int .u8 0, .agg #[.int .u16 0, .int .u16 0, .int .u16 0, .int .u16 0], .int .u8 0] (World.laidAll_os _ _ _) (World.shaped_of_ZipB (by kernel_rfl) (by kernel_rfl)) (by kernel_rfl)
      (OpenSpec.preRow_of_cond 8 hx (by kernel_rfl) (fun k hk => by cases hk) (by kernel_rfl) (laidMet_laidAll _ (by kernel_rfl) (by kernel_rfl)))) ?_
  intro W base args ds gs before hval hW _ _ _ hL hS _
  exact contract H enc W base args ds gs before hval hW hL hS

theorem said : Rows.LinesWordsSaid :=
  OpenClaim.holds_of_cond 5 Tryz.f5 rfl rfl rfl rfl rfl rfl rfl ⟨rfl, rfl, rfl, rfl, rfl⟩ rfl rfl rfl rfl rfl (by kernel_rfl) Tryz.func5 (by kernel_rfl)
    (of_decide_eq_true (by kernel_rfl)) (by unfold Func.isWrapper; first | (rw [if_pos (by decide +kernel)]; kernel_rfl) | (rw [if_neg (by decide +kernel)]; exact ⟨rfl, rfl⟩))
    (fun os started H enc _ F => by rw [OpenClaim.pre_eq_preRow]; exact lifted os started H enc F)

theorem plain (f : FuncId) (fn : Func) (hf : Tryz.pinned.checked.prog.funcNamed "nestbox/nestboxlaw29.LinesWords" = some f) (hfn : Tryz.pinned.checked.prog.funcs[f]? = some fn) :
    true = Tryz.pinned.checked.prog.looks [] ∧ ∀ (j : Nat) t, fn.params[j]? = some t → Tryz.pinned.checked.prog.wantsStandIn t = false := by
  obtain rfl : f = 5 := Option.some.inj ((show Tryz.prog.funcNamed "nestbox/nestboxlaw29.LinesWords" = some 5 by kernel_rfl).symm.trans hf) |>.symm
  obtain rfl : fn = Tryz.f5 := (Option.some.inj (Tryz.func5.symm.trans hfn)).symm
  refine ⟨by kernel_rfl, fun j t ht => ?_⟩
  rw [Tryz.params5] at ht
  have hm := Array.mem_of_getElem? ht
  have hall : (#[5, 45, 5] : Array TypeId).all (fun t => Tryz.prog.wantsStandIn t == false) = true := by kernel_rfl
  exact beq_iff_eq.1 (Array.all_eq_true_iff_forall_mem.1 hall t hm)

theorem card : Rows.LinesWordsCardSaid :=
  Claim7.holds_tied_plain_at .later [] _ _ _ _ said (fun _ h => by cases h) (by kernel_rfl) (fun _ h => by cases h) linesWords_row_tie rfl ⟨rfl, rfl⟩ (by kernel_rfl) rfl plain (by kernel_rfl)
end Go.Proofs.YtofpaooaiafpbaaGreatDoor.cardLinesWords
