/- The statement MapsCounts holds: the card, from the walk and the given tie. No condition. -/
import Derived.Test.YtaooangnnlopcaaDoorMapsCount
import Derived.Test.YtaooangnnlopcaaDoorLowI
import Derived.Test.YtaooangnnlopcaaDoorOpen0
import Derived.Test.YtaooangnnlopcaaDoorOpenText
namespace Go.Proofs.YtaooangnnlopcaaDoor.cardMapsCounts
open Go.ChangeShapes Go.WideShapes Go.ChangeAt Go.RowKit
open Go.ChangeMaps (open_string shut_string)

set_option maxRecDepth 100000 in
set_option maxHeartbeats 1000000 in
theorem contract (H : Type) (enc : TypeId × Value → H) (W : World) (base : Nat) (args : Array Value) (ds gs : List (DataW H)) (before : List MemPlace)
    (hval : ∀ (j : Nat) t v, Tryd.f4.params[j]? = some t → args[j]? = some v → Value.okWide Tryd.prog W .any base t v)
    (hW : DataW.Whole enc Tryd.prog Tryd.f4.params.toList Rows.mapsCountsSpec.vars false W args.toList ds gs before) (hL : laidMetH Tryd.prog Rows.mapsCountsRow.laid W) (_hS : W.ShapedOpen Tryd.prog) :
    Calls Tryd.prog 4 args W fun e W' => ∃ v, e = .returned v ∧ Rows.mapsCountsSpec.post enc Tryd.prog Tryd.f4 false true false false W args v W' := by
  have hW' := hW
  obtain ⟨p, q, hA0, hV, hbef, hfz, hnd⟩ := hW
  have hA : DataW.TrodAll enc Tryd.prog W 0 (fun _ => true) true Tryd.f4.params.toList args.toList ds p := hA0
  rw [Tryd.params4] at hA hval
  obtain ⟨v0, vs0, d0, ds0, p0, q0, hargs, rfl, ep0, h0, r0⟩ := trodAll_cons hA
  obtain ⟨v1, vs1, d1, ds1, p1, q1, rfl, rfl, ep1, h1, r1⟩ := trodAll_cons r0
  obtain ⟨v2, vs2, d2, ds2, p2, q2, rfl, rfl, ep2, h2, r2⟩ := trodAll_cons r1
  obtain ⟨rfl, rfl, rfl⟩ := trodAll_nil r2
  obtain rfl : args = #[v0, v1, v2] := by cases args; simp_all
  obtain ⟨rfl, rfl⟩ := trodVars_none hV
  obtain ⟨z0, rfl, rfl, rfl, wz0⟩ := open_int Tryd.underlying24 (hval 0 24 v0 rfl rfl) h0
  have bz0 := bounds_u64 wz0
  obtain ⟨k0, rfl⟩ : ∃ k : Nat, z0 = k := ⟨z0.toNat, by omega⟩
  obtain ⟨n1, m1, rfl, hn1, hm1⟩ := open_pair (hval 1 49 v1 rfl rfl) h1
  obtain ⟨i1, rfl⟩ : ∃ k : Nat, n1 = k := ⟨n1.toNat, by omega⟩
  obtain ⟨j1, rfl⟩ : ∃ k : Nat, m1 = k := ⟨m1.toNat, by omega⟩
  obtain ⟨f2, t2, rfl, ht2⟩ := open_text (hval 2 51 v2 rfl rfl) h2
  refine (mapsCounts_walk (n := k0) (b0 := i1) (b1 := j1) (f := f2) (t := t2) (by omega) (by omega) (by omega) ht2 (maps_laid hL).2 (maps_laid hL).1).mono fun e W' ⟨he, hb⟩ => ?_
  exact ⟨_, he, law_post (s := Rows.mapsCountsSpec) (f := Tryd.f4) rfl (by kernel_rfl) (by kernel_rfl) hW' (by kernel_rfl) hb⟩

theorem reads (os : Os) {H : Type} (enc : TypeId × Value → H) : ∃ places, DataW.whole enc Tryd.prog ((laidWorld os).forCall (fun _ _ => 0) ⟨#[], #[.int .u64 0, .agg #[.int .u64 0, .int .u64 0], .agg #[.int .u32 0, .string ⟨#[]⟩]], []⟩).memory Tryd.f4.params.toList Rows.mapsCountsSpec.vars false (#[.int .u64 0, .agg #[.int .u64 0, .int .u64 0], .agg #[.int .u32 0, .string ⟨#[]⟩]] : Array Value).toList 8 = some ([.lit (.int .u64 0), .agg [.lit (.int .u64 0), .lit (.int .u64 0)], .agg [.lit (.int .u32 0), .lit (.string [])]], [], places) :=
  ⟨[], by kernel_rfl⟩

set_option maxRecDepth 100000 in
theorem lifted (os : Os) (started : os.Started) (H : Type) (enc : TypeId × Value → H) (F : Stop.Interp) :
    ReturnsInHanded {} Tryd.checked os 4 .any ((OpenSpec.ofChange Rows.mapsCountsSpec).preRow enc Tryd.prog Tryd.f4 Rows.mapsCountsRow.domain false Rows.mapsCountsRow.laid) (((OpenSpec.ofChange Rows.mapsCountsSpec).at F).post enc Tryd.prog Tryd.f4 false true false false) := by
  obtain ⟨places, hx⟩ := reads os enc
  refine returnsInHanded_of_row (C := Tryd.checked) (s := OpenSpec.ofChange Rows.mapsCountsSpec) own started (by kernel_rfl) Tryd.func4
    (witness_row_atRef (enc := enc) (C := Tryd.checked) false (laidWorld os) #[.int .u64 0, .agg #[.int .u64 0, .int .u64 0], .agg #[.int .u32 0, .string ⟨#[]⟩]] rfl (world_vars os _) (world_rest os _) (by kernel_rfl)
      (OpenSpec.preRow_of_cond 8 hx (by kernel_rfl) (fun k hk => by cases hk) (by kernel_rfl) (met_maps os _))) ?_
  intro W base args ds gs before hval hW _ _ _ hL hS _
  exact contract H enc W base args ds gs before hval hW hL hS

theorem said : Rows.MapsCountsSaid :=
  OpenClaim.holds_of_cond 4 Tryd.f4 rfl rfl rfl rfl rfl rfl rfl ⟨rfl, rfl, rfl, rfl, rfl⟩ rfl rfl rfl rfl rfl (by kernel_rfl) Tryd.func4 (by kernel_rfl)
    (of_decide_eq_true (by kernel_rfl)) (by unfold Func.isWrapper; first | (rw [if_pos (by decide +kernel)]; kernel_rfl) | (rw [if_neg (by decide +kernel)]; exact ⟨rfl, rfl⟩))
    (fun os started H enc _ F => by rw [OpenClaim.pre_eq_preRow]; exact lifted os started H enc F)

theorem plain (f : FuncId) (fn : Func) (hf : Tryd.pinned.checked.prog.funcNamed "nestbox/nestboxlaw36.MapsCounts" = some f) (hfn : Tryd.pinned.checked.prog.funcs[f]? = some fn) :
    true = Tryd.pinned.checked.prog.looks [] ∧ ∀ (j : Nat) t, fn.params[j]? = some t → Tryd.pinned.checked.prog.wantsStandIn t = false := by
  obtain rfl : f = 4 := Option.some.inj ((show Tryd.prog.funcNamed "nestbox/nestboxlaw36.MapsCounts" = some 4 by kernel_rfl).symm.trans hf) |>.symm
  obtain rfl : fn = Tryd.f4 := (Option.some.inj (Tryd.func4.symm.trans hfn)).symm
  refine ⟨by kernel_rfl, fun j t ht => ?_⟩
  rw [Tryd.params4] at ht
  have hm := Array.mem_of_getElem? ht
  have hall : (#[24, 49, 51] : Array TypeId).all (fun t => Tryd.prog.wantsStandIn t == false) = true := by kernel_rfl
  exact beq_iff_eq.1 (Array.all_eq_true_iff_forall_mem.1 hall t hm)

theorem card : Rows.MapsCountsCardSaid :=
  Claim7.holds_tied_plain_at .later [] _ _ _ _ said (fun _ h => by cases h) (by kernel_rfl) (fun _ h => by cases h) mapsCounts_row_tie rfl ⟨rfl, rfl⟩ (by kernel_rfl) rfl plain (by kernel_rfl)
end Go.Proofs.YtaooangnnlopcaaDoor.cardMapsCounts
