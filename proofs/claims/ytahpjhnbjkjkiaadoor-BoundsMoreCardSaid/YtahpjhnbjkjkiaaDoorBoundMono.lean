/- Bounds grow with the config: plain. No condition. -/
import Derived.Test.YtahpjhnbjkjkiaaDoorLowM
namespace Go.Proofs.YtahpjhnbjkjkiaaDoor

/-- D has of each part no less than c, and may be. -/
structure MoreD (c D : CfgD) : Prop where
  c0 : mayC c = true
  d0 : mayC D = true
  bits : c.bits = D.bits
  budget : c.budget ≤ D.budget
  tries : c.tries ≤ D.tries
  quantum : c.quantum ≤ D.quantum
  way : c.way ≤ D.way
theorem room_more {c D : CfgD} (h : MoreD c D) : roomZ c ≤ roomZ D := by
  have h1 := (room_bd h.c0).1
  have h2 := (room_bd h.d0).1
  have := h.way
  omega
theorem turn_more {c D : CfgD} (h : MoreD c D) : turnZ c ≤ turnZ D := by
  have hr := room_more h
  have h1 := room_bd h.c0
  have hp := may_of h.c0
  have hq := h.quantum
  have h3 : c.quantum * (4 * (roomZ c + 12) + 3) ≤ D.quantum * (4 * (roomZ D + 12) + 3) :=
    Int.mul_le_mul hq (by omega) (by omega) (by have := hp.q0; omega)
  unfold turnZ
  rw [if_pos h.c0, if_pos h.d0]
  omega
theorem turn_room {c : CfgD} (h : mayC c = true) : roomZ c ≤ turnZ c := by
  have hp := may_of h
  obtain ⟨_, h1, h2⟩ := room_bd h
  have h3 := mul_bd hp.q0 hp.q1 (show 1 ≤ 4 * (roomZ c + 12) + 3 by omega) (by omega)
  unfold turnZ
  rw [if_pos h]; omega
theorem evict_more {c D : CfgD} (h : MoreD c D) : evictZ c ≤ evictZ D := by
  have hb := h.budget
  unfold evictZ
  rw [if_pos h.c0, if_pos h.d0, h.bits]
  omega
theorem steps_more {c D : CfgD} (h : MoreD c D) (v : Nat) : stepsZ c v ≤ stepsZ D v := by
  have h1 := room_more h; have h2 := turn_more h; have h3 := evict_more h; have h4 := h.tries
  have g1 : getZ c = 31 * (c.tries + 1) + 28 := rfl
  have g2 : storeZ c = turnZ c + evictZ c + 2 * roomZ c + 66 := rfl
  have g3 : changeZ c = turnZ c + 31 := rfl
  have e1 : getZ D = 31 * (D.tries + 1) + 28 := rfl
  have e2 : storeZ D = turnZ D + evictZ D + 2 * roomZ D + 66 := rfl
  have e3 : changeZ D = turnZ D + 31 := rfl
  unfold stepsZ
  rw [if_pos h.c0, if_pos h.d0]
  match v with
  | 0 => simp
  | 1 => simp; omega
  | 2 => simp; omega
  | 3 => simp; omega
  | 4 => simp; omega
  | 5 => simp; omega
  | 6 => simp; omega
  | 7 => simp; omega
  | 8 => simp; omega
  | 9 => simp; omega
  | 10 => simp; omega
  | 11 => simp
  | n + 12 => simp
theorem steps_four {c : CfgD} (h : mayC c = true) {v : Nat} (h0 : 1 ≤ v) (h11 : v ≤ 11) : 4 ≤ stepsZ c v := by
  have hp := may_of h
  have := hp.t0
  have := room_bd h; have := turn_bd h; have := evict_bd h
  have g1 : getZ c = 31 * (c.tries + 1) + 28 := rfl
  have g2 : storeZ c = turnZ c + evictZ c + 2 * roomZ c + 66 := rfl
  have g3 : changeZ c = turnZ c + 31 := rfl
  unfold stepsZ
  rw [if_pos h]
  match v, h0, h11 with
  | 1, _, _ => simp; omega
  | 2, _, _ => simp; omega
  | 3, _, _ => simp; omega
  | 4, _, _ => simp; omega
  | 5, _, _ => simp; omega
  | 6, _, _ => simp; omega
  | 7, _, _ => simp; omega
  | 8, _, _ => simp; omega
  | 9, _, _ => simp; omega
  | 10, _, _ => simp; omega
  | 11, _, _ => simp
  | n + 12, _, h => omega
theorem windows_more {c D : CfgD} (h : MoreD c D) : ∀ vs : List Nat, windowsZ c vs ≤ windowsZ D vs
  | [] => Int.le_refl _
  | v :: vs => by
    have h1 := steps_more h v
    have h2 := windows_more h vs
    unfold windowsZ at *
    rw [List.map_cons, List.map_cons, List.sum_cons, List.sum_cons]
    omega
theorem windows_push (c : CfgD) (vs : List Nat) (v : Nat) : windowsZ c (vs ++ [v]) = windowsZ c vs + stepsZ c v := by
  unfold windowsZ
  simp
theorem moreWay {c : CfgD} {z : Nat} (h : mayC c = true) : MoreD c { c with way := min (c.way + z) 256 } := by
  have hp := may_of h
  have := hp.y0; have := hp.y1
  exact ⟨h, may_mk ⟨hp.b0, hp.b1, hp.u0, hp.u1, hp.t0, hp.t1, hp.q0, hp.q1, by show 2 ≤ min _ _; omega, by show min _ _ ≤ 256; omega⟩, rfl, Int.le_refl _, Int.le_refl _, Int.le_refl _, by show _ ≤ min _ _; omega⟩
theorem moreQuantum {c : CfgD} {z : Nat} (h : mayC c = true) : MoreD c { c with quantum := min (c.quantum + z) 8 } := by
  have hp := may_of h
  have := hp.q0; have := hp.q1
  exact ⟨h, may_mk ⟨hp.b0, hp.b1, hp.u0, hp.u1, hp.t0, hp.t1, by show 1 ≤ min _ _; omega, by show min _ _ ≤ 8; omega, hp.y0, hp.y1⟩, rfl, Int.le_refl _, Int.le_refl _, by show _ ≤ min _ _; omega, Int.le_refl _⟩
theorem moreBudget {c : CfgD} {z : Nat} (h : mayC c = true) : MoreD c { c with budget := min (c.budget + z) 65536 } := by
  have hp := may_of h
  have := hp.u0; have := hp.u1
  exact ⟨h, may_mk ⟨hp.b0, hp.b1, by show 1 ≤ min _ _; omega, by show min _ _ ≤ 65536; omega, hp.t0, hp.t1, hp.q0, hp.q1, hp.y0, hp.y1⟩, rfl, by show _ ≤ min _ _; omega, Int.le_refl _, Int.le_refl _, Int.le_refl _⟩
theorem moreTries {c : CfgD} {z : Nat} (h : mayC c = true) : MoreD c { c with tries := min (c.tries + z) 16 } := by
  have hp := may_of h
  have := hp.t0; have := hp.t1
  exact ⟨h, may_mk ⟨hp.b0, hp.b1, hp.u0, hp.u1, by show 0 ≤ min _ _; omega, by show min _ _ ≤ 16; omega, hp.q0, hp.q1, hp.y0, hp.y1⟩, rfl, Int.le_refl _, by show _ ≤ min _ _; omega, Int.le_refl _, Int.le_refl _⟩
end Go.Proofs.YtahpjhnbjkjkiaaDoor
