/- stores, machines: the phases of the example stay, and what their worlds count; Got. No condition. -/
import Derived.Test.YtfajddlijgpgoaaGreatDoorMfB
import Derived.Test.YtfajddlijgpgoaaGreatDoorMNewStore
import Derived.Test.YtfajddlijgpgoaaGreatDoorLowA
namespace Go.Proofs.YtfajddlijgpgoaaGreatDoor
open Go.RowKit Go.ChangeMaps Go.MapKept

theorem results_row_tmp2 {P : Program} {fn : Func} {p u u2 : Tmp} {ty : TypeId} (h : fn.results = #[.cell p ty, .tmp u, .tmp u2]) (tmps : Array Value) (w : World) (g : Nat) (t : TypeId) (cs : Array Value) (fr : Nat × Nat) (d : TypeDesc)
    (hp : tmps.getD p undef = .pointer (some ⟨g, 0, none⟩)) (hg : w.heap[g]? = some (.cells cs t fr))
    (hu : P.underlying ty = some d) (hd : (match d with | .struct _ | .array _ _ => true | _ => false) = true) (hi : (P.info? ty).map (·.size) = some cs.size) (v v2 : Value) (hv : tmps.getD u undef = v) (hv2 : tmps.getD u2 undef = v2) :
    (results fn tmps).run P w = .ok (.tuple #[.agg cs, v, v2]) w := by
  have hp' : tmps[p]?.getD undef = .pointer (some ⟨g, 0, none⟩) := by simpa using hp
  have h1 : tmps[u]?.getD undef = v := by simpa using hv
  have h2 : tmps[u2]?.getD undef = v2 := by simpa using hv2
  simp [results, h, hp', h1, h2, asAddr, run_loadVar_row w g t ty cs fr d hg hu hd hi, Result.andThen]
set_option maxRecDepth 100000 in
set_option maxHeartbeats 4000000 in
theorem storeGot_any {A : Thing} {x : Nat} {thn : Value} {m : StM} {w : World} {S : Nat → Prop} (h : Star A (StoreB x .nilIface thn .nilFunc m) w S) :
    Calls Tryz.prog 376 #[ptrN x] w fun e w' => e = .returned (.tuple #[.agg #[.int .u8 (m.kind : Int), .int .u64 (m.num : Int), .string ⟨#[]⟩, .string ⟨#[]⟩, .int .u32 0, .int .u64 0, .int .i64 0, .int .i64 0], .int .u64 (m.epoch : Int), .int .i64 (m.point : Int)]) ∧ Below w.heap.size w w' := by
  obtain ⟨w1, hw1⟩ : ∃ X, X = w.alloc (.cells #[.int .u8 0, .int .u64 0, .string ⟨#[]⟩, .string ⟨#[]⟩, .int .u32 0, .int .u64 0, .int .i64 0, .int .i64 0] 44) := ⟨_, rfl⟩
  obtain ⟨rb, hrb⟩ : ∃ X, X = w.heap.size := ⟨_, rfl⟩
  have hb1 : Below w.heap.size w w1 := by rw [hw1]; exact (Below.refl _ _).alloc (Nat.le_refl _) _
  have hq1 : w1.heap[rb]? = some (.cells #[.int .u8 0, .int .u64 0, .string ⟨#[]⟩, .string ⟨#[]⟩, .int .u32 0, .int .u64 0, .int .i64 0, .int .i64 0] 44 (0, 0)) := by rw [hw1, hrb]; exact heap_mem w _
  have hc : ∀ {j : Nat} {v : Value}, (storeCells .nilIface thn .nilFunc m)[j]? = some v → w1.cell? ⟨x, j, none⟩ = some v := fun {j v} hj => (hb1.cell (p := ⟨x, j, none⟩) (cell_lt (Star.cellB h hj).1)).trans (Star.cellB h hj).1
  have hr1 : w1.rangeAt x 14 [.int .u8 (m.kind : Int), .int .u64 (m.num : Int), .string ⟨#[]⟩, .string ⟨#[]⟩, .int .u32 0, .int .u64 0, .int .i64 0, .int .i64 0] := fun j v hv => hc (j := 14 + j) (v := v) (by
    rcases j with _ | _ | _ | _ | _ | _ | _ | _ | j
    all_goals first | exact hv | (simp at hv))
  have k22 : w1.cell? ⟨x, 22, none⟩ = some (.int .u64 (m.epoch : Int)) := hc rfl
  have k23 : w1.cell? ⟨x, 23, none⟩ = some (.int .i64 (m.point : Int)) := hc rfl
  have HID := Lib.hid (show Calls Tryz.prog 379 #[ptrN x] w1 fun e w' => e = .returned (.bool true) ∧ w1 = w' from goesIdle_nil (hc (j := 0) (v := .nilIface) rfl) (hc (j := 2) (v := .nilFunc) rfl))
  have ht : w1.drew.there rb 0 8 := fun j hj => by
    have h := cellsAt hq1 (0 + j)
    rcases j with _ | _ | _ | _ | _ | _ | _ | _ | j
    all_goals first | exact ⟨by rw [show w1.drew.cell? ⟨rb, _, none⟩ = _ from h.1]; rfl, h.2⟩ | (exfalso; omega)
  obtain ⟨w2, hw2⟩ : ∃ X, X = w1.drew.setCells rb 0 [.int .u8 (m.kind : Int), .int .u64 (m.num : Int), .string ⟨#[]⟩, .string ⟨#[]⟩, .int .u32 0, .int .u64 0, .int .i64 0, .int .i64 0] := ⟨_, rfl⟩
  have hc2 : Chg (fun k => k = rb) w1.drew w2 := by rw [hw2]; exact mcells_chg _ _ _ _
  have hq2 : w2.heap[rb]? = some (.cells #[.int .u8 (m.kind : Int), .int .u64 (m.num : Int), .string ⟨#[]⟩, .string ⟨#[]⟩, .int .u32 0, .int .u64 0, .int .i64 0, .int .i64 0] 44 (0, 0)) := by rw [hw2]; exact setCells_whole (w := w1.drew) hq1 rfl
  have hne : ¬ x = rb := fun e => by
    obtain ⟨T1, T2, -, a2, -⟩ := h
    have := (framed_store x _ _ _ _).lt a2 ((a2.2 x).2 rfl)
    omega
  have hr2 : w2.rangeAt x 14 [.int .u8 (m.kind : Int), .int .u64 (m.num : Int), .string ⟨#[]⟩, .string ⟨#[]⟩, .int .u32 0, .int .u64 0, .int .i64 0, .int .i64 0] := range_keep (w := w1.drew) hr1 hc2 hne
  have c22 : w2.cell? ⟨x, 22, none⟩ = some (.int .u64 (m.epoch : Int)) := hc2.cell (w := w1.drew) k22 hne
  have c23 : w2.cell? ⟨x, 23, none⟩ = some (.int .i64 (m.point : Int)) := hc2.cell (w := w1.drew) k23 hne
  have HB2 := Lib.hid (show Below w.heap.size w w2 from (low_drew1 hb1).trans (hc2.below (fun k hk => ⟨Nat.lt_of_lt_of_le hk hb1.size, fun e => by omega⟩)))
  have HQ2 := Lib.hid hq2
  have HW2 := Lib.hid hw2
  clear h hb1 hq1 hc hc2 hq2 hw2 hne
  go_enter Tryz.func376, Tryz.ntmps376
  go_upto_region 1 with fail
  rw [← hw1, ← hrb]
  clear hw1 hrb
  go_upto_region 3 with (first
    | (go_at_call 379; refine HID.out.mono ?_; rintro e w' ⟨rfl, rfl⟩)
    | fail)
  refine wp_region_held_drew (S := fun V => V.rangeAt x 14 [.int .u8 (m.kind : Int), .int .u64 (m.num : Int), .string ⟨#[]⟩, .string ⟨#[]⟩, .int .u32 0, .int .u64 0, .int .i64 0, .int .i64 0] ∧ V.cell? ⟨x, 22, none⟩ = some (.int .u64 (m.epoch : Int)) ∧ V.cell? ⟨x, 23, none⟩ = some (.int .i64 (m.point : Int))) (by kernel_rfl) ⟨hr1, k22, k23⟩ (fun hHeld => ?_)
  refine tkz 0 rfl ?_
  try simp only [Act.put, tz]
  refine tkz 1 rfl ?_
  try simp only [Act.put, tz]
  refine tkz 2 rfl ?_
  try simp only [Act.put, tz]
  refine wpAnyH_take (i := 3) rfl (by kernel_rfl) (by kernel_rfl) (by kernel_rfl) (fun _ _ _ h => h) (yieldsIf_load_mid (by rfl) 44 (.tmp 17) (by rfl) x 14 (by rfl) [.int .u8 (m.kind : Int), .int .u64 (m.num : Int), .string ⟨#[]⟩, .string ⟨#[]⟩, .int .u32 0, .int .u64 0, .int .i64 0, .int .i64 0] _ (fun w hSw => hSw.1) Tryz.underlying44 rfl (by kernel_rfl)) (by assumption) ?_
  try simp only [Act.put, tz]
  refine tkz 4 rfl ?_
  try simp only [Act.put, tz]
  refine tkz 5 rfl ?_
  try simp only [Act.put, tz]
  refine tkz 6 rfl ?_
  try simp only [Act.put, tz]
  refine tkv 7 (v := ?_) rfl ?_ ?_
  rotate_left 1
  · ((intro w hSw; (try dsimp only at hSw); obtain ⟨c0, c1, c2⟩ := hSw; go_simp) <;> with_reducible rfl)
  try simp only [Act.put, tz]
  refine tkz 8 rfl ?_
  try simp only [Act.put, tz]
  refine tkz 9 rfl ?_
  try simp only [Act.put, tz]
  refine tkz 10 rfl ?_
  try simp only [Act.put, tz]
  refine tkv 11 (v := ?_) rfl ?_ ?_
  rotate_left 1
  · ((intro w hSw; (try dsimp only at hSw); obtain ⟨c0, c1, c2⟩ := hSw; go_simp) <;> with_reducible rfl)
  try simp only [Act.put, tz]
  refine rdy 12 rfl (fun K hK => ?_)
  rw [if_pos (by rfl)]
  refine wp_store_mid 44 (.tmp 2) (.tmp 18) (by rfl) rb 0 #[.int .u8 (m.kind : Int), .int .u64 (m.num : Int), .string ⟨#[]⟩, .string ⟨#[]⟩, .int .u32 0, .int .u64 0, .int .i64 0, .int .i64 0] (by rfl) (by rfl) ht (by kernel_rfl) (by simp [Value.oneCell']) ?_
  refine hK.out _ _ (by have h : _ ∧ _ ∧ _ := ⟨hr2, c22, c23⟩; rw [HW2.out] at h; exact h) (fun hHeld2 => ?_)
  clear hK K
  try simp only [Act.put, tzD, tzE, tzF]
  rw [show w1.drew.setCells rb 0 (#[.int .u8 (m.kind : Int), .int .u64 (m.num : Int), .string ⟨#[]⟩, .string ⟨#[]⟩, .int .u32 0, .int .u64 0, .int .i64 0, .int .i64 0] : Array Value).toList = w2 from HW2.out.symm] at hHeld2 ⊢
  clear HW2 ht
  refine tkz 13 rfl ?_
  try simp only [Act.put, tz]
  refine tkz 14 rfl ?_
  try simp only [Act.put, tz]
  refine wpAnyH_done (by kernel_rfl) ?_ _
  clear hHeld hHeld2
  go_wp2_with (first
    | ((with_reducible show bodyPost _ _ _ Exit.ret _ _); exact bodyPost_ret (v := .tuple #[.agg #[.int .u8 (m.kind : Int), .int .u64 (m.num : Int), .string ⟨#[]⟩, .string ⟨#[]⟩, .int .u32 0, .int .u64 0, .int .i64 0, .int .i64 0], .int .u64 (m.epoch : Int), .int .i64 (m.point : Int)]) (results_row_tmp2 (by exact Tryz.results376) _ _ rb _ _ _ _ (by rfl) HQ2.out Tryz.underlying44 rfl (by kernel_rfl) _ _ (by rfl) (by rfl)) rfl ⟨rfl, HB2.out⟩)
    | fail)
section
variable {p x : Nat}
theorem framed_LP0 : Framed (LP0 p x) := Framed.ex fun _ => (((framed_worldIs p _).star (framed_box (by decide))).star (framed_take _ _ _ _ _)).star (framed_store _ _ _ _ _)
theorem framed_LP1 : Framed (LP1 p x) := Framed.ex fun _ => (((framed_worldIs p _).star (framed_box (by decide))).star (framed_take _ _ _ _ _)).star (framed_store _ _ _ _ _)
theorem framed_LP2 : Framed (LP2 p x) := Framed.ex fun _ => ((framed_worldIs p _).star (framed_turn _ _ _)).star (framed_store _ _ _ _ _)
theorem framed_LP3 : Framed (LP3 p x) := Framed.ex fun _ => Framed.ex fun _ => (((framed_worldIs p _).star (framed_find0 _ _)).star framed_boxes).star (framed_store _ _ _ _ _)
theorem framed_LP4 : Framed (LP4 p x) := Framed.ex fun _ => Framed.ex fun _ => (((framed_worldIs p _).star (framed_find _ _ _ _)).star framed_boxes).star (framed_store _ _ _ _ _)
theorem framed_LP5 : Framed (LP5 p x) := Framed.ex fun _ => Framed.ex fun _ => (((framed_worldIs p _).star (framed_find _ _ _ _)).star framed_boxes).star (framed_store _ _ _ _ _)
theorem framed_LP6 : Framed (LP6 p x) := Framed.ex fun _ => (framed_worldIs p _).star (framed_store _ _ _ _ _)
theorem framed_LP7 : Framed (LP7 p x) := Framed.ex fun _ => (framed_worldIs p _).star (framed_store _ _ _ _ _)
theorem framed_LP8 : Framed (LP8 p x) := Framed.ex fun _ => Framed.ex fun _ => (((framed_worldIs p _).star (framed_room _ _ _)).star ((framed_box (by decide)).star (framed_box (by decide)))).star (framed_store _ _ _ _ _)
theorem framed_LP9 : Framed (LP9 p x) := Framed.ex fun _ => Framed.ex fun _ => (((framed_worldIs p _).star (framed_box (by decide))).star (framed_mark _ _)).star (framed_store _ _ _ _ _)
theorem framed_LP10 : Framed (LP10 p x) := Framed.ex fun _ => ((framed_worldIs p _).star (framed_box (by decide))).star (framed_store _ _ _ _ _)
theorem framed_LP11 : Framed (LP11 p x) := Framed.ex fun _ => ((framed_worldIs p _).star (framed_box (by decide))).star (framed_store _ _ _ _ _)
theorem framed_LP12 : Framed (LP12 p x) := Framed.ex fun _ => (((framed_worldIs p _).star (framed_put _ _ _ _ _ _ _ _)).star framed_pboxes).star (framed_store _ _ _ _ _)
theorem framed_LP13 : Framed (LP13 p x) := Framed.ex fun _ => (((framed_worldIs p _).star (framed_put _ _ _ _ _ _ _ _)).star framed_pboxes).star (framed_store _ _ _ _ _)
theorem framed_LP14 : Framed (LP14 p x) := Framed.ex fun _ => (((framed_worldIs p _).star (framed_put _ _ _ _ _ _ _ _)).star framed_pboxes).star (framed_store _ _ _ _ _)
theorem framed_LP15 : Framed (LP15 p x) := Framed.ex fun _ => ((framed_worldIs p _).star framed_pboxes).star (framed_store _ _ _ _ _)
theorem framed_LP16 : Framed (LP16 p x) := Framed.ex fun _ => ((framed_worldIs p _).star (framed_mark _ _)).star (framed_store _ _ _ _ _)
theorem framed_LP17 : Framed (LP17 p x) := Framed.ex fun _ => ((framed_worldIs p _).star (framed_give _ _)).star (framed_store _ _ _ _ _)
theorem framed_LP18 : Framed (LP18 p x) := Framed.ex fun _ => (framed_worldIs p _).star (framed_store _ _ _ _ _)
theorem count_LP0 : CountIs p 0 (LP0 p x) := fun V S ⟨_, h⟩ => by
  obtain ⟨S1, h1, -⟩ := (show Wk _ (WorldIs p lw0) from (Wk.fst _ _).trans ((Wk.fst _ _).trans (Wk.fst _ _))) V S h
  exact wsteps_any h1
theorem count_LP1 : CountIs p 1 (LP1 p x) := fun V S ⟨_, h⟩ => by
  obtain ⟨S1, h1, -⟩ := (show Wk _ (WorldIs p lw1) from (Wk.fst _ _).trans ((Wk.fst _ _).trans (Wk.fst _ _))) V S h
  exact wsteps_any h1
theorem count_LP2 : CountIs p 2 (LP2 p x) := fun V S ⟨_, h⟩ => by
  obtain ⟨S1, h1, -⟩ := (show Wk _ (WorldIs p lw2) from (Wk.fst _ _).trans (Wk.fst _ _)) V S h
  exact wsteps_any h1
theorem count_LP3 : CountIs p 3 (LP3 p x) := fun V S ⟨_, ⟨_, h⟩⟩ => by
  obtain ⟨S1, h1, -⟩ := (show Wk _ (WorldIs p lw3) from (Wk.fst _ _).trans ((Wk.fst _ _).trans (Wk.fst _ _))) V S h
  exact wsteps_any h1
theorem count_LP4 : CountIs p 4 (LP4 p x) := fun V S ⟨_, ⟨_, h⟩⟩ => by
  obtain ⟨S1, h1, -⟩ := (show Wk _ (WorldIs p lw4) from (Wk.fst _ _).trans ((Wk.fst _ _).trans (Wk.fst _ _))) V S h
  exact wsteps_any h1
theorem count_LP5 : CountIs p 5 (LP5 p x) := fun V S ⟨_, ⟨_, h⟩⟩ => by
  obtain ⟨S1, h1, -⟩ := (show Wk _ (WorldIs p lw5) from (Wk.fst _ _).trans ((Wk.fst _ _).trans (Wk.fst _ _))) V S h
  exact wsteps_any h1
theorem count_LP6 : CountIs p 6 (LP6 p x) := fun V S ⟨_, h⟩ => by
  obtain ⟨S1, h1, -⟩ := (show Wk _ (WorldIs p lw6) from Wk.fst _ _) V S h
  exact wsteps_any h1
theorem count_LP7 : CountIs p 7 (LP7 p x) := fun V S ⟨_, h⟩ => by
  obtain ⟨S1, h1, -⟩ := (show Wk _ (WorldIs p lw7) from Wk.fst _ _) V S h
  exact wsteps_any h1
theorem count_LP8 : CountIs p 8 (LP8 p x) := fun V S ⟨_, ⟨_, h⟩⟩ => by
  obtain ⟨S1, h1, -⟩ := (show Wk _ (WorldIs p lw8) from (Wk.fst _ _).trans ((Wk.fst _ _).trans (Wk.fst _ _))) V S h
  exact wsteps_any h1
theorem count_LP9 : CountIs p 9 (LP9 p x) := fun V S ⟨_, ⟨_, h⟩⟩ => by
  obtain ⟨S1, h1, -⟩ := (show Wk _ (WorldIs p lw9) from (Wk.fst _ _).trans ((Wk.fst _ _).trans (Wk.fst _ _))) V S h
  exact wsteps_any h1
theorem count_LP10 : CountIs p 10 (LP10 p x) := fun V S ⟨_, h⟩ => by
  obtain ⟨S1, h1, -⟩ := (show Wk _ (WorldIs p lw10) from (Wk.fst _ _).trans (Wk.fst _ _)) V S h
  exact wsteps_any h1
theorem count_LP11 : CountIs p 11 (LP11 p x) := fun V S ⟨_, h⟩ => by
  obtain ⟨S1, h1, -⟩ := (show Wk _ (WorldIs p lw11) from (Wk.fst _ _).trans (Wk.fst _ _)) V S h
  exact wsteps_any h1
theorem count_LP12 : CountIs p 12 (LP12 p x) := fun V S ⟨_, h⟩ => by
  obtain ⟨S1, h1, -⟩ := (show Wk _ (WorldIs p lw12) from (Wk.fst _ _).trans ((Wk.fst _ _).trans (Wk.fst _ _))) V S h
  exact wsteps_any h1
theorem count_LP13 : CountIs p 13 (LP13 p x) := fun V S ⟨_, h⟩ => by
  obtain ⟨S1, h1, -⟩ := (show Wk _ (WorldIs p lw13) from (Wk.fst _ _).trans ((Wk.fst _ _).trans (Wk.fst _ _))) V S h
  exact wsteps_any h1
theorem count_LP14 : CountIs p 14 (LP14 p x) := fun V S ⟨_, h⟩ => by
  obtain ⟨S1, h1, -⟩ := (show Wk _ (WorldIs p lw14) from (Wk.fst _ _).trans ((Wk.fst _ _).trans (Wk.fst _ _))) V S h
  exact wsteps_any h1
theorem count_LP15 : CountIs p 15 (LP15 p x) := fun V S ⟨_, h⟩ => by
  obtain ⟨S1, h1, -⟩ := (show Wk _ (WorldIs p lw15) from (Wk.fst _ _).trans (Wk.fst _ _)) V S h
  exact wsteps_any h1
theorem count_LP16 : CountIs p 16 (LP16 p x) := fun V S ⟨_, h⟩ => by
  obtain ⟨S1, h1, -⟩ := (show Wk _ (WorldIs p lw16) from (Wk.fst _ _).trans (Wk.fst _ _)) V S h
  exact wsteps_any h1
theorem count_LP17 : CountIs p 17 (LP17 p x) := fun V S ⟨_, h⟩ => by
  obtain ⟨S1, h1, -⟩ := (show Wk _ (WorldIs p lw17) from (Wk.fst _ _).trans (Wk.fst _ _)) V S h
  exact wsteps_any h1
theorem count_LP18 : CountIs p 18 (LP18 p x) := fun V S ⟨_, h⟩ => by
  obtain ⟨S1, h1, -⟩ := (show Wk _ (WorldIs p lw18) from Wk.fst _ _) V S h
  exact wsteps_any h1
theorem got_LP18 : ∀ V S0, LP18 p x V S0 → Calls Tryz.prog 376 #[ptrN x] V fun e w' => e = .returned (.tuple #[.agg #[.int .u8 1, .int .u64 1, .string ⟨#[]⟩, .string ⟨#[]⟩, .int .u32 0, .int .u64 0, .int .i64 0, .int .i64 0], .int .u64 0, .int .i64 11]) ∧ Below V.heap.size V w' := fun _V _S0 ⟨_, h⟩ => storeGot_any h
end
end Go.Proofs.YtfajddlijgpgoaaGreatDoor
