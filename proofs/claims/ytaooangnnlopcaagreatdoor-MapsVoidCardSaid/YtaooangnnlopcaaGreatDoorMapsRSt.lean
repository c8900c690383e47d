/- What the document's map stores. Condition: the map lies behind its pointer; fewer than 2^20 records. -/
import Derived.Test.YtaooangnnlopcaaGreatDoorMapsRW
import Derived.Test.YtaooangnnlopcaaGreatDoorMapsGive
namespace Go.Proofs.YtaooangnnlopcaaGreatDoor
open Go.RowKit Go.ChangeMaps Go.MapKept
abbrev givRZero : Array Value := #[.int .u8 0, .int .u64 0, .string ⟨#[]⟩, .string ⟨#[]⟩, .int .u32 0, .int .u64 0, .int .i64 0, .int .i64 0, .slice none 0 0, .int .u64 0, .int .u64 0, .bool false]
theorem build_itemR (k v : ByteArray) (f i d g : Int) (W : World) : (Instr.build 38 #[(0, .string k), (1, .string v), (2, .int .u32 f), (3, .int .u64 i), (4, .int .i64 d), (5, .int .i64 g)]).run Tryz.prog W = .ok (.agg #[.string k, .string v, .int .u32 f, .int .u64 i, .int .i64 d, .int .i64 g]) W := by kernel_rfl
set_option maxRecDepth 100000 in
set_option maxHeartbeats 8000000 in
theorem rStores_any {w : World} {r : Nat} {v : Value} {m : MapM} {c : CallD} {ep : Nat} {has : Bool} (h : RMap w r v m) (hfew : m.L.length ≤ 1000000) (he : ep < 18446744073709551616) (hx : -9223372036854775808 ≤ c.exp ∧ c.exp ≤ 9223372036854775807) (hid : m.ids < 18446744073709551615) : Calls Tryz.prog 56 #[.pointer (some ⟨r, 0, none⟩), .agg #[.int .u8 c.verb, .string c.key, .string c.value, .int .u32 c.flags, .int .i64 c.exp, .int .u64 c.id, .int .u64 c.by'], .int .u64 (ep : Int), .bool has] w fun e w' => ∃ v', e = .returned (.agg #[.int .u8 1, .int .u64 ((m.ids + 1 : Nat) : Int), .string ⟨#[]⟩, .string ⟨#[]⟩, .int .u32 0, .int .u64 0, .int .i64 0, .int .i64 0, v', .int .u64 (ep : Int), .int .u64 ((m.ids + 1 : Nat) : Int), .bool (!has)]) ∧ ItemJ w w' v' (withoutL m.L c.key ++ [⟨c.key, c.value, c.flags, ((m.ids + 1 : Nat) : Int), diesE ep c.exp, genE ep⟩]) := by
  have HM := Lib.hid (fun W (hb : Below w.heap.size w W) => h.below hb)
  have HDI := Lib.hid (fun W => rDies_any ep c.exp hx W)
  have HGE := Lib.hid (fun W => rGen_any ep he W)
  have HF := Lib.hid hfew
  obtain ⟨nx, hnx⟩ : ∃ k, k = m.ids + 1 := ⟨_, rfl⟩
  rw [← hnx]
  have w1 : IntKind.u64.wrap ((m.ids : Int) + 1) = (nx : Int) := by rw [IntKind.wrap_u64]; omega
  obtain ⟨dd, hdd⟩ : ∃ d, d = diesE ep c.exp := ⟨_, rfl⟩
  obtain ⟨gg, hgg⟩ : ∃ g : Int, g = (genE ep : Int) := ⟨_, rfl⟩
  rw [← hdd] at HDI ⊢
  rw [← hgg] at HGE ⊢
  have HR := Lib.hid h.lt
  clear h hx hfew hid hnx hdd hgg he
  go_enter Tryz.func56, Tryz.ntmps56
  go_upto_region 1 with fail
  obtain ⟨W0, hW0⟩ : ∃ X, X = (w.alloc (.cells #[.int .u8 c.verb, .string c.key, .string c.value, .int .u32 c.flags, .int .i64 c.exp, .int .u64 c.id, .int .u64 c.by'] 35)).alloc (.cells givRZero 88) := ⟨_, rfl⟩
  have hb0 : Below w.heap.size w W0 := by rw [hW0]; exact below_two w _ _
  have hx0 : W0.heap[w.heap.size]? = some (.cells #[.int .u8 c.verb, .string c.key, .string c.value, .int .u32 c.flags, .int .i64 c.exp, .int .u64 c.id, .int .u64 c.by'] 35 (0, 0)) := by rw [hW0]; exact (heap_two w _ _).1
  have hr0 : W0.heap[w.heap.size + 1]? = some (.cells givRZero 88 (0, 0)) := by rw [hW0]; exact (heap_two w _ _).2
  rw [← hW0]
  have c2 : W0.cell? ⟨r, 2, none⟩ = some (.int .u64 (m.ids : Int)) := (cells_at (HM.out W0 hb0).box 2).1
  have k1 : W0.cell? ⟨w.heap.size, 1, none⟩ = some (.string c.key) := (cells_at hx0 1).1
  have k2 : W0.cell? ⟨w.heap.size, 2, none⟩ = some (.string c.value) := (cells_at hx0 2).1
  have k3 : W0.cell? ⟨w.heap.size, 3, none⟩ = some (.int .u32 c.flags) := (cells_at hx0 3).1
  have k4 : W0.cell? ⟨w.heap.size, 4, none⟩ = some (.int .i64 c.exp) := (cells_at hx0 4).1
  have HB0 := Lib.hid hb0
  have HX0 := Lib.hid hx0
  have HR0 := Lib.hid hr0
  clear hW0 hb0 hx0 hr0
  go_upto_region 2 with fail
  clear c2
  have qb := build_itemR c.key c.value c.flags nx dd gg
  have HCK := Lib.hid (fun (W : World) (hW : Below W0.heap.size W0 W) => (⟨(hW.cell (cell_lt k1)).trans k1, (hW.cell (cell_lt k2)).trans k2, (hW.cell (cell_lt k3)).trans k3, (hW.cell (cell_lt k4)).trans k4⟩ : W.cell? ⟨w.heap.size, 1, none⟩ = some (.string c.key) ∧ W.cell? ⟨w.heap.size, 2, none⟩ = some (.string c.value) ∧ W.cell? ⟨w.heap.size, 3, none⟩ = some (.int .u32 c.flags) ∧ W.cell? ⟨w.heap.size, 4, none⟩ = some (.int .i64 c.exp)))
  clear k1 k2 k3 k4
  go_cut [10] (fun s10 wx => ∃ q, s10 = .pointer (some ⟨q, 0, none⟩) ∧ wx.heap[q]? = some (.cells #[.string c.key, .string c.value, .int .u32 c.flags, .int .u64 (nx : Int), .int .i64 dd, .int .i64 gg] 38 (0, 0)) ∧ Below W0.heap.size W0 wx ∧ W0.heap.size ≤ q)
  case first =>
    refine wp_region_held_drew (S := fun W => Below W0.heap.size W0 W) (by kernel_rfl) (bdrew (Below.refl _ _)) (fun hHeld => ?_)
    refine wpAnyH_take (i := 0) (v := ?_) rfl (by kernel_rfl) (by kernel_rfl) (by kernel_rfl) (fun _ _ _ h => h) (Or.inl ⟨by rfl, ?_⟩) (by assumption) ?_
    rotate_left 1
    · ((intro w hSw; (try dsimp only at hSw); go_simp) <;> with_reducible rfl)
    try simp only [Act.put, List.setIfInBounds_toArray, List.set_cons_zero, List.set_cons_succ, List.getElem_toArray, List.getElem_cons_zero]
    refine wpAnyH_take (i := 1) (v := ?_) rfl (by kernel_rfl) (by kernel_rfl) (by kernel_rfl) (fun _ _ _ h => h) (Or.inl ⟨by rfl, ?_⟩) (by assumption) ?_
    rotate_left 1
    · ((intro w hSw; (try dsimp only at hSw); obtain ⟨k1, k2, k3, k4⟩ := HCK.out _ hSw; go_simp) <;> with_reducible rfl)
    try simp only [Act.put, List.setIfInBounds_toArray, List.set_cons_zero, List.set_cons_succ, List.getElem_toArray, List.getElem_cons_zero, List.getElem_cons_succ]
    refine wpAnyH_take (i := 2) (v := ?_) rfl (by kernel_rfl) (by kernel_rfl) (by kernel_rfl) (fun _ _ _ h => h) (Or.inl ⟨by rfl, ?_⟩) (by assumption) ?_
    rotate_left 1
    · ((intro w hSw; (try dsimp only at hSw); go_simp) <;> with_reducible rfl)
    try simp only [Act.put, List.setIfInBounds_toArray, List.set_cons_zero, List.set_cons_succ, List.getElem_toArray, List.getElem_cons_zero, List.getElem_cons_succ]
    refine wpAnyH_take (i := 3) (v := ?_) rfl (by kernel_rfl) (by kernel_rfl) (by kernel_rfl) (fun _ _ _ h => h) (Or.inl ⟨by rfl, ?_⟩) (by assumption) ?_
    rotate_left 1
    · ((intro w hSw; (try dsimp only at hSw); obtain ⟨k1, k2, k3, k4⟩ := HCK.out _ hSw; go_simp) <;> with_reducible rfl)
    try simp only [Act.put, List.setIfInBounds_toArray, List.set_cons_zero, List.set_cons_succ, List.getElem_toArray, List.getElem_cons_zero, List.getElem_cons_succ]
    refine wpAnyH_take (i := 4) (v := ?_) rfl (by kernel_rfl) (by kernel_rfl) (by kernel_rfl) (fun _ _ _ h => h) (Or.inl ⟨by rfl, ?_⟩) (by assumption) ?_
    rotate_left 1
    · ((intro w hSw; (try dsimp only at hSw); go_simp) <;> with_reducible rfl)
    try simp only [Act.put, List.setIfInBounds_toArray, List.set_cons_zero, List.set_cons_succ, List.getElem_toArray, List.getElem_cons_zero, List.getElem_cons_succ]
    refine wpAnyH_take (i := 5) (v := ?_) rfl (by kernel_rfl) (by kernel_rfl) (by kernel_rfl) (fun _ _ _ h => h) (Or.inl ⟨by rfl, ?_⟩) (by assumption) ?_
    rotate_left 1
    · ((intro w hSw; (try dsimp only at hSw); obtain ⟨k1, k2, k3, k4⟩ := HCK.out _ hSw; go_simp) <;> with_reducible rfl)
    try simp only [Act.put, List.setIfInBounds_toArray, List.set_cons_zero, List.set_cons_succ, List.getElem_toArray, List.getElem_cons_zero, List.getElem_cons_succ]
    refine wpAnyH_take (i := 6) (v := ?_) rfl (by kernel_rfl) (by kernel_rfl) (by kernel_rfl) (fun _ _ _ h => h) (Or.inl ⟨by rfl, ?_⟩) (by assumption) ?_
    rotate_left 1
    · ((intro w hSw; (try dsimp only at hSw); go_simp) <;> with_reducible rfl)
    try simp only [Act.put, List.setIfInBounds_toArray, List.set_cons_zero, List.set_cons_succ, List.getElem_toArray, List.getElem_cons_zero, List.getElem_cons_succ]
    refine wpAnyH_take (i := 7) (v := ?_) rfl (by kernel_rfl) (by kernel_rfl) (by kernel_rfl) (fun _ _ _ h => h) (Or.inl ⟨by rfl, ?_⟩) (by assumption) ?_
    rotate_left 1
    · ((intro w hSw; (try dsimp only at hSw); go_simp) <;> with_reducible rfl)
    try simp only [Act.put, List.setIfInBounds_toArray, List.set_cons_zero, List.set_cons_succ, List.getElem_toArray, List.getElem_cons_zero, List.getElem_cons_succ]
    refine wpAnyH_take (i := 8) (v := ?_) rfl (by kernel_rfl) (by kernel_rfl) (by kernel_rfl) (fun _ _ _ h => h) (Or.inl ⟨by rfl, ?_⟩) (by assumption) ?_
    rotate_left 1
    · ((intro w hSw; (try dsimp only at hSw); go_simp) <;> with_reducible rfl)
    try simp only [Act.put, List.setIfInBounds_toArray, List.set_cons_zero, List.set_cons_succ, List.getElem_toArray, List.getElem_cons_zero, List.getElem_cons_succ]
    refine wpAnyH_take (i := 9) (v := ?_) rfl (by kernel_rfl) (by kernel_rfl) (by kernel_rfl) (fun _ _ _ h => h) (Or.inl ⟨by rfl, ?_⟩) (by assumption) ?_
    rotate_left 1
    · ((intro w hSw; (try dsimp only at hSw); obtain ⟨k1, k2, k3, k4⟩ := HCK.out _ hSw; go_simp) <;> with_reducible rfl)
    try simp only [Act.put, List.setIfInBounds_toArray, List.set_cons_zero, List.set_cons_succ, List.getElem_toArray, List.getElem_cons_zero, List.getElem_cons_succ]
    refine wpAnyH_take (i := 11) (v := ?_) rfl (by kernel_rfl) (by kernel_rfl) (by kernel_rfl) (fun _ _ _ h => h) (Or.inl ⟨by rfl, ?_⟩) (by assumption) ?_
    rotate_left 1
    · ((intro w hSw; (try dsimp only at hSw); go_simp) <;> with_reducible rfl)
    try simp only [Act.put, List.setIfInBounds_toArray, List.set_cons_zero, List.set_cons_succ, List.getElem_toArray, List.getElem_cons_zero, List.getElem_cons_succ]
    refine wpAnyH_ready (rs := [10, 14]) (by kernel_rfl) (by simp) ?_
    refine (AllReadyH.cons rfl (fun K hK => ?_) (AllReadyH.cons rfl (fun K hK => ?_) AllReadyH.nil))
    · skip
      go_simp
      go_at_call 90
      refine (HDI.out _).mono ?_
      rintro e _ ⟨rfl, rfl⟩
      refine hK.out _ _ (by assumption) (fun hHeld2 => ?_)
      clear hK K
      try simp only [Act.put, List.setIfInBounds_toArray, List.set_cons_zero, List.set_cons_succ, List.getElem_toArray, List.getElem_cons_zero, List.getElem_cons_succ]
      refine wpAnyH_ready (rs := [12, 14]) (by kernel_rfl) (by simp) ?_
      refine (AllReadyH.cons rfl (fun K hK => ?_) (AllReadyH.cons rfl (fun K hK => ?_) AllReadyH.nil))
      · skip
        go_simp
        go_at_call 86
        refine (HGE.out _).mono ?_
        rintro e _ ⟨rfl, rfl⟩
        refine hK.out _ _ (by assumption) (fun hHeld2 => ?_)
        clear hK K
        try simp only [Act.put, List.setIfInBounds_toArray, List.set_cons_zero, List.set_cons_succ, List.getElem_toArray, List.getElem_cons_zero, List.getElem_cons_succ]
        refine wpAnyH_take (i := 13) (v := ?_) rfl (by kernel_rfl) (by kernel_rfl) (by kernel_rfl) (fun _ _ _ h => h) (Or.inl ⟨by rfl, ?_⟩) (by assumption) ?_
        rotate_left 1
        · ((intro w hSw; (try dsimp only at hSw); go_simp) <;> with_reducible rfl)
        try simp only [Act.put, List.setIfInBounds_toArray, List.set_cons_zero, List.set_cons_succ, List.getElem_toArray, List.getElem_cons_zero, List.getElem_cons_succ]
        refine wpAnyH_ready (rs := [14]) (by kernel_rfl) (by simp) ?_
        refine (AllReadyH.cons rfl (fun K hK => ?_) AllReadyH.nil)
        go_simp
        refine hK.out _ _ (show Below W0.heap.size W0 (World.drew (W0.alloc (.cells itemZero 38))) from bdrew ((Below.refl _ _).alloc (Nat.le_refl _) _)) (fun hHeld2 => ?_)
        clear hK K
        try simp only [Act.put, List.setIfInBounds_toArray, List.set_cons_zero, List.set_cons_succ, List.getElem_toArray, List.getElem_cons_zero, List.getElem_cons_succ]
        have HZ := Lib.hid (show (World.drew (W0.alloc (.cells itemZero 38))).heap[W0.heap.size]? = some (.cells itemZero 38 (0, 0)) from heap_alloc_new _ _)
        refine wpAnyH_ready (rs := [15]) (by kernel_rfl) (by simp) ?_
        refine (AllReadyH.cons rfl (fun K hK => ?_) AllReadyH.nil)
        rw [if_pos (by rfl)]
        refine wp_store_mid 38 (.tmp 10) (.tmp 29) (by rfl) W0.heap.size 0 #[.string c.key, .string c.value, .int .u32 c.flags, .int .u64 (nx : Int), .int .i64 dd, .int .i64 gg] (by rfl) (by rfl) (by have h := there_block HZ.out; exact h) (by kernel_rfl) (by simp [Value.oneCell']) ?_
        have HQ := Lib.hid (setCells_whole (cells := #[.string c.key, .string c.value, .int .u32 c.flags, .int .u64 (nx : Int), .int .i64 dd, .int .i64 gg]) HZ.out (by rfl))
        have HB := Lib.hid (below_grown (B := W0.heap.size) (show Below W0.heap.size W0 (World.drew (W0.alloc (.cells itemZero 38))) from bdrew ((Below.refl _ _).alloc (Nat.le_refl _) _)) (by show W0.heap.size ≤ (W0.alloc _).heap.size; rw [size_at]; omega) (setCells_grown #[.string c.key, .string c.value, .int .u32 c.flags, .int .u64 (nx : Int), .int .i64 dd, .int .i64 gg].toList 0 (World.drew (W0.alloc (.cells itemZero 38))) W0.heap.size).1 (Nat.le_refl _))
        refine hK.out _ _ HB.out (fun hHeld2 => ?_)
        clear hK K HZ
        try simp only [Act.put, List.getElem_toArray, List.getElem_cons_zero, List.getElem_cons_succ]
        refine wpAnyH_done (by kernel_rfl) ?_ _
        go_wp2_with fail
        go_meet
        case rel => exact ⟨_, rfl, HQ.out, HB.out, Nat.le_refl _⟩
      · skip
        go_simp
        refine hK.out _ _ (show Below W0.heap.size W0 (World.drew (W0.alloc (.cells itemZero 38))) from bdrew ((Below.refl _ _).alloc (Nat.le_refl _) _)) (fun hHeld2 => ?_)
        clear hK K
        try simp only [Act.put, List.setIfInBounds_toArray, List.set_cons_zero, List.set_cons_succ, List.getElem_toArray, List.getElem_cons_zero, List.getElem_cons_succ]
        refine wpAnyH_ready (rs := [12]) (by kernel_rfl) (by simp) ?_
        refine (AllReadyH.cons rfl (fun K hK => ?_) AllReadyH.nil)
        go_simp
        go_at_call 86
        refine (HGE.out _).mono ?_
        rintro e _ ⟨rfl, rfl⟩
        refine hK.out _ _ (by assumption) (fun hHeld2 => ?_)
        clear hK K
        try simp only [Act.put, List.setIfInBounds_toArray, List.set_cons_zero, List.set_cons_succ, List.getElem_toArray, List.getElem_cons_zero, List.getElem_cons_succ]
        refine wpAnyH_take (i := 13) (v := ?_) rfl (by kernel_rfl) (by kernel_rfl) (by kernel_rfl) (fun _ _ _ h => h) (Or.inl ⟨by rfl, ?_⟩) (by assumption) ?_
        rotate_left 1
        · ((intro w hSw; (try dsimp only at hSw); go_simp) <;> with_reducible rfl)
        try simp only [Act.put, List.setIfInBounds_toArray, List.set_cons_zero, List.set_cons_succ, List.getElem_toArray, List.getElem_cons_zero, List.getElem_cons_succ]
        have HZ := Lib.hid (show (World.drew (W0.alloc (.cells itemZero 38))).heap[W0.heap.size]? = some (.cells itemZero 38 (0, 0)) from heap_alloc_new _ _)
        refine wpAnyH_ready (rs := [15]) (by kernel_rfl) (by simp) ?_
        refine (AllReadyH.cons rfl (fun K hK => ?_) AllReadyH.nil)
        rw [if_pos (by rfl)]
        refine wp_store_mid 38 (.tmp 10) (.tmp 29) (by rfl) W0.heap.size 0 #[.string c.key, .string c.value, .int .u32 c.flags, .int .u64 (nx : Int), .int .i64 dd, .int .i64 gg] (by rfl) (by rfl) (by have h := there_block HZ.out; exact h) (by kernel_rfl) (by simp [Value.oneCell']) ?_
        have HQ := Lib.hid (setCells_whole (cells := #[.string c.key, .string c.value, .int .u32 c.flags, .int .u64 (nx : Int), .int .i64 dd, .int .i64 gg]) HZ.out (by rfl))
        have HB := Lib.hid (below_grown (B := W0.heap.size) (show Below W0.heap.size W0 (World.drew (W0.alloc (.cells itemZero 38))) from bdrew ((Below.refl _ _).alloc (Nat.le_refl _) _)) (by show W0.heap.size ≤ (W0.alloc _).heap.size; rw [size_at]; omega) (setCells_grown #[.string c.key, .string c.value, .int .u32 c.flags, .int .u64 (nx : Int), .int .i64 dd, .int .i64 gg].toList 0 (World.drew (W0.alloc (.cells itemZero 38))) W0.heap.size).1 (Nat.le_refl _))
        refine hK.out _ _ HB.out (fun hHeld2 => ?_)
        clear hK K HZ
        try simp only [Act.put, List.getElem_toArray, List.getElem_cons_zero, List.getElem_cons_succ]
        refine wpAnyH_done (by kernel_rfl) ?_ _
        go_wp2_with fail
        go_meet
        case rel => exact ⟨_, rfl, HQ.out, HB.out, Nat.le_refl _⟩
    · skip
      go_simp
      refine hK.out _ _ (show Below W0.heap.size W0 (World.drew (W0.alloc (.cells itemZero 38))) from bdrew ((Below.refl _ _).alloc (Nat.le_refl _) _)) (fun hHeld2 => ?_)
      clear hK K
      try simp only [Act.put, List.setIfInBounds_toArray, List.set_cons_zero, List.set_cons_succ, List.getElem_toArray, List.getElem_cons_zero, List.getElem_cons_succ]
      refine wpAnyH_ready (rs := [10]) (by kernel_rfl) (by simp) ?_
      refine (AllReadyH.cons rfl (fun K hK => ?_) AllReadyH.nil)
      go_simp
      go_at_call 90
      refine (HDI.out _).mono ?_
      rintro e _ ⟨rfl, rfl⟩
      refine hK.out _ _ (by assumption) (fun hHeld2 => ?_)
      clear hK K
      try simp only [Act.put, List.setIfInBounds_toArray, List.set_cons_zero, List.set_cons_succ, List.getElem_toArray, List.getElem_cons_zero, List.getElem_cons_succ]
      refine wpAnyH_ready (rs := [12]) (by kernel_rfl) (by simp) ?_
      refine (AllReadyH.cons rfl (fun K hK => ?_) AllReadyH.nil)
      go_simp
      go_at_call 86
      refine (HGE.out _).mono ?_
      rintro e _ ⟨rfl, rfl⟩
      refine hK.out _ _ (by assumption) (fun hHeld2 => ?_)
      clear hK K
      try simp only [Act.put, List.setIfInBounds_toArray, List.set_cons_zero, List.set_cons_succ, List.getElem_toArray, List.getElem_cons_zero, List.getElem_cons_succ]
      refine wpAnyH_take (i := 13) (v := ?_) rfl (by kernel_rfl) (by kernel_rfl) (by kernel_rfl) (fun _ _ _ h => h) (Or.inl ⟨by rfl, ?_⟩) (by assumption) ?_
      rotate_left 1
      · ((intro w hSw; (try dsimp only at hSw); go_simp) <;> with_reducible rfl)
      try simp only [Act.put, List.setIfInBounds_toArray, List.set_cons_zero, List.set_cons_succ, List.getElem_toArray, List.getElem_cons_zero, List.getElem_cons_succ]
      have HZ := Lib.hid (show (World.drew (W0.alloc (.cells itemZero 38))).heap[W0.heap.size]? = some (.cells itemZero 38 (0, 0)) from heap_alloc_new _ _)
      refine wpAnyH_ready (rs := [15]) (by kernel_rfl) (by simp) ?_
      refine (AllReadyH.cons rfl (fun K hK => ?_) AllReadyH.nil)
      rw [if_pos (by rfl)]
      refine wp_store_mid 38 (.tmp 10) (.tmp 29) (by rfl) W0.heap.size 0 #[.string c.key, .string c.value, .int .u32 c.flags, .int .u64 (nx : Int), .int .i64 dd, .int .i64 gg] (by rfl) (by rfl) (by have h := there_block HZ.out; exact h) (by kernel_rfl) (by simp [Value.oneCell']) ?_
      have HQ := Lib.hid (setCells_whole (cells := #[.string c.key, .string c.value, .int .u32 c.flags, .int .u64 (nx : Int), .int .i64 dd, .int .i64 gg]) HZ.out (by rfl))
      have HB := Lib.hid (below_grown (B := W0.heap.size) (show Below W0.heap.size W0 (World.drew (W0.alloc (.cells itemZero 38))) from bdrew ((Below.refl _ _).alloc (Nat.le_refl _) _)) (by show W0.heap.size ≤ (W0.alloc _).heap.size; rw [size_at]; omega) (setCells_grown #[.string c.key, .string c.value, .int .u32 c.flags, .int .u64 (nx : Int), .int .i64 dd, .int .i64 gg].toList 0 (World.drew (W0.alloc (.cells itemZero 38))) W0.heap.size).1 (Nat.le_refl _))
      refine hK.out _ _ HB.out (fun hHeld2 => ?_)
      clear hK K HZ
      try simp only [Act.put, List.getElem_toArray, List.getElem_cons_zero, List.getElem_cons_succ]
      refine wpAnyH_done (by kernel_rfl) ?_ _
      go_wp2_with fail
      go_meet
      case rel => exact ⟨_, rfl, HQ.out, HB.out, Nat.le_refl _⟩
  case rest =>
    obtain ⟨q, rfl, hbx, hb, hq⟩ := hcut
    obtain ⟨W1, rfl⟩ : ∃ X, X = wc := ⟨_, rfl⟩
    have hbw : Below w.heap.size w W1 := HB0.out.trans (hb.mono HB0.out.size)
    have hlt0 : w.heap.size + 1 < W0.heap.size := (Array.getElem?_eq_some_iff.1 HR0.out).1
    have hlt : w.heap.size + 1 < W1.heap.size := Nat.lt_of_lt_of_le hlt0 hb.size
    have HRR := Lib.hid (fun (W : World) (hW : Below W1.heap.size W1 W) => (hW.block (w.heap.size + 1) hlt).trans ((hb.block _ hlt0).trans HR0.out))
    have HCK2 := Lib.hid (fun (W : World) (hW : Below W1.heap.size W1 W) => (hW.cell (p := ⟨w.heap.size, 1, none⟩) (by show w.heap.size < _; omega)).trans (HCK.out W1 hb).1)
    have HCQ := Lib.hid (fun (W : World) (hW : Below W1.heap.size W1 W) => (hW.block q (Array.getElem?_eq_some_iff.1 hbx).1).trans hbx)
    have HBW := Lib.hid hbw
    have HLT := Lib.hid hlt
    have hlw : (withoutL m.L c.key).length ≤ 1000000 := Nat.le_trans (without_len _ _) HF.out
    have HLW := Lib.hid hlw
    clear hlw hbx hb hbw hlt hlt0 HX0 HCK qb
    obtain ⟨i0, hi0, hz0, hz1, hz2⟩ := info_parts infoItem
    have Hi := Lib.hid hi0
    have Hz := Lib.hid (And.intro hz0 (And.intro hz1 hz2))
    clear hi0 hz0 hz1 hz2
    have qa : ∀ W : World, (Instr.build 40 #[(0, .int .u8 1), (1, .int .u64 (nx : Int))]).run Tryz.prog W = .ok (.agg #[.int .u8 1, .int .u64 (nx : Int), .string ⟨#[]⟩, .string ⟨#[]⟩, .int .u32 0, .int .u64 0, .int .i64 0, .int .i64 0]) W := fun W => by kernel_rfl
    have qm : ∀ (a : Option Addr) (n k : Nat) (W : World), (Instr.build 31 #[(0, .slice a n k), (1, .int .u64 (ep : Int)), (2, .int .u64 (nx : Int))]).run Tryz.prog W = .ok (.agg #[.slice a n k, .int .u64 (ep : Int), .int .u64 (nx : Int)]) W := fun a n k W => by kernel_rfl
    have qg : ∀ (a : Option Addr) (n k : Nat) (W : World), (Instr.build 88 #[(0, .agg #[.int .u8 1, .int .u64 (nx : Int), .string ⟨#[]⟩, .string ⟨#[]⟩, .int .u32 0, .int .u64 0, .int .i64 0, .int .i64 0]), (1, .agg #[.slice a n k, .int .u64 (ep : Int), .int .u64 (nx : Int)]), (2, .bool (!has))]).run Tryz.prog W = .ok (.agg #[.int .u8 1, .int .u64 (nx : Int), .string ⟨#[]⟩, .string ⟨#[]⟩, .int .u32 0, .int .u64 0, .int .i64 0, .int .i64 0, .slice a n k, .int .u64 (ep : Int), .int .u64 (nx : Int), .bool (!has)]) W := fun a n k W => by kernel_rfl
    have HS1 := Lib.hid (show StS w q c.key #[.string c.key, .string c.value, .int .u32 c.flags, .int .u64 (nx : Int), .int .i64 dd, .int .i64 gg] W1 from ⟨HCK2.out W1 (Below.refl _ _), HCQ.out W1 (Below.refl _ _), HBW.out⟩)
    have HQN := Lib.hid (show q ≠ w.heap.size + 1 from by have := (Array.getElem?_eq_some_iff.1 HR0.out).1; omega)
    clear hq HR0 HCK2 HCQ HB0
    go_upto_region 3 with fail
    refine wp_region_held_drew (S := StS w q c.key #[.string c.key, .string c.value, .int .u32 c.flags, .int .u64 (nx : Int), .int .i64 dd, .int .i64 gg]) (by kernel_rfl) (HS1.out.below (bdrew (Below.refl _ _))) (fun hHeld => ?_)
    refine wpAnyH_take (i := 0) (v := ?_) rfl (by kernel_rfl) (by kernel_rfl) (by kernel_rfl) (fun _ _ _ h => h) (Or.inl ⟨by rfl, ?_⟩) (by assumption) ?_
    rotate_left 1
    · ((intro w hSw; (try dsimp only at hSw); go_simp) <;> with_reducible rfl)
    try simp only [Act.put, List.setIfInBounds_toArray, List.set_cons_zero, List.set_cons_succ, List.getElem_toArray, List.getElem_cons_zero]
    refine wpAnyH_take (i := 1) (v := ?_) rfl (by kernel_rfl) (by kernel_rfl) (by kernel_rfl) (fun _ _ _ h => h) (Or.inl ⟨by rfl, ?_⟩) (by assumption) ?_
    rotate_left 1
    · ((intro w hSw; (try dsimp only at hSw); go_simp) <;> with_reducible rfl)
    try simp only [Act.put, List.setIfInBounds_toArray, List.set_cons_zero, List.set_cons_succ, List.getElem_toArray, List.getElem_cons_zero, List.getElem_cons_succ]
    refine wpAnyH_take (i := 2) (v := ?_) rfl (by kernel_rfl) (by kernel_rfl) (by kernel_rfl) (fun _ _ _ h => h) (Or.inl ⟨by rfl, ?_⟩) (by assumption) ?_
    rotate_left 1
    · ((intro w hSw; (try dsimp only at hSw); go_simp) <;> with_reducible rfl)
    try simp only [Act.put, List.setIfInBounds_toArray, List.set_cons_zero, List.set_cons_succ, List.getElem_toArray, List.getElem_cons_zero, List.getElem_cons_succ]
    refine wpAnyH_take (i := 3) (v := ?_) rfl (by kernel_rfl) (by kernel_rfl) (by kernel_rfl) (fun _ _ _ h => h) (Or.inl ⟨by rfl, ?_⟩) (by assumption) ?_
    rotate_left 1
    · ((intro w hSw; (try dsimp only at hSw); go_simp) <;> with_reducible rfl)
    try simp only [Act.put, List.setIfInBounds_toArray, List.set_cons_zero, List.set_cons_succ, List.getElem_toArray, List.getElem_cons_zero, List.getElem_cons_succ]
    refine wpAnyH_take (i := 4) (v := ?_) rfl (by kernel_rfl) (by kernel_rfl) (by kernel_rfl) (fun _ _ _ h => h) (Or.inl ⟨by rfl, ?_⟩) (by assumption) ?_
    rotate_left 1
    · ((intro w hSw; (try dsimp only at hSw); have k1 := hSw.key; go_simp) <;> with_reducible rfl)
    try simp only [Act.put, List.setIfInBounds_toArray, List.set_cons_zero, List.set_cons_succ, List.getElem_toArray, List.getElem_cons_zero, List.getElem_cons_succ]
    refine wpAnyH_take (i := 6) (v := ?_) rfl (by kernel_rfl) (by kernel_rfl) (by kernel_rfl) (fun _ _ _ h => h) (Or.inl ⟨by rfl, ?_⟩) (by assumption) ?_
    rotate_left 1
    · ((intro w hSw; (try dsimp only at hSw); have hq := hSw.item; have x0 : w.cell? ⟨q, 0, none⟩ = some (.string c.key) := (cells_at hq 0).1; have x1 : w.cell? ⟨q, 1, none⟩ = some (.string c.value) := (cells_at hq 1).1; have x2 : w.cell? ⟨q, 2, none⟩ = some (.int .u32 c.flags) := (cells_at hq 2).1; have x3 : w.cell? ⟨q, 3, none⟩ = some (.int .u64 (nx : Int)) := (cells_at hq 3).1; have x4 : w.cell? ⟨q, 4, none⟩ = some (.int .i64 dd) := (cells_at hq 4).1; have x5 : w.cell? ⟨q, 5, none⟩ = some (.int .i64 gg) := (cells_at hq 5).1; go_simp) <;> with_reducible rfl)
    try simp only [Act.put, List.setIfInBounds_toArray, List.set_cons_zero, List.set_cons_succ, List.getElem_toArray, List.getElem_cons_zero, List.getElem_cons_succ]
    refine wpAnyH_take (i := 9) (v := ?_) rfl (by kernel_rfl) (by kernel_rfl) (by kernel_rfl) (fun _ _ _ h => h) (Or.inl ⟨by rfl, ?_⟩) (by assumption) ?_
    rotate_left 1
    · ((intro w hSw; (try dsimp only at hSw); go_simp) <;> with_reducible rfl)
    try simp only [Act.put, List.setIfInBounds_toArray, List.set_cons_zero, List.set_cons_succ, List.getElem_toArray, List.getElem_cons_zero, List.getElem_cons_succ]
    refine wpAnyH_take (i := 10) (v := ?_) rfl (by kernel_rfl) (by kernel_rfl) (by kernel_rfl) (fun _ _ _ h => h) (Or.inl ⟨by rfl, ?_⟩) (by assumption) ?_
    rotate_left 1
    · ((intro w hSw; (try dsimp only at hSw); go_simp) <;> with_reducible rfl)
    try simp only [Act.put, List.setIfInBounds_toArray, List.set_cons_zero, List.set_cons_succ, List.getElem_toArray, List.getElem_cons_zero, List.getElem_cons_succ]
    refine wpAnyH_take (i := 12) (v := ?_) rfl (by kernel_rfl) (by kernel_rfl) (by kernel_rfl) (fun _ _ _ h => h) (Or.inl ⟨by rfl, ?_⟩) (by assumption) ?_
    rotate_left 1
    · ((intro w hSw; (try dsimp only at hSw); go_simp) <;> with_reducible rfl)
    try simp only [Act.put, List.setIfInBounds_toArray, List.set_cons_zero, List.set_cons_succ, List.getElem_toArray, List.getElem_cons_zero, List.getElem_cons_succ]
    refine wpAnyH_take (i := 13) (v := ?_) rfl (by kernel_rfl) (by kernel_rfl) (by kernel_rfl) (fun _ _ _ h => h) (Or.inl ⟨by rfl, ?_⟩) (by assumption) ?_
    rotate_left 1
    · ((intro w hSw; (try dsimp only at hSw); go_simp) <;> with_reducible rfl)
    try simp only [Act.put, List.setIfInBounds_toArray, List.set_cons_zero, List.set_cons_succ, List.getElem_toArray, List.getElem_cons_zero, List.getElem_cons_succ]
    refine wpAnyH_ready (rs := [5, 7]) (by kernel_rfl) (by simp) ?_
    refine (AllReadyH.cons rfl (fun K hK => ?_) (AllReadyH.cons rfl (fun K hK => ?_) AllReadyH.nil))
    · skip
      go_simp
      go_at_call 37
      refine (rWithout_any (k := c.key) (HM.out _ (HBW.out.trans ((bdrew (Below.refl W1.heap.size W1)).mono HBW.out.size))) (Nat.le_trans HF.out (by omega))).mono ?_
      rintro e V ⟨v', rfl, hj⟩
      have hj1 := hj.base (bdrew (Below.refl W1.heap.size W1))
      obtain ⟨a1, c1, rfl⟩ := Row.len hj1.irow
      have HJ0 := Lib.hid hj1
      clear hj hj1
      refine hK.out _ _ (HS1.out.below HJ0.out.low) (fun hHeld2 => ?_)
      clear hK K
      try simp only [Act.put, List.setIfInBounds_toArray, List.set_cons_zero, List.set_cons_succ, List.getElem_toArray, List.getElem_cons_zero, List.getElem_cons_succ]
      refine wpAnyH_ready (rs := [7]) (by kernel_rfl) (by simp) ?_
      refine (AllReadyH.cons rfl (fun K hK => ?_) AllReadyH.nil)
      go_simp
      have HJ := Lib.hid (HJ0.out.below ((Below.refl _ _).alloc (Nat.le_refl _) (.cells #[.string c.key, .string c.value, .int .u32 c.flags, .int .u64 (nx : Int), .int .i64 dd, .int .i64 gg] 38)))
      have HBK := Lib.hid (show (V.alloc (.cells #[.string c.key, .string c.value, .int .u32 c.flags, .int .u64 (nx : Int), .int .i64 dd, .int .i64 gg] 38)).heap[V.heap.size]? = some (.cells #[.string c.key, .string c.value, .int .u32 c.flags, .int .u64 (nx : Int), .int .i64 dd, .int .i64 gg] 38 (0, 0)) from by rw [heap_at, if_pos rfl])
      clear HJ0
      refine hK.out _ _ (HS1.out.below HJ.out.low) (fun hHeld2 => ?_)
      clear hK K
      try simp only [Act.put, List.setIfInBounds_toArray, List.set_cons_zero, List.set_cons_succ, List.getElem_toArray, List.getElem_cons_zero, List.getElem_cons_succ]
      obtain ⟨blk, hblk⟩ : ∃ b, b = V.heap.size := ⟨_, rfl⟩
      rw [← hblk] at HBK ⊢
      clear hblk
      refine wpAnyH_ready (rs := [8]) (by kernel_rfl) (by simp) ?_
      refine (AllReadyH.cons rfl (fun K hK => ?_) AllReadyH.nil)
      rw [if_pos (by rfl)]
      refine wp_append_own _ (.tmp 35) (.tmp 37) 28 (by rfl) W1.heap.size 38 i0 (.agg itemZero) 6 64 Tryz.underlying28 Hi.out Hz.out.1 Hz.out.2.1 Hz.out.2.2 rfl (by omega) _ _ _ (by rfl) HJ.out.row ⟨blk, 0, none⟩ 1 1 (itemCells ⟨c.key, c.value, c.flags, (nx : Int), dd, gg⟩) (by rfl) rfl (World.news_of_block (cs := (itemCells ⟨c.key, c.value, c.flags, (nx : Int), dd, gg⟩).toArray) HBK.out) (by simp [Value.oneCell']) (by have := HLW.out; unfold maxLen; omega) (by have := HLW.out; omega) HJ.out.low.size ?_
      intro v2 w2 hown2 hg2 _
      have hj2 := HJ.out.push (x := ⟨c.key, c.value, c.flags, (nx : Int), dd, gg⟩) hown2 hg2
      obtain ⟨a2, c2, hv2⟩ := Row.len hj2.irow
      obtain ⟨n2, hn2⟩ : ∃ k, k = (withoutL m.L c.key ++ ([⟨c.key, c.value, c.flags, (nx : Int), dd, gg⟩] : List ItemD)).length := ⟨_, rfl⟩
      rw [← hn2] at hv2
      subst hv2
      have HJ2 := Lib.hid hj2
      clear hown2 hg2 hj2 hn2
      refine hK.out _ _ (HS1.out.below HJ2.out.low) (fun hHeld2 => ?_)
      clear hK K
      try simp only [Act.put, List.setIfInBounds_toArray, List.set_cons_zero, List.set_cons_succ, List.getElem_toArray, List.getElem_cons_zero, List.getElem_cons_succ]
      refine wpAnyH_take (i := 11) (v := ?_) rfl (by kernel_rfl) (by kernel_rfl) (by kernel_rfl) (fun _ _ _ h => h) (Or.inl ⟨by rfl, ?_⟩) (by assumption) ?_
      rotate_left 1
      · ((intro w hSw; (try dsimp only at hSw); go_simp) <;> with_reducible rfl)
      try simp only [Act.put, List.setIfInBounds_toArray, List.set_cons_zero, List.set_cons_succ, List.getElem_toArray, List.getElem_cons_zero, List.getElem_cons_succ]
      refine wpAnyH_take (i := 14) (v := ?_) rfl (by kernel_rfl) (by kernel_rfl) (by kernel_rfl) (fun _ _ _ h => h) (Or.inl ⟨by rfl, ?_⟩) (by assumption) ?_
      rotate_left 1
      · ((intro w hSw; (try dsimp only at hSw); go_simp) <;> with_reducible rfl)
      try simp only [Act.put, List.setIfInBounds_toArray, List.set_cons_zero, List.set_cons_succ, List.getElem_toArray, List.getElem_cons_zero, List.getElem_cons_succ]
      refine wpAnyH_ready (rs := [15]) (by kernel_rfl) (by simp) ?_
      refine (AllReadyH.cons rfl (fun K hK => ?_) AllReadyH.nil)
      rw [if_pos (by rfl)]
      refine wp_store_mid 88 (.tmp 8) (.tmp 44) (by rfl) (w.heap.size + 1) 0 #[.int .u8 1, .int .u64 (nx : Int), .string ⟨#[]⟩, .string ⟨#[]⟩, .int .u32 0, .int .u64 0, .int .i64 0, .int .i64 0, .slice a2 n2 c2, .int .u64 (ep : Int), .int .u64 (nx : Int), .bool (!has)] (by rfl) (by rfl) (by have h := there_block (HRR.out _ HJ2.out.low); exact h) (by kernel_rfl) (by simp [Value.oneCell']) ?_
      have HQ := Lib.hid (setCells_whole (cells := #[.int .u8 1, .int .u64 (nx : Int), .string ⟨#[]⟩, .string ⟨#[]⟩, .int .u32 0, .int .u64 0, .int .i64 0, .int .i64 0, .slice a2 n2 c2, .int .u64 (ep : Int), .int .u64 (nx : Int), .bool (!has)]) (HRR.out _ HJ2.out.low) (by rfl))
      have hgr := (setCells_grown #[.int .u8 1, .int .u64 (nx : Int), .string ⟨#[]⟩, .string ⟨#[]⟩, .int .u32 0, .int .u64 0, .int .i64 0, .int .i64 0, .slice a2 n2 c2, .int .u64 (ep : Int), .int .u64 (nx : Int), .bool (!has)].toList 0 w2 (w.heap.size + 1)).1
      have HFJ := Lib.hid (HJ2.out.fin HBW.out hgr (Nat.le_succ _) HLT.out)
      have HS3 := Lib.hid ((HS1.out.below HJ2.out.low).store hgr HQN.out)
      clear hgr
      refine hK.out _ _ HS3.out (fun hHeld2 => ?_)
      clear hK K
      try simp only [Act.put, List.getElem_toArray, List.getElem_cons_zero, List.getElem_cons_succ]
      refine wpAnyH_done (by kernel_rfl) ?_ _
      clear hHeld2
      go_wp2_with (first | ((with_reducible show bodyPost _ _ _ Exit.ret _ _); exact bodyPost_ret (v := .agg #[.int .u8 1, .int .u64 (nx : Int), .string ⟨#[]⟩, .string ⟨#[]⟩, .int .u32 0, .int .u64 0, .int .i64 0, .int .i64 0, .slice a2 n2 c2, .int .u64 (ep : Int), .int .u64 (nx : Int), .bool (!has)]) (results_row_one rfl _ _ (w.heap.size + 1) _ _ _ _ (by rfl) HQ.out Tryz.underlying88 rfl (by kernel_rfl)) rfl ⟨_, rfl, HFJ.out⟩) | fail)
    · skip
      go_simp
      refine hK.out _ _ (HS1.out.below (show Below W1.heap.size W1 (World.drew (W1.alloc (.cells #[.string c.key, .string c.value, .int .u32 c.flags, .int .u64 (nx : Int), .int .i64 dd, .int .i64 gg] 38))) from bdrew ((Below.refl _ _).alloc (Nat.le_refl _) _))) (fun hHeld2 => ?_)
      clear hK K
      try simp only [Act.put, List.setIfInBounds_toArray, List.set_cons_zero, List.set_cons_succ, List.getElem_toArray, List.getElem_cons_zero, List.getElem_cons_succ]
      refine wpAnyH_ready (rs := [5]) (by kernel_rfl) (by simp) ?_
      refine (AllReadyH.cons rfl (fun K hK => ?_) AllReadyH.nil)
      go_simp
      go_at_call 37
      refine (rWithout_any (k := c.key) (HM.out _ (HBW.out.trans ((show Below W1.heap.size W1 (World.drew (W1.alloc (.cells #[.string c.key, .string c.value, .int .u32 c.flags, .int .u64 (nx : Int), .int .i64 dd, .int .i64 gg] 38))) from bdrew ((Below.refl _ _).alloc (Nat.le_refl _) _)).mono HBW.out.size))) (Nat.le_trans HF.out (by omega))).mono ?_
      rintro e V ⟨v', rfl, hj⟩
      have hj1 := hj.base (show Below W1.heap.size W1 (World.drew (W1.alloc (.cells #[.string c.key, .string c.value, .int .u32 c.flags, .int .u64 (nx : Int), .int .i64 dd, .int .i64 gg] 38))) from bdrew ((Below.refl _ _).alloc (Nat.le_refl _) _))
      obtain ⟨a1, c1, rfl⟩ := Row.len hj1.irow
      have HJ := Lib.hid hj1
      have HBK := Lib.hid ((hj.low.block W1.heap.size (by show W1.heap.size < (W1.alloc _).heap.size; rw [size_at]; omega)).trans (show (W1.alloc (.cells #[.string c.key, .string c.value, .int .u32 c.flags, .int .u64 (nx : Int), .int .i64 dd, .int .i64 gg] 38)).heap[W1.heap.size]? = some (.cells #[.string c.key, .string c.value, .int .u32 c.flags, .int .u64 (nx : Int), .int .i64 dd, .int .i64 gg] 38 (0, 0)) from by rw [heap_at, if_pos rfl]))
      clear hj hj1
      refine hK.out _ _ (HS1.out.below HJ.out.low) (fun hHeld2 => ?_)
      clear hK K
      try simp only [Act.put, List.setIfInBounds_toArray, List.set_cons_zero, List.set_cons_succ, List.getElem_toArray, List.getElem_cons_zero, List.getElem_cons_succ]
      obtain ⟨blk, hblk⟩ : ∃ b, b = W1.heap.size := ⟨_, rfl⟩
      rw [← hblk] at HBK ⊢
      clear hblk
      refine wpAnyH_ready (rs := [8]) (by kernel_rfl) (by simp) ?_
      refine (AllReadyH.cons rfl (fun K hK => ?_) AllReadyH.nil)
      rw [if_pos (by rfl)]
      refine wp_append_own _ (.tmp 35) (.tmp 37) 28 (by rfl) W1.heap.size 38 i0 (.agg itemZero) 6 64 Tryz.underlying28 Hi.out Hz.out.1 Hz.out.2.1 Hz.out.2.2 rfl (by omega) _ _ _ (by rfl) HJ.out.row ⟨blk, 0, none⟩ 1 1 (itemCells ⟨c.key, c.value, c.flags, (nx : Int), dd, gg⟩) (by rfl) rfl (World.news_of_block (cs := (itemCells ⟨c.key, c.value, c.flags, (nx : Int), dd, gg⟩).toArray) HBK.out) (by simp [Value.oneCell']) (by have := HLW.out; unfold maxLen; omega) (by have := HLW.out; omega) HJ.out.low.size ?_
      intro v2 w2 hown2 hg2 _
      have hj2 := HJ.out.push (x := ⟨c.key, c.value, c.flags, (nx : Int), dd, gg⟩) hown2 hg2
      obtain ⟨a2, c2, hv2⟩ := Row.len hj2.irow
      obtain ⟨n2, hn2⟩ : ∃ k, k = (withoutL m.L c.key ++ ([⟨c.key, c.value, c.flags, (nx : Int), dd, gg⟩] : List ItemD)).length := ⟨_, rfl⟩
      rw [← hn2] at hv2
      subst hv2
      have HJ2 := Lib.hid hj2
      clear hown2 hg2 hj2 hn2
      refine hK.out _ _ (HS1.out.below HJ2.out.low) (fun hHeld2 => ?_)
      clear hK K
      try simp only [Act.put, List.setIfInBounds_toArray, List.set_cons_zero, List.set_cons_succ, List.getElem_toArray, List.getElem_cons_zero, List.getElem_cons_succ]
      refine wpAnyH_take (i := 11) (v := ?_) rfl (by kernel_rfl) (by kernel_rfl) (by kernel_rfl) (fun _ _ _ h => h) (Or.inl ⟨by rfl, ?_⟩) (by assumption) ?_
      rotate_left 1
      · ((intro w hSw; (try dsimp only at hSw); go_simp) <;> with_reducible rfl)
      try simp only [Act.put, List.setIfInBounds_toArray, List.set_cons_zero, List.set_cons_succ, List.getElem_toArray, List.getElem_cons_zero, List.getElem_cons_succ]
      refine wpAnyH_take (i := 14) (v := ?_) rfl (by kernel_rfl) (by kernel_rfl) (by kernel_rfl) (fun _ _ _ h => h) (Or.inl ⟨by rfl, ?_⟩) (by assumption) ?_
      rotate_left 1
      · ((intro w hSw; (try dsimp only at hSw); go_simp) <;> with_reducible rfl)
      try simp only [Act.put, List.setIfInBounds_toArray, List.set_cons_zero, List.set_cons_succ, List.getElem_toArray, List.getElem_cons_zero, List.getElem_cons_succ]
      refine wpAnyH_ready (rs := [15]) (by kernel_rfl) (by simp) ?_
      refine (AllReadyH.cons rfl (fun K hK => ?_) AllReadyH.nil)
      rw [if_pos (by rfl)]
      refine wp_store_mid 88 (.tmp 8) (.tmp 44) (by rfl) (w.heap.size + 1) 0 #[.int .u8 1, .int .u64 (nx : Int), .string ⟨#[]⟩, .string ⟨#[]⟩, .int .u32 0, .int .u64 0, .int .i64 0, .int .i64 0, .slice a2 n2 c2, .int .u64 (ep : Int), .int .u64 (nx : Int), .bool (!has)] (by rfl) (by rfl) (by have h := there_block (HRR.out _ HJ2.out.low); exact h) (by kernel_rfl) (by simp [Value.oneCell']) ?_
      have HQ := Lib.hid (setCells_whole (cells := #[.int .u8 1, .int .u64 (nx : Int), .string ⟨#[]⟩, .string ⟨#[]⟩, .int .u32 0, .int .u64 0, .int .i64 0, .int .i64 0, .slice a2 n2 c2, .int .u64 (ep : Int), .int .u64 (nx : Int), .bool (!has)]) (HRR.out _ HJ2.out.low) (by rfl))
      have hgr := (setCells_grown #[.int .u8 1, .int .u64 (nx : Int), .string ⟨#[]⟩, .string ⟨#[]⟩, .int .u32 0, .int .u64 0, .int .i64 0, .int .i64 0, .slice a2 n2 c2, .int .u64 (ep : Int), .int .u64 (nx : Int), .bool (!has)].toList 0 w2 (w.heap.size + 1)).1
      have HFJ := Lib.hid (HJ2.out.fin HBW.out hgr (Nat.le_succ _) HLT.out)
      have HS3 := Lib.hid ((HS1.out.below HJ2.out.low).store hgr HQN.out)
      clear hgr
      refine hK.out _ _ HS3.out (fun hHeld2 => ?_)
      clear hK K
      try simp only [Act.put, List.getElem_toArray, List.getElem_cons_zero, List.getElem_cons_succ]
      refine wpAnyH_done (by kernel_rfl) ?_ _
      clear hHeld2
      go_wp2_with (first | ((with_reducible show bodyPost _ _ _ Exit.ret _ _); exact bodyPost_ret (v := .agg #[.int .u8 1, .int .u64 (nx : Int), .string ⟨#[]⟩, .string ⟨#[]⟩, .int .u32 0, .int .u64 0, .int .i64 0, .int .i64 0, .slice a2 n2 c2, .int .u64 (ep : Int), .int .u64 (nx : Int), .bool (!has)]) (results_row_one rfl _ _ (w.heap.size + 1) _ _ _ _ (by rfl) HQ.out Tryz.underlying88 rfl (by kernel_rfl)) rfl ⟨_, rfl, HFJ.out⟩) | fail)
end Go.Proofs.YtaooangnnlopcaaGreatDoor
