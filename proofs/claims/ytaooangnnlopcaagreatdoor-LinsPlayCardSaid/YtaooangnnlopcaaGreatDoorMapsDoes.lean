/- A record put into a map; what Gives gives; a record dropped. Condition: the map lies behind its pointer. -/
import Derived.Test.YtaooangnnlopcaaGreatDoorMapsGives
import Derived.Test.YtaooangnnlopcaaGreatDoorMapsEq
import Derived.Test.YtaooangnnlopcaaGreatDoorLowA
namespace Go.Proofs.YtaooangnnlopcaaGreatDoor
open Go.RowKit Go.ChangeMaps Go.MapKept
/-- What a step on a map may change: its own block, and its own entries. -/
def MM (w : World) (p : Nat) : Nat → Prop := fun k => k = p ∨ w.cell? ⟨p, 0, none⟩ = some (.map (some k))
/-- Nothing but that has changed, and the map has its entries' block still, or a new one. -/
structure MChg (w : World) (p : Nat) (W : World) : Prop where
  chg : Chg (MM w p) w W
  own : ∀ i, i < w.heap.size → W.cell? ⟨p, 0, none⟩ = some (.map (some i)) → w.cell? ⟨p, 0, none⟩ = some (.map (some i))
theorem MChg.then {w W W' : World} {p : Nat} (h : MChg w p W) (h2 : MChg W p W') : MChg w p W' :=
  ⟨h.chg.then h2.chg (fun i hi hm => by
    rcases hm with e | e
    · exact .inl e
    · exact .inr (h.own i hi e)), fun i hi e => h.own i hi (h2.own i (Nat.lt_of_lt_of_le hi h.chg.size) e)⟩
theorem MChg.below {w W : World} {p : Nat} (h : Below w.heap.size w W) (hp : p < w.heap.size) : MChg w p W :=
  ⟨Chg.of_below h, fun i _ e => by rwa [h.cell (p := ⟨p, 0, none⟩) hp] at e⟩
theorem MChg.drew {w W : World} {p : Nat} (h : MChg w p W) : MChg w p W.drew := ⟨h.chg.drew, h.own⟩
theorem cset_mm (w : World) (p i : Nat) (hi : i ≠ 0) (v : Value) : MChg w p (w.setCell ⟨p, i, none⟩ v) :=
  ⟨⟨rfl, rfl, rfl, by simp, fun k _ hk => Below.heap_setCell w ⟨p, i, none⟩ v k (fun e => hk (.inl e))⟩, fun k _ e => by
    have h3 : (⟨p, i, none⟩ : Addr) ≠ ⟨p, 0, none⟩ := fun h => hi (congrArg Addr.off h)
    rw [World.cell?_setCell_other _ _ _ _ h3] at e
    exact e⟩
theorem MM.kind {w : World} {p k : Nat} {m : MapM} (h : MapAt w p m) (hk : MM w p k) : k = p ∨ ∃ es clock, w.heap[k]? = some (.map es clock) := by
  rcases hk with e | e
  · exact .inl e
  · obtain ⟨mb, hb, h⟩ := h
    rw [(cells_at hb 0).1] at e
    have e2 : mb = some k := by simpa using e
    rcases h with ⟨h1, -⟩ | ⟨b, h1, es, clock, E, h2, -⟩
    · rw [h1] at e2; cases e2
    · rw [e2] at h1
      cases h1
      exact .inr ⟨es, clock, h2⟩
theorem Chg.toMM {w W : World} {p b : Nat} (h : Chg (fun k => k = b) w W) (hp : p ≠ b) (hb : w.cell? ⟨p, 0, none⟩ = some (.map (some b))) : MChg w p W :=
  ⟨h.mono (fun i _ e => by subst e; exact .inr hb), fun i _ e => by rwa [h.cell hb hp, ← hb] at e⟩
theorem MapObj.isMap {w : World} {b : Nat} {L : List ItemD} (h : MapObj w b L) : ∃ es clock, w.heap[b]? = some (.map es clock) := by
  obtain ⟨es, clock, E, h, -⟩ := h
  exact ⟨es, clock, h⟩
/-- A store into the map's own block. -/
theorem MapAt.block {w : World} {p : Nat} {m : MapM} (h : MapAt w p m) : ∃ mb, w.heap[p]? = some (.cells #[.map mb, .int .u64 (m.epoch : Int), .int .u64 (m.ids : Int)] 57 (0, 0)) ∧ w.cell? ⟨p, 0, none⟩ = some (.map mb) ∧ (mb = none ∧ m.L = [] ∨ ∃ b, mb = some b ∧ MapObj w b m.L) := by
  obtain ⟨mb, hb, h⟩ := h
  exact ⟨mb, hb, (cells_at hb 0).1, h⟩
theorem MapAt.setEpoch {w : World} {p : Nat} {m : MapM} (h : MapAt w p m) (ep : Nat) : MapAt (w.setCell ⟨p, 1, none⟩ (.int .u64 (ep : Int))) p { m with epoch := ep } := by
  obtain ⟨mb, hb, -, h⟩ := h.block
  refine ⟨mb, by have := Go.Joins.block_setCell (i := 1) hb (.int .u64 (ep : Int)); simpa using this, h.imp id ?_⟩
  rintro ⟨b, rfl, es, clock, E, h3, h4⟩
  exact ⟨b, rfl, es, clock, E, by rw [Below.heap_setCell _ _ _ _ (by intro e; have e' : b = p := e; subst e'; rw [hb] at h3; cases h3)]; exact h3, h4⟩
theorem MapAt.setIds {w : World} {p : Nat} {m : MapM} (h : MapAt w p m) (n : Nat) : MapAt (w.setCell ⟨p, 2, none⟩ (.int .u64 (n : Int))) p { m with ids := n } := by
  obtain ⟨mb, hb, -, h⟩ := h.block
  refine ⟨mb, by have := Go.Joins.block_setCell (i := 2) hb (.int .u64 (n : Int)); simpa using this, h.imp id ?_⟩
  rintro ⟨b, rfl, es, clock, E, h3, h4⟩
  exact ⟨b, rfl, es, clock, E, by rw [Below.heap_setCell _ _ _ _ (by intro e; have e' : b = p := e; subst e'; rw [hb] at h3; cases h3)]; exact h3, h4⟩
theorem map_some (b : Nat) (W : World) : (binOp .eql 55 (.map (some b)) (.map none)).run Tryz.prog W = .ok (.bool false) W := by kernel_rfl
theorem map_none (W : World) : (binOp .eql 55 (.map none) (.map none)).run Tryz.prog W = .ok (.bool true) W := by kernel_rfl
section
variable {w : World} {p : Nat} {m : MapM} {x : ItemD}
set_option maxRecDepth 100000 in
set_option maxHeartbeats 4000000 in
theorem mapsPut_any (h : MapAt w p m) (hk : x.key.size ≤ maxLen) : Calls Tryz.prog 38 #[.pointer (some ⟨p, 0, none⟩), .agg #[.string x.key, .string x.value, .int .u32 x.flags, .int .u64 x.id, .int .i64 x.dies, .int .i64 x.gen]] w fun e w' => (∃ v, e = .returned v) ∧ MapAt w' p { m with L := withoutL m.L x.key ++ [x] } ∧ MChg w p w' := by
  obtain ⟨mb, hblk, c0, hmb⟩ := h.block
  have hp := h.lt
  have HM := Lib.hid h
  clear h
  rcases hmb with ⟨rfl, hL⟩ | ⟨b, rfl, ho⟩
  · have hs : (w.setCell ⟨p, 0, none⟩ (.map (some (w.heap.size + 1)))).heap.size = w.heap.size := by simp
    obtain ⟨h2a, h2b⟩ := heap_two (w.setCell ⟨p, 0, none⟩ (.map (some (w.heap.size + 1)))) (.cells #[.string x.key, .string x.value, .int .u32 x.flags, .int .u64 x.id, .int .i64 x.dies, .int .i64 x.gen] 38) (.map #[] 0)
    rw [hs] at h2a h2b
    obtain ⟨W0, hW0⟩ : ∃ X, X = ((w.setCell ⟨p, 0, none⟩ (.map (some (w.heap.size + 1)))).alloc (.cells #[.string x.key, .string x.value, .int .u32 x.flags, .int .u64 x.id, .int .i64 x.dies, .int .i64 x.gen] 38)).alloc (.map #[] 0) := ⟨_, rfl⟩
    have hb0 : W0.heap[w.heap.size]? = some (.cells #[.string x.key, .string x.value, .int .u32 x.flags, .int .u64 x.id, .int .i64 x.dies, .int .i64 x.gen] 38 (0, 0)) := by rw [hW0]; exact h2a
    have hp0 : W0.heap[p]? = some (.cells #[.map (some (w.heap.size + 1)), .int .u64 (m.epoch : Int), .int .u64 (m.ids : Int)] 57 (0, 0)) := by
      rw [hW0, heap_at, if_neg (by rw [size_at, hs]; omega), heap_at, if_neg (by rw [hs]; omega)]
      have := Go.Joins.block_setCell (i := 0) hblk (.map (some (w.heap.size + 1)))
      simpa using this
    have hbx : MChg w p W0 := by
      have hp00 := hp0
      rw [hW0] at hp00 ⊢
      exact ⟨((Chg.refl (MM w p) w).set (fun _ => .inl rfl) _).alloc _ |>.alloc _, fun i hi e => by
      have e2 := (cells_at hp00 0).1.symm.trans e
      simp at e2
      omega⟩
    have ho2 : MapObj W0 (w.heap.size + 1) [] := ⟨#[], 0, [], by rw [hW0]; exact h2b, rfl, List.Perm.refl _, List.nodup_nil⟩
    obtain ⟨w9, hrun, ho9, hch9⟩ := MapObj.put (w := W0.drew) ho2 hk
    have HXB := Lib.hid (show W0.rangeAt w.heap.size 0 [.string x.key, .string x.value, .int .u32 x.flags, .int .u64 x.id, .int .i64 x.dies, .int .i64 x.gen] from range_block hb0)
    have HC0 := Lib.hid (show W0.cell? ⟨p, 0, none⟩ = some (.map (some (w.heap.size + 1))) from (cells_at hp0 0).1)
    have hnb : w.heap.size ≠ w.heap.size + 1 := by omega
    have hpb : p ≠ w.heap.size + 1 := by omega
    have HX9 := Lib.hid (show w9.rangeAt w.heap.size 0 [.string x.key, .string x.value, .int .u32 x.flags, .int .u64 x.id, .int .i64 x.dies, .int .i64 x.gen] from range_block (hch9.obj (show W0.drew.heap[w.heap.size]? = some _ from hb0) hnb))
    have HC9 := Lib.hid (hch9.cell (HC0.out : W0.drew.cell? ⟨p, 0, none⟩ = _) hpb)
    have HCH := Lib.hid (hbx.drew.then (hch9.toMM hpb HC0.out))
    have HM9 := Lib.hid (show MapAt w9 p { m with L := withoutL m.L x.key ++ [x] } from ⟨some (w.heap.size + 1), hch9.obj (show W0.drew.heap[p]? = _ from hp0) hpb, .inr ⟨_, rfl, by rw [hL]; exact ho9⟩⟩)
    have f0 := (cells_at hblk 0).2
    obtain ⟨b1, hb1⟩ : ∃ b1, b1 = w.heap.size + 1 := ⟨_, rfl⟩
    rw [← hb1] at HC0 HC9 hrun
    have hmm := @run_makeMap Tryz.prog
    have hnil := map_none
    clear hb0 hp0 ho2 ho9 hch9 hnb hpb hbx h2a h2b hs hblk hL HM
    go_enter Tryz.func38, Tryz.ntmps38
    go_upto_region 3 with fail
    rw [← hW0]
    clear hW0 hmm hnil c0 f0 hb1
    refine wp_region_held_drew (S := fun W => W.cell? ⟨p, 0, none⟩ = some (.map (some b1)) ∧ W.rangeAt w.heap.size 0 [.string x.key, .string x.value, .int .u32 x.flags, .int .u64 x.id, .int .i64 x.dies, .int .i64 x.gen]) (by kernel_rfl) ⟨HC0.out, HXB.out⟩ (fun hHeld => ?_)
    refine tkq (i := 0) (v := ?_) rfl (by kernel_rfl) (fun _ _ _ h => h) (by rfl) ?_ (by assumption) ?_
    rotate_left 1
    · ((intro w hSw; (try dsimp only at hSw); go_simp) <;> with_reducible rfl)
    try simp only [Act.put, tzA, tzB, tzC, tzD, tzE]
    refine tkq (i := 1) (v := ?_) rfl (by kernel_rfl) (fun _ _ _ h => h) (by rfl) ?_ (by assumption) ?_
    rotate_left 1
    · ((intro w hSw; (try dsimp only at hSw); go_simp) <;> with_reducible rfl)
    try simp only [Act.put, tzA, tzB, tzC, tzD, tzE, tzF]
    refine tkq (i := 2) (v := ?_) rfl (by kernel_rfl) (fun _ _ _ h => h) (by rfl) ?_ (by assumption) ?_
    rotate_left 1
    · ((intro w hSw; (try dsimp only at hSw); go_simp) <;> with_reducible rfl)
    try simp only [Act.put, tzA, tzB, tzC, tzD, tzE, tzF]
    refine tkq (i := 3) (v := ?_) rfl (by kernel_rfl) (fun _ _ _ h => h) (by rfl) ?_ (by assumption) ?_
    rotate_left 1
    · ((intro w hSw; (try dsimp only at hSw); go_simp) <;> with_reducible rfl)
    try simp only [Act.put, tzA, tzB, tzC, tzD, tzE, tzF]
    refine tkq (i := 4) (v := ?_) rfl (by kernel_rfl) (fun _ _ _ h => h) (by rfl) ?_ (by assumption) ?_
    rotate_left 1
    · ((intro w hSw; (try dsimp only at hSw); go_simp) <;> with_reducible rfl)
    try simp only [Act.put, tzA, tzB, tzC, tzD, tzE, tzF]
    refine tkq (i := 5) (v := ?_) rfl (by kernel_rfl) (fun _ _ _ h => h) (by rfl) ?_ (by assumption) ?_
    rotate_left 1
    · ((intro w hSw; have hk0 : w.cell? ⟨_, 0, none⟩ = some (.string x.key) := hSw.2 0 _ rfl; go_simp) <;> with_reducible rfl)
    try simp only [Act.put, tzA, tzB, tzC, tzD, tzE, tzF]
    refine wpAnyH_take (i := 6) rfl (by kernel_rfl) (by kernel_rfl) (by kernel_rfl) (fun _ _ _ h => h) (yieldsIf_load_mid (by rfl) 38 (.tmp 3) (by rfl) w.heap.size 0 (by rfl) [.string x.key, .string x.value, .int .u32 x.flags, .int .u64 x.id, .int .i64 x.dies, .int .i64 x.gen] _ (fun w hSw => hSw.2) Tryz.underlying38 rfl (by kernel_rfl)) (by assumption) ?_
    try simp only [Act.put, tzA, tzB, tzC, tzD, tzE, tzF]
    refine wpAnyH_ready (rs := [7]) (by kernel_rfl) (by simp) ?_
    refine AllReadyH.cons rfl (fun K hK => ?_) AllReadyH.nil
    go_split_ands
    go_simp
    refine hK.out _ _ ⟨HC9.out, HX9.out⟩ (fun hHeld2 => ?_)
    clear hK K
    refine wpAnyH_done (by kernel_rfl) ?_ _
    clear hHeld2
    go_wp2_with fail
    exact bodyPost_end (results_none (by exact Tryz.results38) _ _ _) rfl ⟨⟨_, rfl⟩, HM9.out, HCH.out⟩
  · obtain ⟨W0, hW0⟩ : ∃ X, X = w.alloc (.cells #[.string x.key, .string x.value, .int .u32 x.flags, .int .u64 x.id, .int .i64 x.dies, .int .i64 x.gen] 38) := ⟨_, rfl⟩
    have hbx : Below w.heap.size w W0 := by rw [hW0]; exact (Below.refl _ _).alloc (Nat.le_refl _) _
    have hb0 : W0.heap[w.heap.size]? = some (.cells #[.string x.key, .string x.value, .int .u32 x.flags, .int .u64 x.id, .int .i64 x.dies, .int .i64 x.gen] 38 (0, 0)) := by rw [hW0, heap_at, if_pos rfl]
    have ho2 := (ho.below hbx)
    obtain ⟨w9, hrun, ho9, hch9⟩ := MapObj.put (w := W0.drew) ho2 hk
    have HO := Lib.hid ho
    have HXB := Lib.hid (show W0.rangeAt w.heap.size 0 [.string x.key, .string x.value, .int .u32 x.flags, .int .u64 x.id, .int .i64 x.dies, .int .i64 x.gen] from range_block hb0)
    have HC0 := Lib.hid (show W0.cell? ⟨p, 0, none⟩ = some (.map (some b)) from (hbx.cell (p := ⟨p, 0, none⟩) hp).trans c0)
    have hnb : w.heap.size ≠ b := by have := ho.lt; omega
    have hpb : p ≠ b := by
      intro e
      subst e
      obtain ⟨es, clock, E, h3, -⟩ := ho
      rw [h3] at hblk
      cases hblk
    have HX9 := Lib.hid (show w9.rangeAt w.heap.size 0 [.string x.key, .string x.value, .int .u32 x.flags, .int .u64 x.id, .int .i64 x.dies, .int .i64 x.gen] from range_block (hch9.obj (show W0.drew.heap[w.heap.size]? = some _ from hb0) hnb))
    have HC9 := Lib.hid (hch9.cell (HC0.out : W0.drew.cell? ⟨p, 0, none⟩ = _) hpb)
    have HCH := Lib.hid ((MChg.below (bdrew hbx) hp).then (hch9.toMM hpb HC0.out))
    have HM9 := Lib.hid (show MapAt w9 p { m with L := withoutL m.L x.key ++ [x] } from ⟨some b, hch9.obj (show W0.drew.heap[p]? = _ from (hbx.block p hp).trans hblk) hpb, .inr ⟨b, rfl, ho9⟩⟩)
    clear hb0 hblk ho ho2 ho9 hch9 hnb hpb hbx
    have hnil := map_some b
    have c0' := HC0.out
    rw [hW0] at c0'
    go_enter Tryz.func38, Tryz.ntmps38
    go_upto_region 3 with fail
    rw [← hW0]
    clear hW0 hnil c0'
    refine wp_region_held_drew (S := fun W => W.cell? ⟨p, 0, none⟩ = some (.map (some b)) ∧ W.rangeAt w.heap.size 0 [.string x.key, .string x.value, .int .u32 x.flags, .int .u64 x.id, .int .i64 x.dies, .int .i64 x.gen]) (by kernel_rfl) ⟨HC0.out, HXB.out⟩ (fun hHeld => ?_)
    refine tkq (i := 0) (v := ?_) rfl (by kernel_rfl) (fun _ _ _ h => h) (by rfl) ?_ (by assumption) ?_
    rotate_left 1
    · ((intro w hSw; (try dsimp only at hSw); go_simp) <;> with_reducible rfl)
    try simp only [Act.put, tzA, tzB, tzC, tzD, tzE]
    refine tkq (i := 1) (v := ?_) rfl (by kernel_rfl) (fun _ _ _ h => h) (by rfl) ?_ (by assumption) ?_
    rotate_left 1
    · ((intro w hSw; (try dsimp only at hSw); go_simp) <;> with_reducible rfl)
    try simp only [Act.put, tzA, tzB, tzC, tzD, tzE, tzF]
    refine tkq (i := 2) (v := ?_) rfl (by kernel_rfl) (fun _ _ _ h => h) (by rfl) ?_ (by assumption) ?_
    rotate_left 1
    · ((intro w hSw; (try dsimp only at hSw); go_simp) <;> with_reducible rfl)
    try simp only [Act.put, tzA, tzB, tzC, tzD, tzE, tzF]
    refine tkq (i := 3) (v := ?_) rfl (by kernel_rfl) (fun _ _ _ h => h) (by rfl) ?_ (by assumption) ?_
    rotate_left 1
    · ((intro w hSw; (try dsimp only at hSw); go_simp) <;> with_reducible rfl)
    try simp only [Act.put, tzA, tzB, tzC, tzD, tzE, tzF]
    refine tkq (i := 4) (v := ?_) rfl (by kernel_rfl) (fun _ _ _ h => h) (by rfl) ?_ (by assumption) ?_
    rotate_left 1
    · ((intro w hSw; (try dsimp only at hSw); go_simp) <;> with_reducible rfl)
    try simp only [Act.put, tzA, tzB, tzC, tzD, tzE, tzF]
    refine tkq (i := 5) (v := ?_) rfl (by kernel_rfl) (fun _ _ _ h => h) (by rfl) ?_ (by assumption) ?_
    rotate_left 1
    · ((intro w hSw; have hk0 : w.cell? ⟨_, 0, none⟩ = some (.string x.key) := hSw.2 0 _ rfl; go_simp) <;> with_reducible rfl)
    try simp only [Act.put, tzA, tzB, tzC, tzD, tzE, tzF]
    refine wpAnyH_take (i := 6) rfl (by kernel_rfl) (by kernel_rfl) (by kernel_rfl) (fun _ _ _ h => h) (yieldsIf_load_mid (by rfl) 38 (.tmp 3) (by rfl) w.heap.size 0 (by rfl) [.string x.key, .string x.value, .int .u32 x.flags, .int .u64 x.id, .int .i64 x.dies, .int .i64 x.gen] _ (fun w hSw => hSw.2) Tryz.underlying38 rfl (by kernel_rfl)) (by assumption) ?_
    try simp only [Act.put, tzA, tzB, tzC, tzD, tzE, tzF]
    refine wpAnyH_ready (rs := [7]) (by kernel_rfl) (by simp) ?_
    refine AllReadyH.cons rfl (fun K hK => ?_) AllReadyH.nil
    go_split_ands
    go_simp
    refine hK.out _ _ ⟨HC9.out, HX9.out⟩ (fun hHeld2 => ?_)
    clear hK K
    refine wpAnyH_done (by kernel_rfl) ?_ _
    clear hHeld2
    go_wp2_with fail
    exact bodyPost_end (results_none (by exact Tryz.results38) _ _ _) rfl ⟨⟨_, rfl⟩, HM9.out, HCH.out⟩
end
/-- What a call gives, zeros if nothing; was there a record; is anything given? -/
def gofM (m : MapM) (c : CallD) (ep : Nat) : GivD := (givesM m c ep).getD (saysG 0 0)
def isM (m : MapM) (c : CallD) (ep : Nat) : Bool := (givesM m c ep).isSome
def hsM (m : MapM) (c : CallD) (ep : Nat) : Bool := isM m c ep && (atL m.L c.key).isSome
theorem givesR_eq (m : MapM) (c : CallD) (ep : Nat) : givesR m c ep = .tuple #[.agg (givCells (gofM m c ep)), .bool (hsM m c ep), .bool (isM m c ep)] := by
  unfold givesR hsM isM gofM
  cases givesM m c ep <;> rfl
theorem ansM_eq (m : MapM) (c : CallD) (ep : Nat) : ansM m c ep = (gofM m c ep).ans := by
  unfold ansM gofM
  cases givesM m c ep <;> rfl
section
variable {w : World} {p : Nat} {m : MapM} {c : CallD} {ep : Nat}
end
theorem wp_delete {o : Oper} {a : Act} {w w' : World} {K : Act → World → Prop} {Q : Exit → Act → World → Prop} (m x : Operand) (hop : o.op = Op.call { callee := Callee.builtin Builtin.delete, args := #[m, x], argTypes := #[55, 9] }) (mb : Option Nat) (hm : a.eval m = .map mb) (k : ByteArray) (hx : a.eval x = .string k)
    (hrun : (Builtin.delete_ #[55, 9] o.type #[.map mb, .string k]).run Tryz.prog w = .ok (.tuple #[]) w') (hK : K (a.put o.dst (.tuple #[])) w') : Oper.wp Tryz.prog o a w K Q := by
  unfold Oper.wp
  simp [execOp, hop, resolve, invoke, builtin, hm, hx, hrun, Result.andThen]
  exact hK
/-- What holds maps' entries. -/
def IsMp (w : World) : Nat → Prop := fun k => ∃ es clock, w.heap[k]? = some (.map es clock)
theorem MapAt.dropRun {W : World} {p : Nat} {m : MapM} (h : MapAt W p m) {mb : Option Nat} (hmb : W.cell? ⟨p, 0, none⟩ = some (.map mb)) {k : ByteArray} (hk : k.size ≤ maxLen) (ty : TypeId) :
    ∃ w', (Builtin.delete_ #[55, 9] ty #[.map mb, .string k]).run Tryz.prog W = .ok (.tuple #[]) w' ∧ MapAt w' p { m with L := withoutL m.L k } ∧ Chg (IsMp W) W w' ∧ MChg W p w' := by
  obtain ⟨mb', hb, c0, h⟩ := h.block
  obtain rfl : mb' = mb := by
    rw [c0] at hmb
    simpa using hmb
  rcases h with ⟨rfl, hL⟩ | ⟨b, rfl, ho⟩
  · refine ⟨W, ?_, ⟨none, hb, .inl ⟨rfl, by show withoutL m.L k = []; rw [hL]; rfl⟩⟩, Chg.refl _ _, ⟨Chg.refl _ _, fun _ _ e => e⟩⟩
    have hck := fun em => str_keyed.check W em (key_str hk)
    simp [Builtin.delete_, run_underlying Tryz.underlying55, hck, Result.andThen]
  · obtain ⟨w', hrun, ho', hc⟩ := ho.drop hk ty
    have hm := ho.isMap
    have hne : p ≠ b := by
      intro e
      subst e
      obtain ⟨es, clock, e2⟩ := hm
      rw [e2] at hb
      cases hb
    exact ⟨w', hrun, ⟨some b, hc.obj hb hne, .inr ⟨b, rfl, ho'⟩⟩, hc.mono (fun i _ e => by subst e; exact hm), hc.toMM hne c0⟩
section
variable {w : World} {p : Nat} {m : MapM} {x : ItemD}
set_option maxRecDepth 100000 in
set_option maxHeartbeats 4000000 in
theorem mapsDrop_any (h : MapAt w p m) (hk : x.key.size ≤ maxLen) : Calls Tryz.prog 12 #[.pointer (some ⟨p, 0, none⟩), .agg #[.string x.key, .string x.value, .int .u32 x.flags, .int .u64 x.id, .int .i64 x.dies, .int .i64 x.gen]] w fun e w' => e = .returned (.bool (dropM m x).1) ∧ MapAt w' p (dropM m x).2 ∧ MChg w p w' := by
  obtain ⟨was, hwas⟩ : ∃ y, y = wasL m.L x.key := ⟨_, rfl⟩
  obtain ⟨has, hhas⟩ : ∃ b, b = (atL m.L x.key).isSome := ⟨_, rfl⟩
  have hno : (has = false ∨ ¬ was = x) → dropM m x = (false, m) := fun hc => by
    unfold dropM
    rw [if_neg]
    intro e
    rw [e] at hhas
    rw [show wasL m.L x.key = x from by unfold wasL; rw [e]; rfl] at hwas
    rcases hc with hc | hc
    · rw [hc] at hhas; cases hhas
    · exact hc hwas
  have hyes : has = true → was = x → dropM m x = (true, { m with L := withoutL m.L x.key }) := fun h1 h2 => by
    unfold dropM
    rw [if_pos]
    rw [h1] at hhas
    obtain ⟨y, hy⟩ := Option.isSome_iff_exists.1 hhas.symm
    rw [show wasL m.L x.key = y from by unfold wasL; rw [hy]; rfl] at hwas
    rw [hy, ← hwas, h2]
  have HAT := Lib.hid (fun W (hW : MapAt W p m) => (show Calls Tryz.prog 17 #[.pointer (some ⟨p, 0, none⟩), .string x.key] W fun e w' => e = .returned (.tuple #[.agg #[.string was.key, .string was.value, .int .u32 was.flags, .int .u64 was.id, .int .i64 was.dies, .int .i64 was.gen], .bool has]) ∧ Below W.heap.size W w' from by rw [hhas, hwas]; exact mapsAt_any hW hk))
  have HNO := Lib.hid hno
  have HYES := Lib.hid hyes
  clear hno hyes hwas hhas
  have HM := Lib.hid h
  have hp := h.lt
  clear h
  obtain ⟨W0, hW0⟩ : ∃ X, X = w.alloc (.cells #[.string x.key, .string x.value, .int .u32 x.flags, .int .u64 x.id, .int .i64 x.dies, .int .i64 x.gen] 38) := ⟨_, rfl⟩
  have hb0 : Below w.heap.size w W0 := by rw [hW0]; exact (Below.refl _ _).alloc (Nat.le_refl _) _
  have hx0 : W0.heap[w.heap.size]? = some (.cells #[.string x.key, .string x.value, .int .u32 x.flags, .int .u64 x.id, .int .i64 x.dies, .int .i64 x.gen] 38 (0, 0)) := by rw [hW0, heap_at, if_pos rfl]
  go_enter Tryz.func12, Tryz.ntmps12
  go_upto_region 1 with fail
  rw [← hW0]
  clear hW0
  have k0 : W0.cell? ⟨w.heap.size, 0, none⟩ = some (.string x.key) := (cells_at hx0 0).1
  have HB0 := Lib.hid hb0
  have HX0 := Lib.hid hx0
  clear hb0 hx0
  go_wp2_with fail
  refine (HAT.out _ (HM.out.below HB0.out)).mono ?_
  rintro e w1 ⟨rfl, hb1⟩
  have hlt : w.heap.size < W0.heap.size := (Array.getElem?_eq_some_iff.1 HX0.out).1
  have HX1 := Lib.hid ((hb1.block _ hlt).trans HX0.out)
  have HB1 := Lib.hid (HB0.out.trans (hb1.mono HB0.out.size))
  have HL1 := Lib.hid (Nat.lt_of_lt_of_le hlt hb1.size)
  clear hb1 hlt k0 HX0 HAT
  go_upto_region 2 with (first | (((with_reducible show wpList _ _ _ (⟨none, Op.store 38 _ _, _, _, _, _⟩ :: _) _ _); refine wpList_store_whole (by rfl) 38 (.tmp 5) (.tmp 12) (by rfl) w1.heap.size (by rfl) #[.string was.key, .string was.value, .int .u32 was.flags, .int .u64 was.id, .int .i64 was.dies, .int .i64 was.gen] (by rfl) _ 38 (heap_alloc_new _ _) (by rfl) (by kernel_rfl) (by simp [Value.oneCell']) ?_; intro w2 hr2 hg2 hs2); have HG2 := Lib.hid hg2; have HR2 := Lib.hid hr2; clear hg2 hr2 hs2) | fail)
  have HB2 := Lib.hid (grown_below (HB1.out.alloc HB1.out.size _) (by rw [size_at]; have := HB1.out.size; omega) HG2.out (fun k hk => by cases hk; exact HB1.out.size))
  have HX2 := Lib.hid ((HG2.out.block w.heap.size (by rw [size_at]; have := HL1.out; omega) (by have := HL1.out; simp; omega)).trans ((show (w1.alloc _).heap[w.heap.size]? = w1.heap[w.heap.size]? from by rw [heap_at, if_neg (by have := HL1.out; omega)]).trans HX1.out))
  have qe := run_item_ne was x
  cases hh : has
  · subst hh
    go_wp2_with fail
    go_ret
    rw [show dropM m x = (false, m) from HNO.out (.inl (by simp))]
    exact ⟨rfl, HM.out.below HB2.out, MChg.below HB2.out hp⟩
  · by_cases he : was = x
    · have hd : decide (was = x) = true := decide_eq_true he
      rw [hd] at qe
      simp only [Bool.not_true] at qe
      have y0 : w2.cell? ⟨w1.heap.size, 0, none⟩ = some (.string was.key) := (cells_at HR2.out 0).1
      have z0 : w2.cell? ⟨w.heap.size, 0, none⟩ = some (.string x.key) := (cells_at HX2.out 0).1
      have y1 : w2.cell? ⟨w1.heap.size, 1, none⟩ = some (.string was.value) := (cells_at HR2.out 1).1
      have z1 : w2.cell? ⟨w.heap.size, 1, none⟩ = some (.string x.value) := (cells_at HX2.out 1).1
      have y2 : w2.cell? ⟨w1.heap.size, 2, none⟩ = some (.int .u32 was.flags) := (cells_at HR2.out 2).1
      have z2 : w2.cell? ⟨w.heap.size, 2, none⟩ = some (.int .u32 x.flags) := (cells_at HX2.out 2).1
      have y3 : w2.cell? ⟨w1.heap.size, 3, none⟩ = some (.int .u64 was.id) := (cells_at HR2.out 3).1
      have z3 : w2.cell? ⟨w.heap.size, 3, none⟩ = some (.int .u64 x.id) := (cells_at HX2.out 3).1
      have y4 : w2.cell? ⟨w1.heap.size, 4, none⟩ = some (.int .i64 was.dies) := (cells_at HR2.out 4).1
      have z4 : w2.cell? ⟨w.heap.size, 4, none⟩ = some (.int .i64 x.dies) := (cells_at HX2.out 4).1
      have y5 : w2.cell? ⟨w1.heap.size, 5, none⟩ = some (.int .i64 was.gen) := (cells_at HR2.out 5).1
      have z5 : w2.cell? ⟨w.heap.size, 5, none⟩ = some (.int .i64 x.gen) := (cells_at HX2.out 5).1
      go_upto_region 4 with fail
      obtain ⟨mb, c0, -, -⟩ := (HM.out.below HB2.out).cells
      obtain ⟨w9, hrun, hm9, hci, hc9⟩ := MapAt.dropRun (W := w2.drew) (HM.out.below (bdrew HB2.out)) c0 hk 0
      have hbxn : ¬ IsMp w2.drew w.heap.size := by
        rintro ⟨es, clock, e⟩
        have e2 : w2.heap[w.heap.size]? = _ := e
        rw [HX2.out] at e2
        cases e2
      have hpn : ¬ IsMp w2.drew p := by
        rintro ⟨es, clock, e⟩
        obtain ⟨mb', e3, -⟩ := HM.out.below HB2.out
        have e2 : w2.heap[p]? = _ := e
        rw [e3] at e2
        cases e2
      have hx9 : w9.heap[w.heap.size]? = some (.cells #[.string x.key, .string x.value, .int .u32 x.flags, .int .u64 x.id, .int .i64 x.dies, .int .i64 x.gen] 38 (0, 0))   := hci.obj (show w2.drew.heap[w.heap.size]? = _ from HX2.out) hbxn
      have h90 := hci.cell (show w2.drew.cell? ⟨p, 0, none⟩ = some (.map mb) from c0) hpn
      have HS9 := Lib.hid (And.intro h90 (cells_at hx9 0).1)
      have HM9 := Lib.hid hm9
      have HC9 := Lib.hid ((MChg.below (bdrew HB2.out) hp).then hc9)
      have HRUN := Lib.hid hrun
      clear hm9 hc9 hci hx9 h90 hbxn hpn hrun qe y0 z0 y1 z1 y2 z2 y3 z3 y4 z4 y5 z5
      refine wp_region_held_drew (S := fun W => W.cell? ⟨p, 0, none⟩ = some (.map mb) ∧ W.cell? ⟨w.heap.size, 0, none⟩ = some (.string x.key)) (by kernel_rfl) ⟨c0, (cells_at HX2.out 0).1⟩ (fun hHeld => ?_)
      refine tkq (i := 0) (v := ?_) rfl (by kernel_rfl) (fun _ _ _ h => h) (by rfl) ?_ (by assumption) ?_
      rotate_left 1
      · ((intro w hSw; (try dsimp only at hSw); go_simp) <;> with_reducible rfl)
      try simp only [Act.put, tzA, tzB, tzC, tzD, tzE]
      refine tkq (i := 1) (v := ?_) rfl (by kernel_rfl) (fun _ _ _ h => h) (by rfl) ?_ (by assumption) ?_
      rotate_left 1
      · ((intro w hSw; (try dsimp only at hSw); go_simp) <;> with_reducible rfl)
      try simp only [Act.put, tzA, tzB, tzC, tzD, tzE, tzF]
      refine tkq (i := 2) (v := ?_) rfl (by kernel_rfl) (fun _ _ _ h => h) (by rfl) ?_ (by assumption) ?_
      rotate_left 1
      · ((intro w hSw; (try dsimp only at hSw); go_simp) <;> with_reducible rfl)
      try simp only [Act.put, tzA, tzB, tzC, tzD, tzE, tzF]
      refine tkq (i := 3) (v := ?_) rfl (by kernel_rfl) (fun _ _ _ h => h) (by rfl) ?_ (by assumption) ?_
      rotate_left 1
      · ((intro w hSw; (try dsimp only at hSw); go_simp) <;> with_reducible rfl)
      try simp only [Act.put, tzA, tzB, tzC, tzD, tzE, tzF]
      refine tkq (i := 4) (v := ?_) rfl (by kernel_rfl) (fun _ _ _ h => h) (by rfl) ?_ (by assumption) ?_
      rotate_left 1
      · ((intro w hSw; (try dsimp only at hSw); go_simp) <;> with_reducible rfl)
      try simp only [Act.put, tzA, tzB, tzC, tzD, tzE, tzF]
      refine tkq (i := 5) (v := ?_) rfl (by kernel_rfl) (fun _ _ _ h => h) (by rfl) ?_ (by assumption) ?_
      rotate_left 1
      · ((intro w hSw; (try dsimp only at hSw); go_simp) <;> with_reducible rfl)
      try simp only [Act.put, tzA, tzB, tzC, tzD, tzE, tzF]
      refine wpAnyH_ready (rs := [6]) (by kernel_rfl) (by simp) ?_
      refine AllReadyH.cons rfl (fun K hK => ?_) AllReadyH.nil
      rw [if_pos (by rfl)]
      refine wp_delete (.tmp 24) (.tmp 26) (by rfl) mb (by rfl) x.key (by rfl) HRUN.out ?_
      refine hK.out _ _ HS9.out (fun hHeld2 => ?_)
      clear hK K
      refine wpAnyH_done (by kernel_rfl) ?_ _
      clear hHeld2
      go_wp2_with fail
      go_ret
      rw [show dropM m x = (true, { m with L := withoutL m.L x.key }) from HYES.out hh he]
      exact ⟨rfl, HM9.out, HC9.out⟩
    · have hd : decide (was = x) = false := decide_eq_false he
      rw [hd] at qe
      simp only [Bool.not_false] at qe
      have y0 : w2.cell? ⟨w1.heap.size, 0, none⟩ = some (.string was.key) := (cells_at HR2.out 0).1
      have z0 : w2.cell? ⟨w.heap.size, 0, none⟩ = some (.string x.key) := (cells_at HX2.out 0).1
      have y1 : w2.cell? ⟨w1.heap.size, 1, none⟩ = some (.string was.value) := (cells_at HR2.out 1).1
      have z1 : w2.cell? ⟨w.heap.size, 1, none⟩ = some (.string x.value) := (cells_at HX2.out 1).1
      have y2 : w2.cell? ⟨w1.heap.size, 2, none⟩ = some (.int .u32 was.flags) := (cells_at HR2.out 2).1
      have z2 : w2.cell? ⟨w.heap.size, 2, none⟩ = some (.int .u32 x.flags) := (cells_at HX2.out 2).1
      have y3 : w2.cell? ⟨w1.heap.size, 3, none⟩ = some (.int .u64 was.id) := (cells_at HR2.out 3).1
      have z3 : w2.cell? ⟨w.heap.size, 3, none⟩ = some (.int .u64 x.id) := (cells_at HX2.out 3).1
      have y4 : w2.cell? ⟨w1.heap.size, 4, none⟩ = some (.int .i64 was.dies) := (cells_at HR2.out 4).1
      have z4 : w2.cell? ⟨w.heap.size, 4, none⟩ = some (.int .i64 x.dies) := (cells_at HX2.out 4).1
      have y5 : w2.cell? ⟨w1.heap.size, 5, none⟩ = some (.int .i64 was.gen) := (cells_at HR2.out 5).1
      have z5 : w2.cell? ⟨w.heap.size, 5, none⟩ = some (.int .i64 x.gen) := (cells_at HX2.out 5).1
      go_wp2_with fail
      go_ret
      rw [show dropM m x = (false, m) from HNO.out (.inr he)]
      exact ⟨rfl, HM.out.below HB2.out, MChg.below HB2.out hp⟩
end
end Go.Proofs.YtaooangnnlopcaaGreatDoor
