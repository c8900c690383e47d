/- Who is late, as the document has it (nestboxref37.Late). Condition: the history lies in memory. -/
import Derived.Test.YtaooangnnlopcaaGreatDoorLinROrd
import Derived.Test.YtaooangnnlopcaaGreatDoorLinLate
import Derived.Test.YtaooangnnlopcaaGreatDoorLowA
namespace Go.Proofs.YtaooangnnlopcaaGreatDoor
open Go.RowKit Go.ChangeMaps Go.MapKept
def NoLate (cs : List CalledD) (a : Nat) : Prop := ∀ a' b', a' < a → ¬ LateP cs a' b'
def NoLateAt (cs : List CalledD) (a b : Nat) : Prop := ∀ b', b' < b → ¬ LateP cs a b'
theorem NoLateAt.next {cs : List CalledD} {a b : Nat} (h : NoLateAt cs a b) (hn : ¬ LateP cs a b) : NoLateAt cs a (b + 1) := fun b' hb => by
  rcases Nat.lt_succ_iff_lt_or_eq.1 hb with h1 | h1
  · exact h b' h1
  · subst h1; exact hn
theorem not_late {cs : List CalledD} {a b : Nat} {x y : CalledD} (hx : cs[a]? = some x) (hy : cs[b]? = some y) (h : a = b ∨ ¬ x.till ≤ y.from' ∨ aheadB y x b a = false) : ¬ LateP cs a b := by
  rintro ⟨x', y', hx', hy', h1, h2, h3⟩
  rw [hx] at hx'; rw [hy] at hy'
  obtain rfl := Option.some.inj hx'
  obtain rfl := Option.some.inj hy'
  rcases h with h | h | h
  · exact h1 h
  · exact h h2
  · have h4 := aheadB_iff (x := y) (y := x) (a := b) (b := a)
    rw [h] at h4
    have h5 := h4.2 h3
    cases h5
set_option maxRecDepth 100000 in
set_option maxHeartbeats 16000000 in
theorem rlate_any {w : World} {cv dv : Value} {cs : List CalledD} {ds : List DropD} (h : HistAt w cv dv cs ds) (hn : cs.length + ds.length ≤ 1000000) : Calls Tryz.prog 27 #[.agg #[cv, dv]] w fun e w' => LateOk w cs e w' := by
  obtain ⟨ca, cc, rfl⟩ := h.calls.len
  obtain ⟨da, dc, rfl⟩ := h.drops.len
  have HH := Lib.hid h
  have hcl : cs.length ≤ 1000000 := by omega
  clear h
  go_enter Tryz.func27, Tryz.ntmps27
  go_upto_region 1 with fail
  obtain ⟨W0, hW0⟩ : ∃ X, X = w.alloc (.cells #[.slice ca cs.length cc, .slice da ds.length dc] 72) := ⟨_, rfl⟩
  have hb0 : Below w.heap.size w W0 := by rw [hW0]; exact (Below.refl _ _).alloc (Nat.le_refl _) _
  have hx0 : W0.heap[w.heap.size]? = some (.cells #[.slice ca cs.length cc, .slice da ds.length dc] 72 (0, 0)) := by rw [hW0, heap_at, if_pos rfl]
  rw [← hW0]
  clear hW0
  obtain ⟨ph, hph⟩ : ∃ z, z = w.heap.size := ⟨_, rfl⟩
  rw [← hph] at hx0 ⊢
  have hph0 : ph < W0.heap.size := (Array.getElem?_eq_some_iff.1 hx0).1
  have HH0 := Lib.hid (HH.out.below hb0)
  have HB0 := Lib.hid hb0
  have HPH := Lib.hid hph
  have HX := Lib.hid hx0
  clear hb0 hx0 hph
  go_upto_region 2 with fail
  go_loopw [4] (fun s4 wr => ∃ a : Nat, s4 = .int .i64 (a : Int) ∧ a ≤ cs.length ∧ Hid (NoLate cs a) ∧ Hid (Below W0.heap.size W0 wr)) (fun s4 _ => cs.length - (intOf s4).toNat)
  case atStart => exact ⟨0, rfl, Nat.zero_le _, Lib.hid (fun a' b' h => by omega), Lib.hid (Below.refl _ _)⟩
  case round =>
    obtain ⟨a, rfl, hal, HA, HB⟩ := hrel
    have k0 : wr.cell? ⟨ph, 0, none⟩ = some (.slice ca cs.length cc) := (HB.out.cell (p := ⟨ph, 0, none⟩) hph0).trans (cells_at HX.out 0).1
    obtain ⟨wo, rfl⟩ : ∃ wo : World, wo = wr := ⟨_, rfl⟩
    by_cases hlt : a < cs.length
    · obtain ⟨x, hx⟩ : ∃ x, cs[a]? = some x := ⟨_, List.getElem?_eq_getElem hlt⟩
      obtain ⟨g, o, c', hv, hg, hr⟩ := HH0.out.calls.get hx
      obtain ⟨rfl, -, rfl⟩ := slice_inj hv
      have ixa : ∀ W : World, (Instr.indexAt 69 (.slice (some ⟨g, o, none⟩) cs.length cc) (.int .i64 (a : Int))).run Tryz.prog W = .ok (.pointer (some ⟨g, o + a * 20, none⟩)) W := fun W => idx_rcalled rfl hlt W
      obtain ⟨oa, hoa⟩ : ∃ z, z = o + a * 20 := ⟨_, rfl⟩
      rw [← hoa] at ixa hr
      have HRA := Lib.hid hr
      have HXA := Lib.hid hx
      have HRR := Lib.hid (show ∀ (k : Nat) (y : CalledD), cs[k]? = some y → ∀ W, Below W0.heap.size W0 W → W.rangeAt g (o + k * 20) y.list from fun k y hk W hW => by
        obtain ⟨g2, o2, c2, hv2, -, hr2⟩ := HH0.out.calls.get hk
        obtain ⟨e2, -, -⟩ := slice_inj hv2
        obtain ⟨rfl, rfl⟩ : g = g2 ∧ o = o2 := by simpa using e2
        exact hr2 W hW)
      have ha6 : a ≤ 1000000 := by omega
      clear hoa hx hv hr
      go_upto_region 5 with fail
      go_loopw [5] (fun s5 wr => ∃ b : Nat, s5 = .int .i64 (b : Int) ∧ b ≤ cs.length ∧ Hid (NoLateAt cs a b) ∧ Hid (Below wo.heap.size wo wr)) (fun s5 _ => cs.length - (intOf s5).toNat)
      case atStart => exact ⟨0, rfl, Nat.zero_le _, Lib.hid (fun b' h => by omega), Lib.hid (Below.refl _ _)⟩
      case round =>
        obtain ⟨b, rfl, hbl, HN2, HBK⟩ := hrel
        have HBX := Lib.hid (HB.out.trans (HBK.out.mono HB.out.size))
        have k0 : wr.cell? ⟨ph, 0, none⟩ = some (.slice (some ⟨g, o, none⟩) cs.length cc) := (HBX.out.cell (p := ⟨ph, 0, none⟩) hph0).trans (cells_at HX.out 0).1
        have k1 : wr.cell? ⟨ph, 1, none⟩ = some (.slice da ds.length dc) := (HBX.out.cell (p := ⟨ph, 1, none⟩) hph0).trans (cells_at HX.out 1).1
        have hphr : ph < wr.heap.size := Nat.lt_of_lt_of_le hph0 HBX.out.size
        have hgr : g < wr.heap.size := Nat.lt_of_lt_of_le hg HBX.out.size
        by_cases hlt2 : b < cs.length
        · obtain ⟨y, hy⟩ : ∃ y, cs[b]? = some y := ⟨_, List.getElem?_eq_getElem hlt2⟩
          have ixb : ∀ W : World, (Instr.indexAt 69 (.slice (some ⟨g, o, none⟩) cs.length cc) (.int .i64 (b : Int))).run Tryz.prog W = .ok (.pointer (some ⟨g, o + b * 20, none⟩)) W := fun W => idx_rcalled rfl hlt2 W
          have hrb := HRR.out b y hy wr HBX.out
          obtain ⟨ob, hob⟩ : ∃ z, z = o + b * 20 := ⟨_, rfl⟩
          rw [← hob] at ixb hrb
          have x9 : wr.cell? ⟨g, oa + 9, none⟩ = some (.int .i64 x.till) := HRA.out wr HBX.out 9 _ rfl
          have y8 : wr.cell? ⟨g, ob + 8, none⟩ = some (.int .i64 y.from') := hrb 8 _ rfl
          have HY := Lib.hid hy
          have hb6 : b ≤ 1000000 := by omega
          clear hob hrb hy
          by_cases hab : a = b
          · have t1 : ((a : Int) != (b : Int)) = false := by rw [bne_eq_false_iff_eq]; omega
            have HNN := Lib.hid (HN2.out.next (not_late HXA.out HY.out (.inl hab)))
            clear hab
            go_upto_region 7 with fail
            refine wp_region_held_drew (S := fun W => W.cell? ⟨ph, 0, none⟩ = some (.slice (some ⟨g, o, none⟩) cs.length cc) ∧ W.cell? ⟨ph, 1, none⟩ = some (.slice da ds.length dc) ∧ W.cell? ⟨g, oa + 9, none⟩ = some (.int .i64 x.till) ∧ W.cell? ⟨g, ob + 8, none⟩ = some (.int .i64 y.from')) (by kernel_rfl) ⟨k0, k1, x9, y8⟩ (fun hHeld => ?_)
            refine tkq (i := 0) (v := ?_) rfl (by kernel_rfl) (fun _ _ _ h => h) (by rfl) ?_ (by assumption) ?_
            rotate_left 1
            · ((intro w hSw; (try dsimp only at hSw); go_simp) <;> with_reducible rfl)
            try simp only [Act.put, tzA, tzB, tzC, tzD, tzE]
            refine tkq (i := 1) (v := ?_) rfl (by kernel_rfl) (fun _ _ _ h => h) (by rfl) ?_ (by assumption) ?_
            rotate_left 1
            · ((intro w hSw; (try dsimp only at hSw); go_simp) <;> with_reducible rfl)
            try simp only [Act.put, tzA, tzB, tzC, tzD, tzE, tzF]
            refine tkq (i := 2) (v := ?_) rfl (by kernel_rfl) (fun _ _ _ h => h) (by rfl) ?_ (by assumption) ?_
            rotate_left 1
            · ((intro w hSw; (try dsimp only at hSw); go_simp) <;> with_reducible rfl)
            try simp only [Act.put, tzA, tzB, tzC, tzD, tzE, tzF]
            refine tkq (i := 3) (v := ?_) rfl (by kernel_rfl) (fun _ _ _ h => h) (by rfl) ?_ (by assumption) ?_
            rotate_left 1
            · ((intro w hSw; (try dsimp only at hSw); go_simp) <;> with_reducible rfl)
            try simp only [Act.put, tzA, tzB, tzC, tzD, tzE, tzF]
            refine tkn (i := 4) rfl (by kernel_rfl) (fun _ _ _ h => h) (by rfl) (by assumption) ?_
            try simp only [Act.put, tzA, tzB, tzC, tzD, tzE, tzF]
            refine tkn (i := 5) rfl (by kernel_rfl) (fun _ _ _ h => h) (by rfl) (by assumption) ?_
            try simp only [Act.put, tzA, tzB, tzC, tzD, tzE, tzF]
            refine tkn (i := 6) rfl (by kernel_rfl) (fun _ _ _ h => h) (by rfl) (by assumption) ?_
            try simp only [Act.put, tzA, tzB, tzC, tzD, tzE, tzF]
            refine tkn (i := 7) rfl (by kernel_rfl) (fun _ _ _ h => h) (by rfl) (by assumption) ?_
            try simp only [Act.put, tzA, tzB, tzC, tzD, tzE, tzF]
            refine tkn (i := 8) rfl (by kernel_rfl) (fun _ _ _ h => h) (by rfl) (by assumption) ?_
            try simp only [Act.put, tzA, tzB, tzC, tzD, tzE, tzF]
            refine tkn (i := 9) rfl (by kernel_rfl) (fun _ _ _ h => h) (by rfl) (by assumption) ?_
            try simp only [Act.put, tzA, tzB, tzC, tzD, tzE, tzF]
            refine tkn (i := 10) rfl (by kernel_rfl) (fun _ _ _ h => h) (by rfl) (by assumption) ?_
            try simp only [Act.put, tzA, tzB, tzC, tzD, tzE, tzF]
            refine tkn (i := 11) rfl (by kernel_rfl) (fun _ _ _ h => h) (by rfl) (by assumption) ?_
            try simp only [Act.put, tzA, tzB, tzC, tzD, tzE, tzF]
            refine tkn (i := 12) rfl (by kernel_rfl) (fun _ _ _ h => h) (by rfl) (by assumption) ?_
            try simp only [Act.put, tzA, tzB, tzC, tzD, tzE, tzF]
            refine tkn (i := 13) rfl (by kernel_rfl) (fun _ _ _ h => h) (by rfl) (by assumption) ?_
            try simp only [Act.put, tzA, tzB, tzC, tzD, tzE, tzF]
            refine tkn (i := 14) rfl (by kernel_rfl) (fun _ _ _ h => h) (by rfl) (by assumption) ?_
            try simp only [Act.put, tzA, tzB, tzC, tzD, tzE, tzF]
            refine tkn (i := 15) rfl (by kernel_rfl) (fun _ _ _ h => h) (by rfl) (by assumption) ?_
            try simp only [Act.put, tzA, tzB, tzC, tzD, tzE, tzF]
            refine tkn (i := 16) rfl (by kernel_rfl) (fun _ _ _ h => h) (by rfl) (by assumption) ?_
            try simp only [Act.put, tzA, tzB, tzC, tzD, tzE, tzF]
            refine tkq (i := 17) (v := ?_) rfl (by kernel_rfl) (fun _ _ _ h => h) (by rfl) ?_ (by assumption) ?_
            rotate_left 1
            · ((intro w hSw; (try dsimp only at hSw); go_simp) <;> with_reducible rfl)
            try simp only [Act.put, tzA, tzB, tzC, tzD, tzE, tzF]
            refine tkq (i := 18) (v := ?_) rfl (by kernel_rfl) (fun _ _ _ h => h) (by rfl) ?_ (by assumption) ?_
            rotate_left 1
            · ((intro w hSw; (try dsimp only at hSw); go_simp) <;> with_reducible rfl)
            try simp only [Act.put, tzA, tzB, tzC, tzD, tzE, tzF]
            refine tkn (i := 19) rfl (by kernel_rfl) (fun _ _ _ h => h) (by rfl) (by assumption) ?_
            try simp only [Act.put, tzA, tzB, tzC, tzD, tzE, tzF]
            refine tkn (i := 20) rfl (by kernel_rfl) (fun _ _ _ h => h) (by rfl) (by assumption) ?_
            try simp only [Act.put, tzA, tzB, tzC, tzD, tzE, tzF]
            refine tkn (i := 21) rfl (by kernel_rfl) (fun _ _ _ h => h) (by rfl) (by assumption) ?_
            try simp only [Act.put, tzA, tzB, tzC, tzD, tzE, tzF]
            refine tkn (i := 22) rfl (by kernel_rfl) (fun _ _ _ h => h) (by rfl) (by assumption) ?_
            try simp only [Act.put, tzA, tzB, tzC, tzD, tzE, tzF]
            refine tkq (i := 23) (v := ?_) rfl (by kernel_rfl) (fun _ _ _ h => h) (by rfl) ?_ (by assumption) ?_
            rotate_left 1
            · ((intro w hSw; (try dsimp only at hSw); go_simp) <;> with_reducible rfl)
            try simp only [Act.put, tzA, tzB, tzC, tzD, tzE, tzF]
            refine wpAnyH_done (by kernel_rfl) ?_ _
            clear hHeld
            go_wp2_with fail
            go_roundw
            case rel => exact ⟨b + 1, by go_num, by omega, HNN, Lib.hid HBK.out.drew⟩
            case measure => simp [intOf]; omega
          · have t1 : ((a : Int) != (b : Int)) = true := by rw [bne_iff_ne]; omega
            have HAB := Lib.hid hab
            clear hab
            by_cases htf : x.till ≤ y.from'
            · have HAH := Lib.hid (ahead_any (HH0.out.below HBX.out.drew) HY.out HXA.out)
              have HTF := Lib.hid htf
              obtain ⟨ab, hab2⟩ : ∃ z, z = aheadB y x b a := ⟨_, rfl⟩
              rw [← hab2] at HAH
              have HQ := Lib.hid hab2
              clear hab2
              cases ab
              · have HNN := Lib.hid (HN2.out.next (not_late HXA.out HY.out (.inr (.inr HQ.out.symm))))
                go_upto_region 7 with fail
                refine wp_region_held_drew (S := fun W => W.cell? ⟨ph, 0, none⟩ = some (.slice (some ⟨g, o, none⟩) cs.length cc) ∧ W.cell? ⟨ph, 1, none⟩ = some (.slice da ds.length dc) ∧ W.cell? ⟨g, oa + 9, none⟩ = some (.int .i64 x.till) ∧ W.cell? ⟨g, ob + 8, none⟩ = some (.int .i64 y.from')) (by kernel_rfl) ⟨k0, k1, x9, y8⟩ (fun hHeld => ?_)
                refine tkq (i := 0) (v := ?_) rfl (by kernel_rfl) (fun _ _ _ h => h) (by rfl) ?_ (by assumption) ?_
                rotate_left 1
                · ((intro w hSw; (try dsimp only at hSw); go_simp) <;> with_reducible rfl)
                try simp only [Act.put, tzA, tzB, tzC, tzD, tzE]
                refine tkq (i := 1) (v := ?_) rfl (by kernel_rfl) (fun _ _ _ h => h) (by rfl) ?_ (by assumption) ?_
                rotate_left 1
                · ((intro w hSw; (try dsimp only at hSw); go_simp) <;> with_reducible rfl)
                try simp only [Act.put, tzA, tzB, tzC, tzD, tzE, tzF]
                refine tkq (i := 2) (v := ?_) rfl (by kernel_rfl) (fun _ _ _ h => h) (by rfl) ?_ (by assumption) ?_
                rotate_left 1
                · ((intro w hSw; (try dsimp only at hSw); go_simp) <;> with_reducible rfl)
                try simp only [Act.put, tzA, tzB, tzC, tzD, tzE, tzF]
                refine tkq (i := 3) (v := ?_) rfl (by kernel_rfl) (fun _ _ _ h => h) (by rfl) ?_ (by assumption) ?_
                rotate_left 1
                · ((intro w hSw; (try dsimp only at hSw); go_simp) <;> with_reducible rfl)
                try simp only [Act.put, tzA, tzB, tzC, tzD, tzE, tzF]
                refine tkq (i := 4) (v := ?_) rfl (by kernel_rfl) (fun _ _ _ h => h) (by rfl) ?_ (by assumption) ?_
                rotate_left 1
                · ((intro w hSw; (try dsimp only at hSw); go_simp) <;> with_reducible rfl)
                try simp only [Act.put, tzA, tzB, tzC, tzD, tzE, tzF]
                refine tkq (i := 5) (v := ?_) rfl (by kernel_rfl) (fun _ _ _ h => h) (by rfl) ?_ (by assumption) ?_
                rotate_left 1
                · ((intro w hSw; (try dsimp only at hSw); obtain ⟨c0, c1, c2, c3⟩ := hSw; go_simp) <;> with_reducible rfl)
                try simp only [Act.put, tzA, tzB, tzC, tzD, tzE, tzF]
                refine tkq (i := 6) (v := ?_) rfl (by kernel_rfl) (fun _ _ _ h => h) (by rfl) ?_ (by assumption) ?_
                rotate_left 1
                · ((intro w hSw; (try dsimp only at hSw); go_simp) <;> with_reducible rfl)
                try simp only [Act.put, tzA, tzB, tzC, tzD, tzE, tzF]
                refine tkq (i := 7) (v := ?_) rfl (by kernel_rfl) (fun _ _ _ h => h) (by rfl) ?_ (by assumption) ?_
                rotate_left 1
                · ((intro w hSw; (try dsimp only at hSw); go_simp) <;> with_reducible rfl)
                try simp only [Act.put, tzA, tzB, tzC, tzD, tzE, tzF]
                refine tkq (i := 8) (v := ?_) rfl (by kernel_rfl) (fun _ _ _ h => h) (by rfl) ?_ (by assumption) ?_
                rotate_left 1
                · ((intro w hSw; (try dsimp only at hSw); go_simp) <;> with_reducible rfl)
                try simp only [Act.put, tzA, tzB, tzC, tzD, tzE, tzF]
                refine tkq (i := 9) (v := ?_) rfl (by kernel_rfl) (fun _ _ _ h => h) (by rfl) ?_ (by assumption) ?_
                rotate_left 1
                · ((intro w hSw; (try dsimp only at hSw); obtain ⟨c0, c1, c2, c3⟩ := hSw; go_simp) <;> with_reducible rfl)
                try simp only [Act.put, tzA, tzB, tzC, tzD, tzE, tzF]
                refine tkq (i := 10) (v := ?_) rfl (by kernel_rfl) (fun _ _ _ h => h) (by rfl) ?_ (by assumption) ?_
                rotate_left 1
                · ((intro w hSw; (try dsimp only at hSw); go_simp) <;> with_reducible rfl)
                try simp only [Act.put, tzA, tzB, tzC, tzD, tzE, tzF]
                refine tkq (i := 11) (v := ?_) rfl (by kernel_rfl) (fun _ _ _ h => h) (by rfl) ?_ (by assumption) ?_
                rotate_left 1
                · ((intro w hSw; (try dsimp only at hSw); obtain ⟨c0, c1, c2, c3⟩ := hSw; go_simp) <;> with_reducible rfl)
                try simp only [Act.put, tzA, tzB, tzC, tzD, tzE, tzF]
                refine tkq (i := 12) (v := ?_) rfl (by kernel_rfl) (fun _ _ _ h => h) (by rfl) ?_ (by assumption) ?_
                rotate_left 1
                · ((intro w hSw; (try dsimp only at hSw); go_simp) <;> with_reducible rfl)
                try simp only [Act.put, tzA, tzB, tzC, tzD, tzE, tzF]
                refine tkq (i := 13) (v := ?_) rfl (by kernel_rfl) (fun _ _ _ h => h) (by rfl) ?_ (by assumption) ?_
                rotate_left 1
                · ((intro w hSw; (try dsimp only at hSw); go_simp) <;> with_reducible rfl)
                try simp only [Act.put, tzA, tzB, tzC, tzD, tzE, tzF]
                refine tkq (i := 14) (v := ?_) rfl (by kernel_rfl) (fun _ _ _ h => h) (by rfl) ?_ (by assumption) ?_
                rotate_left 1
                · ((intro w hSw; (try dsimp only at hSw); go_simp) <;> with_reducible rfl)
                try simp only [Act.put, tzA, tzB, tzC, tzD, tzE, tzF]
                refine tkq (i := 15) (v := ?_) rfl (by kernel_rfl) (fun _ _ _ h => h) (by rfl) ?_ (by assumption) ?_
                rotate_left 1
                · ((intro w hSw; (try dsimp only at hSw); obtain ⟨c0, c1, c2, c3⟩ := hSw; go_simp) <;> with_reducible rfl)
                try simp only [Act.put, tzA, tzB, tzC, tzD, tzE, tzF]
                refine tkq (i := 16) (v := ?_) rfl (by kernel_rfl) (fun _ _ _ h => h) (by rfl) ?_ (by assumption) ?_
                rotate_left 1
                · ((intro w hSw; (try dsimp only at hSw); go_simp) <;> with_reducible rfl)
                try simp only [Act.put, tzA, tzB, tzC, tzD, tzE, tzF]
                refine tkq (i := 17) (v := ?_) rfl (by kernel_rfl) (fun _ _ _ h => h) (by rfl) ?_ (by assumption) ?_
                rotate_left 1
                · ((intro w hSw; (try dsimp only at hSw); go_simp) <;> with_reducible rfl)
                try simp only [Act.put, tzA, tzB, tzC, tzD, tzE, tzF]
                refine tkq (i := 18) (v := ?_) rfl (by kernel_rfl) (fun _ _ _ h => h) (by rfl) ?_ (by assumption) ?_
                rotate_left 1
                · ((intro w hSw; (try dsimp only at hSw); go_simp) <;> with_reducible rfl)
                try simp only [Act.put, tzA, tzB, tzC, tzD, tzE, tzF]
                refine tkq (i := 19) (v := ?_) rfl (by kernel_rfl) (fun _ _ _ h => h) (by rfl) ?_ (by assumption) ?_
                rotate_left 1
                · ((intro w hSw; (try dsimp only at hSw); obtain ⟨c0, c1, c2, c3⟩ := hSw; go_simp) <;> with_reducible rfl)
                try simp only [Act.put, tzA, tzB, tzC, tzD, tzE, tzF]
                refine tkq (i := 20) (v := ?_) rfl (by kernel_rfl) (fun _ _ _ h => h) (by rfl) ?_ (by assumption) ?_
                rotate_left 1
                · ((intro w hSw; (try dsimp only at hSw); go_simp) <;> with_reducible rfl)
                try simp only [Act.put, tzA, tzB, tzC, tzD, tzE, tzF]
                refine tkq (i := 21) (v := ?_) rfl (by kernel_rfl) (fun _ _ _ h => h) (by rfl) ?_ (by assumption) ?_
                rotate_left 1
                · ((intro w hSw; (try dsimp only at hSw); go_simp) <;> with_reducible rfl)
                try simp only [Act.put, tzA, tzB, tzC, tzD, tzE, tzF]
                refine wpAnyH_ready (rs := [22]) (by kernel_rfl) (by simp) ?_
                refine (AllReadyH.cons rfl (fun K hK => ?_) AllReadyH.nil)
                rw [if_pos (by rfl)]
                go_simp
                go_at_call 41
                refine HAH.out.mono ?_
                rintro e9 W9 ⟨rfl, hv9⟩
                have HV9 := Lib.hid hv9
                refine hK.out _ _ ⟨(hv9.cell (p := ⟨ph, 0, none⟩) hphr).trans k0, (hv9.cell (p := ⟨ph, 1, none⟩) hphr).trans k1, (hv9.cell (p := ⟨g, oa + 9, none⟩) hgr).trans x9, (hv9.cell (p := ⟨g, ob + 8, none⟩) hgr).trans y8⟩ (fun hHeld2 => ?_)
                clear hK K hv9
                try simp only [Act.put, tzA, tzB, tzC, tzD, tzE, tzF]
                refine tkq (i := 23) (v := ?_) rfl (by kernel_rfl) (fun _ _ _ h => h) (by rfl) ?_ (by assumption) ?_
                rotate_left 1
                · ((intro w hSw; (try dsimp only at hSw); go_simp) <;> with_reducible rfl)
                try simp only [Act.put, tzA, tzB, tzC, tzD, tzE, tzF]
                refine wpAnyH_done (by kernel_rfl) ?_ _
                clear hHeld
                clear hHeld2
                have HB9 := Lib.hid (HBK.out.drew.trans (HV9.out.mono HBK.out.size))
                clear HV9
                go_wp2_with fail
                go_roundw
                case rel => exact ⟨b + 1, by go_num, by omega, HNN, HB9⟩
                case measure => simp [intOf]; omega
              · have HLT := Lib.hid (show LateP cs a b from ⟨x, y, HXA.out, HY.out, HAB.out, HTF.out, aheadB_iff.1 HQ.out.symm⟩)
                go_upto_region 7 with fail
                refine wp_region_held_drew (S := fun W => W.cell? ⟨ph, 0, none⟩ = some (.slice (some ⟨g, o, none⟩) cs.length cc) ∧ W.cell? ⟨ph, 1, none⟩ = some (.slice da ds.length dc) ∧ W.cell? ⟨g, oa + 9, none⟩ = some (.int .i64 x.till) ∧ W.cell? ⟨g, ob + 8, none⟩ = some (.int .i64 y.from')) (by kernel_rfl) ⟨k0, k1, x9, y8⟩ (fun hHeld => ?_)
                refine tkq (i := 0) (v := ?_) rfl (by kernel_rfl) (fun _ _ _ h => h) (by rfl) ?_ (by assumption) ?_
                rotate_left 1
                · ((intro w hSw; (try dsimp only at hSw); go_simp) <;> with_reducible rfl)
                try simp only [Act.put, tzA, tzB, tzC, tzD, tzE]
                refine tkq (i := 1) (v := ?_) rfl (by kernel_rfl) (fun _ _ _ h => h) (by rfl) ?_ (by assumption) ?_
                rotate_left 1
                · ((intro w hSw; (try dsimp only at hSw); go_simp) <;> with_reducible rfl)
                try simp only [Act.put, tzA, tzB, tzC, tzD, tzE, tzF]
                refine tkq (i := 2) (v := ?_) rfl (by kernel_rfl) (fun _ _ _ h => h) (by rfl) ?_ (by assumption) ?_
                rotate_left 1
                · ((intro w hSw; (try dsimp only at hSw); go_simp) <;> with_reducible rfl)
                try simp only [Act.put, tzA, tzB, tzC, tzD, tzE, tzF]
                refine tkq (i := 3) (v := ?_) rfl (by kernel_rfl) (fun _ _ _ h => h) (by rfl) ?_ (by assumption) ?_
                rotate_left 1
                · ((intro w hSw; (try dsimp only at hSw); go_simp) <;> with_reducible rfl)
                try simp only [Act.put, tzA, tzB, tzC, tzD, tzE, tzF]
                refine tkq (i := 4) (v := ?_) rfl (by kernel_rfl) (fun _ _ _ h => h) (by rfl) ?_ (by assumption) ?_
                rotate_left 1
                · ((intro w hSw; (try dsimp only at hSw); go_simp) <;> with_reducible rfl)
                try simp only [Act.put, tzA, tzB, tzC, tzD, tzE, tzF]
                refine tkq (i := 5) (v := ?_) rfl (by kernel_rfl) (fun _ _ _ h => h) (by rfl) ?_ (by assumption) ?_
                rotate_left 1
                · ((intro w hSw; (try dsimp only at hSw); obtain ⟨c0, c1, c2, c3⟩ := hSw; go_simp) <;> with_reducible rfl)
                try simp only [Act.put, tzA, tzB, tzC, tzD, tzE, tzF]
                refine tkq (i := 6) (v := ?_) rfl (by kernel_rfl) (fun _ _ _ h => h) (by rfl) ?_ (by assumption) ?_
                rotate_left 1
                · ((intro w hSw; (try dsimp only at hSw); go_simp) <;> with_reducible rfl)
                try simp only [Act.put, tzA, tzB, tzC, tzD, tzE, tzF]
                refine tkq (i := 7) (v := ?_) rfl (by kernel_rfl) (fun _ _ _ h => h) (by rfl) ?_ (by assumption) ?_
                rotate_left 1
                · ((intro w hSw; (try dsimp only at hSw); go_simp) <;> with_reducible rfl)
                try simp only [Act.put, tzA, tzB, tzC, tzD, tzE, tzF]
                refine tkq (i := 8) (v := ?_) rfl (by kernel_rfl) (fun _ _ _ h => h) (by rfl) ?_ (by assumption) ?_
                rotate_left 1
                · ((intro w hSw; (try dsimp only at hSw); go_simp) <;> with_reducible rfl)
                try simp only [Act.put, tzA, tzB, tzC, tzD, tzE, tzF]
                refine tkq (i := 9) (v := ?_) rfl (by kernel_rfl) (fun _ _ _ h => h) (by rfl) ?_ (by assumption) ?_
                rotate_left 1
                · ((intro w hSw; (try dsimp only at hSw); obtain ⟨c0, c1, c2, c3⟩ := hSw; go_simp) <;> with_reducible rfl)
                try simp only [Act.put, tzA, tzB, tzC, tzD, tzE, tzF]
                refine tkq (i := 10) (v := ?_) rfl (by kernel_rfl) (fun _ _ _ h => h) (by rfl) ?_ (by assumption) ?_
                rotate_left 1
                · ((intro w hSw; (try dsimp only at hSw); go_simp) <;> with_reducible rfl)
                try simp only [Act.put, tzA, tzB, tzC, tzD, tzE, tzF]
                refine tkq (i := 11) (v := ?_) rfl (by kernel_rfl) (fun _ _ _ h => h) (by rfl) ?_ (by assumption) ?_
                rotate_left 1
                · ((intro w hSw; (try dsimp only at hSw); obtain ⟨c0, c1, c2, c3⟩ := hSw; go_simp) <;> with_reducible rfl)
                try simp only [Act.put, tzA, tzB, tzC, tzD, tzE, tzF]
                refine tkq (i := 12) (v := ?_) rfl (by kernel_rfl) (fun _ _ _ h => h) (by rfl) ?_ (by assumption) ?_
                rotate_left 1
                · ((intro w hSw; (try dsimp only at hSw); go_simp) <;> with_reducible rfl)
                try simp only [Act.put, tzA, tzB, tzC, tzD, tzE, tzF]
                refine tkq (i := 13) (v := ?_) rfl (by kernel_rfl) (fun _ _ _ h => h) (by rfl) ?_ (by assumption) ?_
                rotate_left 1
                · ((intro w hSw; (try dsimp only at hSw); go_simp) <;> with_reducible rfl)
                try simp only [Act.put, tzA, tzB, tzC, tzD, tzE, tzF]
                refine tkq (i := 14) (v := ?_) rfl (by kernel_rfl) (fun _ _ _ h => h) (by rfl) ?_ (by assumption) ?_
                rotate_left 1
                · ((intro w hSw; (try dsimp only at hSw); go_simp) <;> with_reducible rfl)
                try simp only [Act.put, tzA, tzB, tzC, tzD, tzE, tzF]
                refine tkq (i := 15) (v := ?_) rfl (by kernel_rfl) (fun _ _ _ h => h) (by rfl) ?_ (by assumption) ?_
                rotate_left 1
                · ((intro w hSw; (try dsimp only at hSw); obtain ⟨c0, c1, c2, c3⟩ := hSw; go_simp) <;> with_reducible rfl)
                try simp only [Act.put, tzA, tzB, tzC, tzD, tzE, tzF]
                refine tkq (i := 16) (v := ?_) rfl (by kernel_rfl) (fun _ _ _ h => h) (by rfl) ?_ (by assumption) ?_
                rotate_left 1
                · ((intro w hSw; (try dsimp only at hSw); go_simp) <;> with_reducible rfl)
                try simp only [Act.put, tzA, tzB, tzC, tzD, tzE, tzF]
                refine tkq (i := 17) (v := ?_) rfl (by kernel_rfl) (fun _ _ _ h => h) (by rfl) ?_ (by assumption) ?_
                rotate_left 1
                · ((intro w hSw; (try dsimp only at hSw); go_simp) <;> with_reducible rfl)
                try simp only [Act.put, tzA, tzB, tzC, tzD, tzE, tzF]
                refine tkq (i := 18) (v := ?_) rfl (by kernel_rfl) (fun _ _ _ h => h) (by rfl) ?_ (by assumption) ?_
                rotate_left 1
                · ((intro w hSw; (try dsimp only at hSw); go_simp) <;> with_reducible rfl)
                try simp only [Act.put, tzA, tzB, tzC, tzD, tzE, tzF]
                refine tkq (i := 19) (v := ?_) rfl (by kernel_rfl) (fun _ _ _ h => h) (by rfl) ?_ (by assumption) ?_
                rotate_left 1
                · ((intro w hSw; (try dsimp only at hSw); obtain ⟨c0, c1, c2, c3⟩ := hSw; go_simp) <;> with_reducible rfl)
                try simp only [Act.put, tzA, tzB, tzC, tzD, tzE, tzF]
                refine tkq (i := 20) (v := ?_) rfl (by kernel_rfl) (fun _ _ _ h => h) (by rfl) ?_ (by assumption) ?_
                rotate_left 1
                · ((intro w hSw; (try dsimp only at hSw); go_simp) <;> with_reducible rfl)
                try simp only [Act.put, tzA, tzB, tzC, tzD, tzE, tzF]
                refine tkq (i := 21) (v := ?_) rfl (by kernel_rfl) (fun _ _ _ h => h) (by rfl) ?_ (by assumption) ?_
                rotate_left 1
                · ((intro w hSw; (try dsimp only at hSw); go_simp) <;> with_reducible rfl)
                try simp only [Act.put, tzA, tzB, tzC, tzD, tzE, tzF]
                refine wpAnyH_ready (rs := [22]) (by kernel_rfl) (by simp) ?_
                refine (AllReadyH.cons rfl (fun K hK => ?_) AllReadyH.nil)
                rw [if_pos (by rfl)]
                go_simp
                go_at_call 41
                refine HAH.out.mono ?_
                rintro e9 W9 ⟨rfl, hv9⟩
                have HV9 := Lib.hid hv9
                refine hK.out _ _ ⟨(hv9.cell (p := ⟨ph, 0, none⟩) hphr).trans k0, (hv9.cell (p := ⟨ph, 1, none⟩) hphr).trans k1, (hv9.cell (p := ⟨g, oa + 9, none⟩) hgr).trans x9, (hv9.cell (p := ⟨g, ob + 8, none⟩) hgr).trans y8⟩ (fun hHeld2 => ?_)
                clear hK K hv9
                try simp only [Act.put, tzA, tzB, tzC, tzD, tzE, tzF]
                refine tkq (i := 23) (v := ?_) rfl (by kernel_rfl) (fun _ _ _ h => h) (by rfl) ?_ (by assumption) ?_
                rotate_left 1
                · ((intro w hSw; (try dsimp only at hSw); go_simp) <;> with_reducible rfl)
                try simp only [Act.put, tzA, tzB, tzC, tzD, tzE, tzF]
                refine wpAnyH_done (by kernel_rfl) ?_ _
                clear hHeld
                clear hHeld2
                have HB9 := Lib.hid (HBX.out.drew.trans (HV9.out.mono HBX.out.size))
                clear HV9
                go_wp2_with fail
                go_ret2
                exact ⟨_, _, rfl, .inr ⟨a, b, rfl, rfl, HLT.out, HA.out, HN2.out⟩, HB0.out.trans (HB9.out.mono HB0.out.size)⟩
            · have HNN := Lib.hid (HN2.out.next (not_late HXA.out HY.out (.inr (.inl htf))))
              have htf2 : y.from' < x.till := by omega
              go_upto_region 7 with fail
              refine wp_region_held_drew (S := fun W => W.cell? ⟨ph, 0, none⟩ = some (.slice (some ⟨g, o, none⟩) cs.length cc) ∧ W.cell? ⟨ph, 1, none⟩ = some (.slice da ds.length dc) ∧ W.cell? ⟨g, oa + 9, none⟩ = some (.int .i64 x.till) ∧ W.cell? ⟨g, ob + 8, none⟩ = some (.int .i64 y.from')) (by kernel_rfl) ⟨k0, k1, x9, y8⟩ (fun hHeld => ?_)
              refine tkq (i := 0) (v := ?_) rfl (by kernel_rfl) (fun _ _ _ h => h) (by rfl) ?_ (by assumption) ?_
              rotate_left 1
              · ((intro w hSw; (try dsimp only at hSw); go_simp) <;> with_reducible rfl)
              try simp only [Act.put, tzA, tzB, tzC, tzD, tzE]
              refine tkq (i := 1) (v := ?_) rfl (by kernel_rfl) (fun _ _ _ h => h) (by rfl) ?_ (by assumption) ?_
              rotate_left 1
              · ((intro w hSw; (try dsimp only at hSw); go_simp) <;> with_reducible rfl)
              try simp only [Act.put, tzA, tzB, tzC, tzD, tzE, tzF]
              refine tkq (i := 2) (v := ?_) rfl (by kernel_rfl) (fun _ _ _ h => h) (by rfl) ?_ (by assumption) ?_
              rotate_left 1
              · ((intro w hSw; (try dsimp only at hSw); go_simp) <;> with_reducible rfl)
              try simp only [Act.put, tzA, tzB, tzC, tzD, tzE, tzF]
              refine tkq (i := 3) (v := ?_) rfl (by kernel_rfl) (fun _ _ _ h => h) (by rfl) ?_ (by assumption) ?_
              rotate_left 1
              · ((intro w hSw; (try dsimp only at hSw); go_simp) <;> with_reducible rfl)
              try simp only [Act.put, tzA, tzB, tzC, tzD, tzE, tzF]
              refine tkq (i := 4) (v := ?_) rfl (by kernel_rfl) (fun _ _ _ h => h) (by rfl) ?_ (by assumption) ?_
              rotate_left 1
              · ((intro w hSw; (try dsimp only at hSw); go_simp) <;> with_reducible rfl)
              try simp only [Act.put, tzA, tzB, tzC, tzD, tzE, tzF]
              refine tkq (i := 5) (v := ?_) rfl (by kernel_rfl) (fun _ _ _ h => h) (by rfl) ?_ (by assumption) ?_
              rotate_left 1
              · ((intro w hSw; (try dsimp only at hSw); obtain ⟨c0, c1, c2, c3⟩ := hSw; go_simp) <;> with_reducible rfl)
              try simp only [Act.put, tzA, tzB, tzC, tzD, tzE, tzF]
              refine tkq (i := 6) (v := ?_) rfl (by kernel_rfl) (fun _ _ _ h => h) (by rfl) ?_ (by assumption) ?_
              rotate_left 1
              · ((intro w hSw; (try dsimp only at hSw); go_simp) <;> with_reducible rfl)
              try simp only [Act.put, tzA, tzB, tzC, tzD, tzE, tzF]
              refine tkq (i := 7) (v := ?_) rfl (by kernel_rfl) (fun _ _ _ h => h) (by rfl) ?_ (by assumption) ?_
              rotate_left 1
              · ((intro w hSw; (try dsimp only at hSw); go_simp) <;> with_reducible rfl)
              try simp only [Act.put, tzA, tzB, tzC, tzD, tzE, tzF]
              refine tkq (i := 8) (v := ?_) rfl (by kernel_rfl) (fun _ _ _ h => h) (by rfl) ?_ (by assumption) ?_
              rotate_left 1
              · ((intro w hSw; (try dsimp only at hSw); go_simp) <;> with_reducible rfl)
              try simp only [Act.put, tzA, tzB, tzC, tzD, tzE, tzF]
              refine tkq (i := 9) (v := ?_) rfl (by kernel_rfl) (fun _ _ _ h => h) (by rfl) ?_ (by assumption) ?_
              rotate_left 1
              · ((intro w hSw; (try dsimp only at hSw); obtain ⟨c0, c1, c2, c3⟩ := hSw; go_simp) <;> with_reducible rfl)
              try simp only [Act.put, tzA, tzB, tzC, tzD, tzE, tzF]
              refine tkq (i := 10) (v := ?_) rfl (by kernel_rfl) (fun _ _ _ h => h) (by rfl) ?_ (by assumption) ?_
              rotate_left 1
              · ((intro w hSw; (try dsimp only at hSw); go_simp) <;> with_reducible rfl)
              try simp only [Act.put, tzA, tzB, tzC, tzD, tzE, tzF]
              refine tkq (i := 11) (v := ?_) rfl (by kernel_rfl) (fun _ _ _ h => h) (by rfl) ?_ (by assumption) ?_
              rotate_left 1
              · ((intro w hSw; (try dsimp only at hSw); obtain ⟨c0, c1, c2, c3⟩ := hSw; go_simp) <;> with_reducible rfl)
              try simp only [Act.put, tzA, tzB, tzC, tzD, tzE, tzF]
              refine tkq (i := 12) (v := ?_) rfl (by kernel_rfl) (fun _ _ _ h => h) (by rfl) ?_ (by assumption) ?_
              rotate_left 1
              · ((intro w hSw; (try dsimp only at hSw); go_simp) <;> with_reducible rfl)
              try simp only [Act.put, tzA, tzB, tzC, tzD, tzE, tzF]
              refine tkq (i := 13) (v := ?_) rfl (by kernel_rfl) (fun _ _ _ h => h) (by rfl) ?_ (by assumption) ?_
              rotate_left 1
              · ((intro w hSw; (try dsimp only at hSw); go_simp) <;> with_reducible rfl)
              try simp only [Act.put, tzA, tzB, tzC, tzD, tzE, tzF]
              refine tkq (i := 14) (v := ?_) rfl (by kernel_rfl) (fun _ _ _ h => h) (by rfl) ?_ (by assumption) ?_
              rotate_left 1
              · ((intro w hSw; (try dsimp only at hSw); go_simp) <;> with_reducible rfl)
              try simp only [Act.put, tzA, tzB, tzC, tzD, tzE, tzF]
              refine tkq (i := 15) (v := ?_) rfl (by kernel_rfl) (fun _ _ _ h => h) (by rfl) ?_ (by assumption) ?_
              rotate_left 1
              · ((intro w hSw; (try dsimp only at hSw); obtain ⟨c0, c1, c2, c3⟩ := hSw; go_simp) <;> with_reducible rfl)
              try simp only [Act.put, tzA, tzB, tzC, tzD, tzE, tzF]
              refine tkq (i := 16) (v := ?_) rfl (by kernel_rfl) (fun _ _ _ h => h) (by rfl) ?_ (by assumption) ?_
              rotate_left 1
              · ((intro w hSw; (try dsimp only at hSw); go_simp) <;> with_reducible rfl)
              try simp only [Act.put, tzA, tzB, tzC, tzD, tzE, tzF]
              refine tkq (i := 17) (v := ?_) rfl (by kernel_rfl) (fun _ _ _ h => h) (by rfl) ?_ (by assumption) ?_
              rotate_left 1
              · ((intro w hSw; (try dsimp only at hSw); go_simp) <;> with_reducible rfl)
              try simp only [Act.put, tzA, tzB, tzC, tzD, tzE, tzF]
              refine tkq (i := 18) (v := ?_) rfl (by kernel_rfl) (fun _ _ _ h => h) (by rfl) ?_ (by assumption) ?_
              rotate_left 1
              · ((intro w hSw; (try dsimp only at hSw); go_simp) <;> with_reducible rfl)
              try simp only [Act.put, tzA, tzB, tzC, tzD, tzE, tzF]
              refine tkn (i := 19) rfl (by kernel_rfl) (fun _ _ _ h => h) (by rfl) (by assumption) ?_
              try simp only [Act.put, tzA, tzB, tzC, tzD, tzE, tzF]
              refine tkn (i := 20) rfl (by kernel_rfl) (fun _ _ _ h => h) (by rfl) (by assumption) ?_
              try simp only [Act.put, tzA, tzB, tzC, tzD, tzE, tzF]
              refine tkn (i := 21) rfl (by kernel_rfl) (fun _ _ _ h => h) (by rfl) (by assumption) ?_
              try simp only [Act.put, tzA, tzB, tzC, tzD, tzE, tzF]
              refine tkn (i := 22) rfl (by kernel_rfl) (fun _ _ _ h => h) (by rfl) (by assumption) ?_
              try simp only [Act.put, tzA, tzB, tzC, tzD, tzE, tzF]
              refine tkq (i := 23) (v := ?_) rfl (by kernel_rfl) (fun _ _ _ h => h) (by rfl) ?_ (by assumption) ?_
              rotate_left 1
              · ((intro w hSw; (try dsimp only at hSw); go_simp) <;> with_reducible rfl)
              try simp only [Act.put, tzA, tzB, tzC, tzD, tzE, tzF]
              refine wpAnyH_done (by kernel_rfl) ?_ _
              clear hHeld
              go_wp2_with fail
              go_roundw
              case rel => exact ⟨b + 1, by go_num, by omega, HNN, Lib.hid HBK.out.drew⟩
              case measure => simp [intOf]; omega
        · obtain rfl : b = cs.length := by omega
          have HNO := Lib.hid (show NoLate cs (a + 1) from fun a' b' ha' => by
            rcases Nat.lt_succ_iff_lt_or_eq.1 ha' with h | h
            · exact HA.out a' b' h
            · subst h
              rintro ⟨x', y', hx', hy', h1⟩
              exact HN2.out b' (List.getElem?_eq_some_iff.1 hy').1 ⟨x', y', hx', hy', h1⟩)
          go_wp2_with fail
          go_roundw
          case rel => exact ⟨a + 1, by go_num, by omega, HNO, HBX⟩
          case measure => simp [intOf]; omega
    · obtain rfl : a = cs.length := by omega
      have HNO := Lib.hid (show ∀ a' b', ¬ LateP cs a' b' from fun a' b' h => by
        obtain ⟨x', y', hx', hy', h1⟩ := h
        exact HA.out a' b' (List.getElem?_eq_some_iff.1 hx').1 ⟨x', y', hx', hy', h1⟩)
      go_wp2_with fail
      go_ret2
      exact ⟨_, _, rfl, .inl ⟨rfl, rfl, HNO.out⟩, HB0.out.trans (HB.out.mono HB0.out.size)⟩
end Go.Proofs.YtaooangnnlopcaaGreatDoor
