/- Whether a history is greater than what is gone through (great). Condition: the history lies in memory. -/
import Derived.Test.YtaooangnnlopcaaDoorLinLate
import Derived.Test.YtaooangnnlopcaaDoorLinEnd
namespace Go.Proofs.YtaooangnnlopcaaDoor
open Go.RowKit Go.ChangeMaps Go.MapKept
theorem low_drewNL {B : Nat} {w w' : World} (h : Below B w w') (n : Nat) : Below B w (w'.drewN n) := ⟨h.os, h.tape, h.output, h.size, h.block⟩
/-- What great answers. -/
def GreatIsL (cs : List CalledD) (ds : List DropD) (e : Ending) : Prop := ∃ b : Bool, e = .returned (.bool b) ∧ (b = false → cs.length ≤ 120 ∧ ds.length ≤ 60)
theorem greatIsL_or {cs : List CalledD} {ds : List DropD} {e : Ending} (b : Bool) (he : e = .returned (.bool ((b || decide ((120 : Int) < (cs.length : Int))) || decide ((60 : Int) < (ds.length : Int))))) : GreatIsL cs ds e := ⟨_, he, fun h => by
  rw [Bool.or_eq_false_iff, Bool.or_eq_false_iff, decide_eq_false_iff_not, decide_eq_false_iff_not] at h
  omega⟩
theorem wrap4 {n a b c d : Nat} (h : n + a + b + c + d < 4611686018427387904) : IntKind.i64.wrap (IntKind.i64.wrap (IntKind.i64.wrap (IntKind.i64.wrap ((n : Int) + (a : Int)) + (b : Int)) + (c : Int)) + (d : Int)) = ((n + a + b + c + d : Nat) : Int) := by
  rw [IntWalk.i64_in ((n : Int) + (a : Int)) (by omega), IntWalk.i64_in ((n : Int) + (a : Int) + (b : Int)) (by omega), IntWalk.i64_in ((n : Int) + (a : Int) + (b : Int) + (c : Int)) (by omega), IntWalk.i64_in ((n : Int) + (a : Int) + (b : Int) + (c : Int) + (d : Int)) (by omega)]
  omega
theorem wrap2L {n a b : Nat} (h : n + a + b < 4611686018427387904) : IntKind.i64.wrap (IntKind.i64.wrap ((n : Int) + (a : Int)) + (b : Int)) = ((n + a + b : Nat) : Int) := by
  rw [IntWalk.i64_in ((n : Int) + (a : Int)) (by omega), IntWalk.i64_in ((n : Int) + (a : Int) + (b : Int)) (by omega)]
  omega
set_option maxRecDepth 100000 in
set_option maxHeartbeats 8000000 in
theorem greatL_any {w : World} {cv dv : Value} {cs : List CalledD} {ds : List DropD} (h : HistAt w cv dv cs ds) : Calls Tryd.prog 26 #[.agg #[cv, dv]] w fun e w' => GreatIsL cs ds e ∧ Below w.heap.size w w' := by
  have hcm := h.calls.max
  have hdm := h.drops.max
  obtain ⟨ca, cc, rfl⟩ := h.calls.len
  obtain ⟨da, dc, rfl⟩ := h.drops.len
  unfold maxLen at hcm hdm
  have HH := Lib.hid h
  clear h
  go_enter Tryd.func26, Tryd.ntmps26
  go_upto_region 1 with fail
  obtain ⟨W0, hW0⟩ : ∃ X, X = w.alloc (.cells #[.slice ca cs.length cc, .slice da ds.length dc] 67) := ⟨_, rfl⟩
  have hb0 : Below w.heap.size w W0 := by rw [hW0]; exact (Below.refl _ _).alloc (Nat.le_refl _) _
  have hx0 : W0.heap[w.heap.size]? = some (.cells #[.slice ca cs.length cc, .slice da ds.length dc] 67 (0, 0)) := by rw [hW0, heap_at, if_pos rfl]
  rw [← hW0]
  clear hW0
  obtain ⟨ph, hph⟩ : ∃ z, z = w.heap.size := ⟨_, rfl⟩
  rw [← hph] at hx0 ⊢
  have hph0 : ph < W0.heap.size := (Array.getElem?_eq_some_iff.1 hx0).1
  have HX := Lib.hid hx0
  have HH0 := Lib.hid (HH.out.below hb0)
  have HB0 := Lib.hid hb0
  clear hb0 hx0 hph
  go_upto_region 3 with fail
  go_loopw [3, 4] (fun s3 s4 wr => ∃ (i n : Nat), s4 = .int .i64 (i : Int) ∧ s3 = .int .i64 (n : Int) ∧ i ≤ cs.length ∧ i ≤ 130 ∧ n ≤ 36000 * i ∧ Hid (Below W0.heap.size W0 wr)) (fun _ s4 _ => cs.length - (intOf s4).toNat)
  case atStart => exact ⟨0, 0, rfl, rfl, Nat.zero_le _, Nat.zero_le _, Nat.zero_le _, Lib.hid (Below.refl _ _)⟩
  case round =>
    obtain ⟨i, n, rfl, rfl, hi, hi2, hn, HLOW⟩ := hrel
    have k0 : wr.cell? ⟨ph, 0, none⟩ = some (.slice ca cs.length cc) := (HLOW.out.cell (p := ⟨ph, 0, none⟩) hph0).trans (cells_at HX.out 0).1
    have k1 : wr.cell? ⟨ph, 1, none⟩ = some (.slice da ds.length dc) := (HLOW.out.cell (p := ⟨ph, 1, none⟩) hph0).trans (cells_at HX.out 1).1
    by_cases hgo : i < cs.length ∧ i < 130
    · obtain ⟨hlt, hlt2⟩ := hgo
      obtain ⟨x, hx⟩ : ∃ x, cs[i]? = some x := ⟨_, List.getElem?_eq_getElem hlt⟩
      obtain ⟨g, o, c', hv, hg, hr⟩ := HH0.out.calls.get hx
      obtain ⟨rfl, -, rfl⟩ := slice_inj hv
      have hrr := hr wr HLOW.out
      have hgr : g < wr.heap.size := Nat.lt_of_lt_of_le hg HLOW.out.size
      have ix : ∀ W : World, (Instr.indexAt 64 (.slice (some ⟨g, o, none⟩) cs.length cc) (.int .i64 (i : Int))).run Tryd.prog W = .ok (.pointer (some ⟨g, o + i * 20, none⟩)) W := fun W => idx_called rfl hlt W
      obtain ⟨b, hb⟩ : ∃ b, b = o + i * 20 := ⟨_, rfl⟩
      rw [← hb] at ix hrr
      have HRB := Lib.hid hrr
      have hIs := HH.out.callsIs x (List.mem_of_getElem? hx)
      have s1 := hIs.key
      have s2 := hIs.value
      have s3 := hIs.ikey
      have s4 := hIs.ivalue
      unfold maxLen at s1 s2 s3 s4
      clear hb hx hv hr hrr hg hIs
      go_upto_region 6 with (first
        | ((with_reducible show wpList _ _ _ (⟨_, Op.load 60 _, _, _, _, _⟩ :: _) _ _); refine wpList_load_mid (by rfl) 60 (.tmp 21) (by rfl) g b (by rfl) x.list _ HRB.out Tryd.underlying60 rfl (by kernel_rfl) ?_)
        | ((with_reducible show wpList _ _ _ (⟨none, Op.store _ _ _, _, _, _, _⟩ :: _) _ _); refine wpList_store_whole (by rfl) 60 (.tmp 5) (.tmp 22) (by rfl) wr.heap.size (by rfl) x.cells (by rfl) calledZero 60 (by rw [heap_at, if_pos rfl]) (by rfl) (by kernel_rfl) (by simp [Value.oneCell']) ?_; intro w1 hw1 hgw1 hsw1; have hb1 : Below wr.heap.size wr w1 := ((Below.refl wr.heap.size wr).alloc (Nat.le_refl _) (.cells calledZero 60)).grown hgw1 (by simp) (fun k hk => by cases hk; exact Nat.le_refl _); clear hgw1 hsw1)
        | fail)
      obtain ⟨q, hq⟩ : ∃ z, z = wr.heap.size := ⟨_, rfl⟩
      rw [← hq] at hw1 ⊢
      have x2 := called_cell (i := 2) hw1 rfl rfl
      have x3 := called_cell (i := 3) hw1 rfl rfl
      have x12 := called_cell (i := 12) hw1 rfl rfl
      have x13 := called_cell (i := 13) hw1 rfl rfl
      have HB1 := Lib.hid (HLOW.out.trans (hb1.mono HLOW.out.size))
      clear hq hw1 hb1 HLOW HRB
      obtain ⟨z1, hz1⟩ : ∃ k, k = min x.call.key.size 9000 := ⟨_, rfl⟩
      have a1 : min (x.call.key.size : Int) 9000 = (z1 : Int) := by omega
      have c1 : z1 ≤ 9000 := by omega
      obtain ⟨z2, hz2⟩ : ∃ k, k = min x.call.value.size 9000 := ⟨_, rfl⟩
      have a2 : min (x.call.value.size : Int) 9000 = (z2 : Int) := by omega
      have c2 : z2 ≤ 9000 := by omega
      obtain ⟨z3, hz3⟩ : ∃ k, k = min x.ans.item.key.size 9000 := ⟨_, rfl⟩
      have a3 : min (x.ans.item.key.size : Int) 9000 = (z3 : Int) := by omega
      have c3 : z3 ≤ 9000 := by omega
      obtain ⟨z4, hz4⟩ : ∃ k, k = min x.ans.item.value.size 9000 := ⟨_, rfl⟩
      have a4 : min (x.ans.item.value.size : Int) 9000 = (z4 : Int) := by omega
      have c4 : z4 ≤ 9000 := by omega
      clear hz1 s1 hz2 s2 hz3 s3 hz4 s4
      rw [show ∀ (a : Act) (v : Value), a.put none v = a from fun _ _ => rfl]
      go_wp2_with fail
      go_roundw
      case rel => exact ⟨i + 1, n + z1 + z2 + z3 + z4, by go_num, int_congr (by omega), by omega, by omega, by omega, HB1⟩
      case measure => simp [intOf]; omega
    · have HN := Lib.hid hn
      obtain ⟨wo, rfl⟩ : ∃ wo : World, wo = wr := ⟨_, rfl⟩
      obtain ⟨n0, hn0⟩ : ∃ z, z = n := ⟨_, rfl⟩
      have hend : ¬ (i < cs.length) ∨ ¬ (i < 130) := by omega
      have hn1 : n ≤ 4680000 := by omega
      clear hgo hn hn0 HN
      go_upto_region 3 with fail
      go_cut [15] (fun s15 wx => s15 = .bool false ∧ wo = wx)
      case first =>
        by_cases h1 : i < cs.length
        · have h2 : ¬ (i : Int) < 130 := by omega
          clear hend
          go_wp2_with fail
          go_meet
          case rel => exact ⟨rfl, rfl⟩
        · clear hend
          go_wp2_with fail
          go_meet
          case rel => exact ⟨rfl, rfl⟩
      case rest =>
      obtain ⟨rfl, rfl⟩ := hcut
      clear hend hi hi2 k0 k1
      go_upto_region 8 with fail
      go_loopw [3, 6] (fun s3 s6 wr => ∃ (j n : Nat), s6 = .int .i64 (j : Int) ∧ s3 = .int .i64 (n : Int) ∧ j ≤ ds.length ∧ j ≤ 130 ∧ n ≤ 4680000 + 18000 * j ∧ Hid (Below W0.heap.size W0 wr)) (fun _ s6 _ => ds.length - (intOf s6).toNat)
      case atStart => exact ⟨0, n, rfl, rfl, Nat.zero_le _, Nat.zero_le _, by omega, HLOW⟩
      case round =>
        clear HLOW hn1
        obtain ⟨j, n, rfl, rfl, hj, hj2, hn, HLOW⟩ := hrel
        have k0 : wr.cell? ⟨ph, 0, none⟩ = some (.slice ca cs.length cc) := (HLOW.out.cell (p := ⟨ph, 0, none⟩) hph0).trans (cells_at HX.out 0).1
        have k1 : wr.cell? ⟨ph, 1, none⟩ = some (.slice da ds.length dc) := (HLOW.out.cell (p := ⟨ph, 1, none⟩) hph0).trans (cells_at HX.out 1).1
        by_cases hgo : j < ds.length ∧ j < 130
        · obtain ⟨hlt, hlt2⟩ := hgo
          obtain ⟨x, hx⟩ : ∃ x, ds[j]? = some x := ⟨_, List.getElem?_eq_getElem hlt⟩
          obtain ⟨g, o, c', hv, hg, hr⟩ := HH0.out.drops.get hx
          obtain ⟨rfl, -, rfl⟩ := slice_inj hv
          have hrr := hr wr HLOW.out
          have ix : ∀ W : World, (Instr.indexAt 65 (.slice (some ⟨g, o, none⟩) ds.length dc) (.int .i64 (j : Int))).run Tryd.prog W = .ok (.pointer (some ⟨g, o + j * 7, none⟩)) W := fun W => idx_drop rfl hlt W
          obtain ⟨b, hb⟩ : ∃ b, b = o + j * 7 := ⟨_, rfl⟩
          rw [← hb] at ix hrr
          have x1 : wr.cell? ⟨g, b + 1, none⟩ = some (.string x.item.key) := hrr 1 _ rfl
          have x2 : wr.cell? ⟨g, b + 2, none⟩ = some (.string x.item.value) := hrr 2 _ rfl
          have hIs := HH.out.dropsIs x (List.mem_of_getElem? hx)
          have s1 := hIs.key
          have s2 := hIs.value
          unfold maxLen at s1 s2
          clear hb hx hv hr hrr hg hIs
          obtain ⟨z1, hz1⟩ : ∃ k, k = min x.item.key.size 9000 := ⟨_, rfl⟩
          have a1 : min (x.item.key.size : Int) 9000 = (z1 : Int) := by omega
          have c1 : z1 ≤ 9000 := by omega
          obtain ⟨z2, hz2⟩ : ∃ k, k = min x.item.value.size 9000 := ⟨_, rfl⟩
          have a2 : min (x.item.value.size : Int) 9000 = (z2 : Int) := by omega
          have c2 : z2 ≤ 9000 := by omega
          clear hz1 s1 hz2 s2
          have w1 : IntKind.i64.wrap ((n : Int) + (z1 : Int)) = ((n + z1 : Nat) : Int) := IntWalk.i64_in _ (by omega)
          have w2 : IntKind.i64.wrap (((n + z1 : Nat) : Int) + (z2 : Int)) = ((n + z1 + z2 : Nat) : Int) := IntWalk.i64_in _ (by omega)
          go_upto_region 10 with fail
          go_quiet (fail)
          go_wp2_with fail
          go_roundw
          case rel => exact ⟨j + 1, n + z1 + z2, by go_num, int_congr (by omega), by omega, by omega, by omega, Lib.hid (low_drewNL HLOW.out _)⟩
          case measure => simp [intOf]; omega
        · have hend : ¬ (j < ds.length) ∨ ¬ (j < 130) := by omega
          have HFB := Lib.hid (HB0.out.trans (HLOW.out.mono HB0.out.size))
          have hn9 : n ≤ 9000000 := by omega
          obtain ⟨wq, rfl⟩ : ∃ wq : World, wq = wr := ⟨_, rfl⟩
          clear hgo hn
          go_upto_region 8 with fail
          go_cut [58] (fun s58 wx => s58 = .bool false ∧ wq = wx)
          case first =>
            by_cases h1 : j < ds.length
            · have h2 : ¬ (j : Int) < 130 := by omega
              clear hend
              go_wp2_with fail
              go_meet
              case rel => exact ⟨rfl, rfl⟩
            · clear hend
              go_wp2_with fail
              go_meet
              case rel => exact ⟨rfl, rfl⟩
          case rest =>
          obtain ⟨rfl, rfl⟩ := hcut
          clear hend
          by_cases t1 : 9000 < n
          · go_wp2_with fail
            go_ret
            exact ⟨greatIsL_or true rfl, HFB.out⟩
          · by_cases t2 : 120 < cs.length
            · go_wp2_with fail
              go_ret
              exact ⟨⟨true, rfl, fun h => by cases h⟩, HFB.out⟩
            · go_wp2_with fail
              go_ret
              exact ⟨greatIsL_or (decide ((9000 : Int) < (n : Int))) rfl, HFB.out⟩
end Go.Proofs.YtaooangnnlopcaaDoor
