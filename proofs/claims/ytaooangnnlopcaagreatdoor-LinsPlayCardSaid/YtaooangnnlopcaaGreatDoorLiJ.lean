/- Whether a history is greater than what is gone through (great). Condition: the history lies in memory. The chapter's examples (lives). Condition: the library's tables lie as they are laid. -/
import Derived.Test.YtaooangnnlopcaaGreatDoorLinLate
import Derived.Test.YtaooangnnlopcaaGreatDoorLinEnd
namespace Go.Proofs.YtaooangnnlopcaaGreatDoor
open Go.RowKit Go.ChangeMaps Go.MapKept
theorem low_drewNL {B : Nat} {w w' : World} (h : Below B w w') (n : Nat) : Below B w (w'.drewN n) := ⟨h.os, h.tape, h.output, h.size, h.block⟩
/-- What great answers. -/
def GreatIsL (cs : List CalledD) (ds : List DropD) (e : Ending) : Prop := ∃ b : Bool, e = .returned (.bool b) ∧ (b = false → cs.length ≤ 120 ∧ ds.length ≤ 60)
theorem greatIsL_or {cs : List CalledD} {ds : List DropD} {e : Ending} (b : Bool) (he : e = .returned (.bool ((b || decide ((120 : Int) < (cs.length : Int))) || decide ((60 : Int) < (ds.length : Int))))) : GreatIsL cs ds e := ⟨_, he, fun h => by
  rw [Bool.or_eq_false_iff, Bool.or_eq_false_iff, decide_eq_false_iff_not, decide_eq_false_iff_not] at h
  omega⟩
set_option maxRecDepth 100000 in
set_option maxHeartbeats 8000000 in
theorem greatL_any {w : World} {cv dv : Value} {cs : List CalledD} {ds : List DropD} (h : HistAt w cv dv cs ds) : Calls Tryz.prog 22 #[.agg #[cv, dv]] w fun e w' => GreatIsL cs ds e ∧ Below w.heap.size w w' := by
  have hcm := h.calls.max
  have hdm := h.drops.max
  obtain ⟨ca, cc, rfl⟩ := h.calls.len
  obtain ⟨da, dc, rfl⟩ := h.drops.len
  unfold maxLen at hcm hdm
  have HH := Lib.hid h
  clear h
  go_enter Tryz.func22, Tryz.ntmps22
  go_upto_region 1 with fail
  obtain ⟨W0, hW0⟩ : ∃ X, X = w.alloc (.cells #[.slice ca cs.length cc, .slice da ds.length dc] 64) := ⟨_, rfl⟩
  have hb0 : Below w.heap.size w W0 := by rw [hW0]; exact (Below.refl _ _).alloc (Nat.le_refl _) _
  have hx0 : W0.heap[w.heap.size]? = some (.cells #[.slice ca cs.length cc, .slice da ds.length dc] 64 (0, 0)) := by rw [hW0, heap_at, if_pos rfl]
  rw [← hW0]
  clear hW0
  obtain ⟨ph, hph⟩ : ∃ z, z = w.heap.size := ⟨_, rfl⟩
  rw [← hph] at hx0 ⊢
  have hph0 : ph < W0.heap.size := (Array.getElem?_eq_some_iff.1 hx0).1
  have HX := Lib.hid hx0
  have HH0 := Lib.hid (HH.out.below hb0)
  have HB0 := Lib.hid hb0
  clear hb0 hx0 hph
  go_upto_region 3 with fail
  go_loopw [3, 4] (fun s3 s4 wr => ∃ (i n : Nat), s4 = .int .i64 (i : Int) ∧ s3 = .int .i64 (n : Int) ∧ i ≤ cs.length ∧ i ≤ 130 ∧ n ≤ 36000 * i ∧ Hid (Below W0.heap.size W0 wr)) (fun _ s4 _ => cs.length - (intOf s4).toNat)
  case atStart => exact ⟨0, 0, rfl, rfl, Nat.zero_le _, Nat.zero_le _, Nat.zero_le _, Lib.hid (Below.refl _ _)⟩
  case round =>
    obtain ⟨i, n, rfl, rfl, hi, hi2, hn, HLOW⟩ := hrel
    have k0 : wr.cell? ⟨ph, 0, none⟩ = some (.slice ca cs.length cc) := (HLOW.out.cell (p := ⟨ph, 0, none⟩) hph0).trans (cells_at HX.out 0).1
    have k1 : wr.cell? ⟨ph, 1, none⟩ = some (.slice da ds.length dc) := (HLOW.out.cell (p := ⟨ph, 1, none⟩) hph0).trans (cells_at HX.out 1).1
    by_cases hgo : i < cs.length ∧ i < 130
    · obtain ⟨hlt, hlt2⟩ := hgo
      obtain ⟨x, hx⟩ : ∃ x, cs[i]? = some x := ⟨_, List.getElem?_eq_getElem hlt⟩
      obtain ⟨g, o, c', hv, hg, hr⟩ := HH0.out.calls.get hx
      obtain ⟨rfl, -, rfl⟩ := slice_inj hv
      have hrr := hr wr HLOW.out
      have hgr : g < wr.heap.size := Nat.lt_of_lt_of_le hg HLOW.out.size
      have ix : ∀ W : World, (Instr.indexAt 61 (.slice (some ⟨g, o, none⟩) cs.length cc) (.int .i64 (i : Int))).run Tryz.prog W = .ok (.pointer (some ⟨g, o + i * 20, none⟩)) W := fun W => idx_called rfl hlt W
      obtain ⟨b, hb⟩ : ∃ b, b = o + i * 20 := ⟨_, rfl⟩
      rw [← hb] at ix hrr
      have HRB := Lib.hid hrr
      have hIs := HH.out.callsIs x (List.mem_of_getElem? hx)
      have s1 := hIs.key
      have s2 := hIs.value
      have s3 := hIs.ikey
      have s4 := hIs.ivalue
      unfold maxLen at s1 s2 s3 s4
      clear hb hx hv hr hrr hg hIs
      go_upto_region 6 with (first
        | ((with_reducible show wpList _ _ _ (⟨_, Op.load 42 _, _, _, _, _⟩ :: _) _ _); refine wpList_load_mid (by rfl) 42 (.tmp 21) (by rfl) g b (by rfl) x.list _ HRB.out Tryz.underlying42 rfl (by kernel_rfl) ?_)
        | ((with_reducible show wpList _ _ _ (⟨none, Op.store _ _ _, _, _, _, _⟩ :: _) _ _); refine wpList_store_whole (by rfl) 42 (.tmp 5) (.tmp 22) (by rfl) wr.heap.size (by rfl) x.cells (by rfl) calledZero 42 (by rw [heap_at, if_pos rfl]) (by rfl) (by kernel_rfl) (by simp [Value.oneCell']) ?_; intro w1 hw1 hgw1 hsw1; have hb1 : Below wr.heap.size wr w1 := ((Below.refl wr.heap.size wr).alloc (Nat.le_refl _) (.cells calledZero 42)).grown hgw1 (by simp) (fun k hk => by cases hk; exact Nat.le_refl _); clear hgw1 hsw1)
        | fail)
      obtain ⟨q, hq⟩ : ∃ z, z = wr.heap.size := ⟨_, rfl⟩
      rw [← hq] at hw1 ⊢
      have x2 := called_cell (i := 2) hw1 rfl rfl
      have x3 := called_cell (i := 3) hw1 rfl rfl
      have x12 := called_cell (i := 12) hw1 rfl rfl
      have x13 := called_cell (i := 13) hw1 rfl rfl
      have HB1 := Lib.hid (HLOW.out.trans (hb1.mono HLOW.out.size))
      clear hq hw1 hb1 HLOW HRB
      obtain ⟨z1, hz1⟩ : ∃ k, k = min x.call.key.size 9000 := ⟨_, rfl⟩
      have a1 : min (x.call.key.size : Int) 9000 = (z1 : Int) := by omega
      have c1 : z1 ≤ 9000 := by omega
      obtain ⟨z2, hz2⟩ : ∃ k, k = min x.call.value.size 9000 := ⟨_, rfl⟩
      have a2 : min (x.call.value.size : Int) 9000 = (z2 : Int) := by omega
      have c2 : z2 ≤ 9000 := by omega
      obtain ⟨z3, hz3⟩ : ∃ k, k = min x.ans.item.key.size 9000 := ⟨_, rfl⟩
      have a3 : min (x.ans.item.key.size : Int) 9000 = (z3 : Int) := by omega
      have c3 : z3 ≤ 9000 := by omega
      obtain ⟨z4, hz4⟩ : ∃ k, k = min x.ans.item.value.size 9000 := ⟨_, rfl⟩
      have a4 : min (x.ans.item.value.size : Int) 9000 = (z4 : Int) := by omega
      have c4 : z4 ≤ 9000 := by omega
      clear hz1 s1 hz2 s2 hz3 s3 hz4 s4
      rw [show ∀ (a : Act) (v : Value), a.put none v = a from fun _ _ => rfl]
      go_wp2_with fail
      go_roundw
      case rel => exact ⟨i + 1, n + z1 + z2 + z3 + z4, by go_num, int_congr (by omega), by omega, by omega, by omega, HB1⟩
      case measure => simp [intOf]; omega
    · have HN := Lib.hid hn
      obtain ⟨wo, rfl⟩ : ∃ wo : World, wo = wr := ⟨_, rfl⟩
      obtain ⟨n0, hn0⟩ : ∃ z, z = n := ⟨_, rfl⟩
      have hend : ¬ (i < cs.length) ∨ ¬ (i < 130) := by omega
      have hn1 : n ≤ 4680000 := by omega
      clear hgo hn hn0 HN
      go_upto_region 3 with fail
      go_cut [15] (fun s15 wx => s15 = .bool false ∧ wo = wx)
      case first =>
        by_cases h1 : i < cs.length
        · have h2 : ¬ (i : Int) < 130 := by omega
          clear hend
          go_wp2_with fail
          go_meet
          case rel => exact ⟨rfl, rfl⟩
        · clear hend
          go_wp2_with fail
          go_meet
          case rel => exact ⟨rfl, rfl⟩
      case rest =>
      obtain ⟨rfl, rfl⟩ := hcut
      clear hend hi hi2 k0 k1
      go_upto_region 8 with fail
      go_loopw [3, 6] (fun s3 s6 wr => ∃ (j n : Nat), s6 = .int .i64 (j : Int) ∧ s3 = .int .i64 (n : Int) ∧ j ≤ ds.length ∧ j ≤ 130 ∧ n ≤ 4680000 + 18000 * j ∧ Hid (Below W0.heap.size W0 wr)) (fun _ s6 _ => ds.length - (intOf s6).toNat)
      case atStart => exact ⟨0, n, rfl, rfl, Nat.zero_le _, Nat.zero_le _, by omega, HLOW⟩
      case round =>
        clear HLOW hn1
        obtain ⟨j, n, rfl, rfl, hj, hj2, hn, HLOW⟩ := hrel
        have k0 : wr.cell? ⟨ph, 0, none⟩ = some (.slice ca cs.length cc) := (HLOW.out.cell (p := ⟨ph, 0, none⟩) hph0).trans (cells_at HX.out 0).1
        have k1 : wr.cell? ⟨ph, 1, none⟩ = some (.slice da ds.length dc) := (HLOW.out.cell (p := ⟨ph, 1, none⟩) hph0).trans (cells_at HX.out 1).1
        by_cases hgo : j < ds.length ∧ j < 130
        · obtain ⟨hlt, hlt2⟩ := hgo
          obtain ⟨x, hx⟩ : ∃ x, ds[j]? = some x := ⟨_, List.getElem?_eq_getElem hlt⟩
          obtain ⟨g, o, c', hv, hg, hr⟩ := HH0.out.drops.get hx
          obtain ⟨rfl, -, rfl⟩ := slice_inj hv
          have hrr := hr wr HLOW.out
          have ix : ∀ W : World, (Instr.indexAt 62 (.slice (some ⟨g, o, none⟩) ds.length dc) (.int .i64 (j : Int))).run Tryz.prog W = .ok (.pointer (some ⟨g, o + j * 7, none⟩)) W := fun W => idx_drop rfl hlt W
          obtain ⟨b, hb⟩ : ∃ b, b = o + j * 7 := ⟨_, rfl⟩
          rw [← hb] at ix hrr
          have x1 : wr.cell? ⟨g, b + 1, none⟩ = some (.string x.item.key) := hrr 1 _ rfl
          have x2 : wr.cell? ⟨g, b + 2, none⟩ = some (.string x.item.value) := hrr 2 _ rfl
          have hIs := HH.out.dropsIs x (List.mem_of_getElem? hx)
          have s1 := hIs.key
          have s2 := hIs.value
          unfold maxLen at s1 s2
          clear hb hx hv hr hrr hg hIs
          obtain ⟨z1, hz1⟩ : ∃ k, k = min x.item.key.size 9000 := ⟨_, rfl⟩
          have a1 : min (x.item.key.size : Int) 9000 = (z1 : Int) := by omega
          have c1 : z1 ≤ 9000 := by omega
          obtain ⟨z2, hz2⟩ : ∃ k, k = min x.item.value.size 9000 := ⟨_, rfl⟩
          have a2 : min (x.item.value.size : Int) 9000 = (z2 : Int) := by omega
          have c2 : z2 ≤ 9000 := by omega
          clear hz1 s1 hz2 s2
          have w1 : IntKind.i64.wrap ((n : Int) + (z1 : Int)) = ((n + z1 : Nat) : Int) := IntWalk.i64_in _ (by omega)
          have w2 : IntKind.i64.wrap (((n + z1 : Nat) : Int) + (z2 : Int)) = ((n + z1 + z2 : Nat) : Int) := IntWalk.i64_in _ (by omega)
          go_upto_region 10 with fail
          go_quiet (fail)
          go_wp2_with fail
          go_roundw
          case rel => exact ⟨j + 1, n + z1 + z2, by go_num, int_congr (by omega), by omega, by omega, by omega, Lib.hid (low_drewNL HLOW.out _)⟩
          case measure => simp [intOf]; omega
        · have hend : ¬ (j < ds.length) ∨ ¬ (j < 130) := by omega
          have HFB := Lib.hid (HB0.out.trans (HLOW.out.mono HB0.out.size))
          have hn9 : n ≤ 9000000 := by omega
          obtain ⟨wq, rfl⟩ : ∃ wq : World, wq = wr := ⟨_, rfl⟩
          clear hgo hn
          go_upto_region 8 with fail
          go_cut [58] (fun s58 wx => s58 = .bool false ∧ wq = wx)
          case first =>
            by_cases h1 : j < ds.length
            · have h2 : ¬ (j : Int) < 130 := by omega
              clear hend
              go_wp2_with fail
              go_meet
              case rel => exact ⟨rfl, rfl⟩
            · clear hend
              go_wp2_with fail
              go_meet
              case rel => exact ⟨rfl, rfl⟩
          case rest =>
          obtain ⟨rfl, rfl⟩ := hcut
          clear hend
          by_cases t1 : 9000 < n
          · go_wp2_with fail
            go_ret
            exact ⟨greatIsL_or true rfl, HFB.out⟩
          · by_cases t2 : 120 < cs.length
            · go_wp2_with fail
              go_ret
              exact ⟨⟨true, rfl, fun h => by cases h⟩, HFB.out⟩
            · go_wp2_with fail
              go_ret
              exact ⟨greatIsL_or (decide ((9000 : Int) < (n : Int))) rfl, HFB.out⟩
end Go.Proofs.YtaooangnnlopcaaGreatDoor
namespace Go.Proofs.YtaooangnnlopcaaGreatDoor
open Go.RowKit Go.ChangeMaps Go.MapKept
abbrev exS : CalledD := ⟨0, ⟨3, ⟨#[97]⟩, ⟨#[]⟩, 0, 0, 0, 0⟩, 0, 20, ⟨1, 1, ⟨⟨#[]⟩, ⟨#[]⟩, 0, 0, 0, 0⟩⟩, 0, 12⟩
abbrev exG1 (f t p : Int) : CalledD := ⟨1, ⟨1, ⟨#[97]⟩, ⟨#[]⟩, 0, 0, 0, 0⟩, f, t, ⟨12, 0, ⟨⟨#[]⟩, ⟨#[]⟩, 0, 0, 0, 0⟩⟩, 0, p⟩
theorem exL1 : linH [exS, exG1 15 27 18] [] = 1 := by rfl
theorem exL2 : linH [exS, exG1 15 27 9] [] = -2 := by rfl
theorem exL3 : linH [exG1 5 15 9, exS] [] = -1 := by rfl
theorem exL4 : (endH [exG1 5 15 9, exS] []).L.length = 1 := by rfl
abbrev cellsS : Array Value := #[.int .i64 0, .int .u8 3, .string ⟨#[97]⟩, .string ⟨#[]⟩, .int .u32 0, .int .i64 0, .int .u64 0, .int .u64 0, .int .i64 0, .int .i64 20, .int .u8 1, .int .u64 1, .string ⟨#[]⟩, .string ⟨#[]⟩, .int .u32 0, .int .u64 0, .int .i64 0, .int .i64 0, .int .u64 0, .int .i64 12]
abbrev cellsG (f t p : Int) : Array Value := #[.int .i64 1, .int .u8 1, .string ⟨#[97]⟩, .string ⟨#[]⟩, .int .u32 0, .int .i64 0, .int .u64 0, .int .u64 0, .int .i64 f, .int .i64 t, .int .u8 12, .int .u64 0, .string ⟨#[]⟩, .string ⟨#[]⟩, .int .u32 0, .int .u64 0, .int .i64 0, .int .i64 0, .int .u64 0, .int .i64 p]
theorem exIs : CalledIs exS := ⟨by unfold I64; decide, by unfold I64; decide, by unfold I64; decide, by unfold I64; decide, by decide, by decide, by decide, by decide, by decide, by decide, by decide, by decide⟩
theorem exGa : CalledIs (exG1 15 27 18) := ⟨by unfold I64; decide, by unfold I64; decide, by unfold I64; decide, by unfold I64; decide, by decide, by decide, by decide, by decide, by decide, by decide, by decide, by decide⟩
theorem exGb : CalledIs (exG1 15 27 9) := ⟨by unfold I64; decide, by unfold I64; decide, by unfold I64; decide, by unfold I64; decide, by decide, by decide, by decide, by decide, by decide, by decide, by decide, by decide⟩
theorem exGc : CalledIs (exG1 5 15 9) := ⟨by unfold I64; decide, by unfold I64; decide, by unfold I64; decide, by unfold I64; decide, by decide, by decide, by decide, by decide, by decide, by decide, by decide, by decide⟩
theorem hist_two {W : World} {p : Nat} {x y : CalledD} (hb : W.heap[p]? = some (.cells (x.cells ++ y.cells) 42 (0, 0))) (hx : CalledIs x) (hy : CalledIs y) : HistAt W (.slice (some ⟨p, 0, none⟩) 2 2) (.slice none 0 0) [x, y] [] := by
  refine ⟨⟨_, 2, rfl, Nat.le_refl _, by unfold maxLen; decide, (fun h => by cases h), fun j z hj => ⟨p, 0, rfl, (Array.getElem?_eq_some_iff.1 hb).1, fun i u hu => ?_⟩⟩, RRow.nil, fun z hz => ?_, fun z hz => by cases hz⟩
  · have hc := (cells_at hb (j * 20 + i)).1
    rw [Nat.zero_add]
    rw [hc]
    have hi : i < 20 := (List.getElem?_eq_some_iff.1 hu).1
    match j, hj with
    | 0, hj =>
      obtain rfl : x = z := by simpa using hj
      rw [Nat.zero_mul, Nat.zero_add, Array.getElem?_append_left (by show i < 20; exact hi)]
      simpa using hu
    | 1, hj =>
      obtain rfl : y = z := by simpa using hj
      rw [Array.getElem?_append_right (by show 20 ≤ _; omega), show 1 * 20 + i - x.cells.size = i from by show 1 * 20 + i - 20 = i; omega]
      simpa using hu
    | j + 2, hj => simp at hj
  · simp only [List.mem_cons, List.not_mem_nil, or_false] at hz
    rcases hz with rfl | rfl
    · exact hx
    · exact hy
theorem lin_two {w W : World} {x y : CalledD} (hx : CalledIs x) (hy : CalledIs y) (hb : Below w.heap.size w W) (hE : HasErr w) (hP : HasPow w) : Calls Tryz.prog 28 #[.agg #[.slice (some ⟨W.heap.size, 0, none⟩) 2 2, .slice none 0 0]] (W.alloc (.cells (x.cells ++ y.cells) 42)) fun e w' => e = .returned (.int .i64 (linH [x, y] [])) ∧ Below W.heap.size W w' := by
  have hal : Below W.heap.size W (W.alloc (.cells (x.cells ++ y.cells) 42)) := (Below.refl _ _).alloc (Nat.le_refl _) _
  have hbb := hb.trans (hal.mono hb.size)
  refine (lin_any (hist_two (by rw [heap_at, if_pos rfl]) hx hy) (by simp) (hE.below hbb) (hP.below hbb)).mono ?_
  rintro e w' ⟨rfl, h⟩
  exact ⟨rfl, hal.trans (h.mono hal.size)⟩
theorem lin_two2 {w W : World} {x y : CalledD} (hx : CalledIs x) (hy : CalledIs y) (hb : Below w.heap.size w W) (hE : HasErr w) (hP : HasPow w) : Calls Tryz.prog 28 #[.agg #[.slice (some ⟨W.heap.size, 0, none⟩) 2 2, .slice none 0 0]] ((W.alloc (.cells (x.cells ++ y.cells) 42)).alloc (.cells #[.slice (some ⟨W.heap.size, 0, none⟩) 2 2, .slice none 0 0] 64)) fun e w' => e = .returned (.int .i64 (linH [x, y] [])) ∧ Below W.heap.size W w' ∧
    w'.heap[W.heap.size]? = some (.cells (x.cells ++ y.cells) 42 (0, 0)) ∧ w'.heap[W.heap.size + 1]? = some (.cells #[.slice (some ⟨W.heap.size, 0, none⟩) 2 2, .slice none 0 0] 64 (0, 0)) := by
  have hal := below_two W (.cells (x.cells ++ y.cells) 42) (.cells #[.slice (some ⟨W.heap.size, 0, none⟩) 2 2, .slice none 0 0] 64)
  have h1 := heap_two W (.cells (x.cells ++ y.cells) 42) (.cells #[.slice (some ⟨W.heap.size, 0, none⟩) 2 2, .slice none 0 0] 64)
  have hbb := hb.trans (hal.mono hb.size)
  refine (lin_any (hist_two h1.1 hx hy) (by simp) (hE.below hbb) (hP.below hbb)).mono ?_
  rintro e w' ⟨rfl, h⟩
  exact ⟨rfl, hal.trans (h.mono hal.size), (h.block _ (Array.getElem?_eq_some_iff.1 h1.1).1).trans h1.1, (h.block _ (Array.getElem?_eq_some_iff.1 h1.2).1).trans h1.2⟩
set_option maxRecDepth 100000 in
set_option maxHeartbeats 16000000 in
theorem lives37 (w : World) (hE : HasErr w) (hP : HasPow w) : Calls Tryz.prog 23 #[] w fun e w' => e = .returned (.bool true) ∧ Below w.heap.size w w' := by
  have HEP := Lib.hid (And.intro hE hP)
  clear hE hP
  have q1 : ∀ W : World, (Instr.build 35 #[(0, .int .u8 3), (1, .string ⟨#[97]⟩)]).run Tryz.prog W = .ok (.agg #[.int .u8 3, .string ⟨#[97]⟩, .string ⟨#[]⟩, .int .u32 0, .int .i64 0, .int .u64 0, .int .u64 0]) W := fun W => by kernel_rfl
  have q2 : ∀ W : World, (Instr.build 40 #[(0, .int .u8 1), (1, .int .u64 1)]).run Tryz.prog W = .ok (.agg #[.int .u8 1, .int .u64 1, .string ⟨#[]⟩, .string ⟨#[]⟩, .int .u32 0, .int .u64 0, .int .i64 0, .int .i64 0]) W := fun W => by kernel_rfl
  have q3 : ∀ W : World, (Instr.build 42 #[(0, .int .i64 0), (1, .agg #[.int .u8 3, .string ⟨#[97]⟩, .string ⟨#[]⟩, .int .u32 0, .int .i64 0, .int .u64 0, .int .u64 0]), (3, .int .i64 20), (6, .int .i64 12), (4, .agg #[.int .u8 1, .int .u64 1, .string ⟨#[]⟩, .string ⟨#[]⟩, .int .u32 0, .int .u64 0, .int .i64 0, .int .i64 0])]).run Tryz.prog W = .ok (.agg cellsS) W := fun W => by kernel_rfl
  have q4 : ∀ W : World, (Instr.build 35 #[(0, .int .u8 1), (1, .string ⟨#[97]⟩)]).run Tryz.prog W = .ok (.agg #[.int .u8 1, .string ⟨#[97]⟩, .string ⟨#[]⟩, .int .u32 0, .int .i64 0, .int .u64 0, .int .u64 0]) W := fun W => by kernel_rfl
  have q5 : ∀ W : World, (Instr.build 40 #[(0, .int .u8 12)]).run Tryz.prog W = .ok (.agg #[.int .u8 12, .int .u64 0, .string ⟨#[]⟩, .string ⟨#[]⟩, .int .u32 0, .int .u64 0, .int .i64 0, .int .i64 0]) W := fun W => by kernel_rfl
  have q6 : ∀ W : World, (Instr.build 42 #[(0, .int .i64 1), (1, .agg #[.int .u8 1, .string ⟨#[97]⟩, .string ⟨#[]⟩, .int .u32 0, .int .i64 0, .int .u64 0, .int .u64 0]), (2, .int .i64 15), (3, .int .i64 27), (6, .int .i64 18), (4, .agg #[.int .u8 12, .int .u64 0, .string ⟨#[]⟩, .string ⟨#[]⟩, .int .u32 0, .int .u64 0, .int .i64 0, .int .i64 0])]).run Tryz.prog W = .ok (.agg (cellsG 15 27 18)) W := fun W => by kernel_rfl
  have q7 : ∀ (v : Option Addr) (W : World), (Instr.build 64 #[(0, .slice v 2 2)]).run Tryz.prog W = .ok (.agg #[.slice v 2 2, .slice none 0 0]) W := fun v W => by kernel_rfl
  have t1 : ∀ W : World, (Instr.buildSlice 61 2 #[(0, .agg cellsS), (1, .agg (cellsG 15 27 18))]).run Tryz.prog W = .ok (.slice (some ⟨W.heap.size, 0, none⟩) 2 2) (W.alloc (.cells (cellsS ++ cellsG 15 27 18) 42)) := fun W => by kernel_rfl
  have t2 : ∀ W : World, (Instr.buildSlice 61 2 #[(0, .agg cellsS), (1, .agg (cellsG 15 27 9))]).run Tryz.prog W = .ok (.slice (some ⟨W.heap.size, 0, none⟩) 2 2) (W.alloc (.cells (cellsS ++ cellsG 15 27 9) 42)) := fun W => by kernel_rfl
  have t3 : ∀ W : World, (Instr.buildSlice 61 2 #[(0, .agg (cellsG 5 15 9)), (1, .agg cellsS)]).run Tryz.prog W = .ok (.slice (some ⟨W.heap.size, 0, none⟩) 2 2) (W.alloc (.cells (cellsG 5 15 9 ++ cellsS) 42)) := fun W => by kernel_rfl
  go_enter Tryz.func23, Tryz.ntmps23
  go_upto_region 2 with (first
    | ((with_reducible show wpList _ _ _ (⟨none, Op.store _ _ _, _, _, _, _⟩ :: _) _ _); refine wpList_store_whole (by rfl) 42 (.tmp 1) (.tmp 8) (by rfl) w.heap.size (by rfl) (cellsS) (by rfl) calledZero 42 (by rw [heap_at, if_pos rfl]) (by rfl) (by kernel_rfl) (by simp [Value.oneCell']) ?_; intro w1 hww1 hgww1 hsww1)
    | fail)
  rw [show ∀ (a : Act) (v : Value), a.put none v = a from fun _ _ => rfl]
  have hb1 : Below w.heap.size w w1 := ((Below.refl w.heap.size w).alloc (Nat.le_refl _) (.cells calledZero 42)).grown hgww1 (by simp) (fun k hk => by cases hk; exact Nat.le_refl _)
  obtain ⟨p1, hp1⟩ : ∃ z, z = w.heap.size := ⟨_, rfl⟩
  rw [← hp1] at hww1 ⊢
  have HP := Lib.hid hp1
  have HB1 := Lib.hid hb1
  have HS1 := Lib.hid hww1
  clear hp1 hb1 hww1 hgww1 hsww1
  go_upto_region 3 with (first
    | ((with_reducible show wpList _ _ _ (⟨none, Op.store _ _ _, _, _, _, _⟩ :: _) _ _); refine wpList_store_whole (by rfl) 42 (.tmp 2) (.tmp 11) (by rfl) w1.heap.size (by rfl) (cellsG 15 27 18) (by rfl) calledZero 42 (by rw [heap_at, if_pos rfl]) (by rfl) (by kernel_rfl) (by simp [Value.oneCell']) ?_; intro w2 hww2 hgww2 hsww2)
    | fail)
  rw [show ∀ (a : Act) (v : Value), a.put none v = a from fun _ _ => rfl]
  have hb2 : Below w1.heap.size w1 w2 := ((Below.refl w1.heap.size w1).alloc (Nat.le_refl _) (.cells calledZero 42)).grown hgww2 (by simp) (fun k hk => by cases hk; exact Nat.le_refl _)
  have hs2 := (hb2.block p1 (Array.getElem?_eq_some_iff.1 HS1.out).1).trans HS1.out
  have hp12 : p1 < w1.heap.size := (Array.getElem?_eq_some_iff.1 HS1.out).1
  obtain ⟨p2, hp2⟩ : ∃ z, z = w1.heap.size := ⟨_, rfl⟩
  rw [← hp2] at hww2 hp12 ⊢
  have HB2 := Lib.hid (HB1.out.trans (hb2.mono HB1.out.size))
  have HS2 := Lib.hid (And.intro hs2 hww2)
  clear hp2 hb2 hs2 hww2 hgww2 hsww2 HB1 HS1
  go_wp2_with (first
    | ((with_reducible show wpList _ _ _ (⟨_, Op.load 42 (.tmp 1), _, _, _, _⟩ :: _) _ _); refine wpList_load_row (by rfl) 42 (.tmp 1) (by rfl) p1 (by rfl) 42 _ _ _ HS2.out.1 Tryz.underlying42 rfl (by kernel_rfl) ?_)
    | ((with_reducible show wpList _ _ _ (⟨_, Op.load 42 (.tmp 2), _, _, _, _⟩ :: _) _ _); refine wpList_load_row (by rfl) 42 (.tmp 2) (by rfl) p2 (by rfl) 42 _ _ _ HS2.out.2 Tryz.underlying42 rfl (by kernel_rfl) ?_)
    | fail)
  refine (lin_two (x := exS) (y := exG1 15 27 18) exIs exGa HB2.out HEP.out.1 HEP.out.2).mono ?_
  rintro e w3 ⟨rfl, hb3⟩
  rw [exL1]
  have hs3 := (hb3.block p1 (Array.getElem?_eq_some_iff.1 HS2.out.1).1).trans HS2.out.1
  have hg3 := (hb3.block p2 (Array.getElem?_eq_some_iff.1 HS2.out.2).1).trans HS2.out.2
  have c19 : w3.cell? ⟨p2, 19, none⟩ = some (.int .i64 18) := (cells_at hg3 19).1
  have f19 : w3.frozen? ⟨p2, 19, none⟩ = false := (cells_at hg3 19).2
  have HB3 := Lib.hid (HB2.out.trans (hb3.mono HB2.out.size))
  have hg4 := heap_setCell_same w3 p2 19 _ _ (.int .i64 9) hg3
  have hs4 := (heap_setCell_other w3 ⟨p2, 19, none⟩ p1 (.int .i64 9) (by show p1 ≠ p2; omega)).trans hs3
  have HS4 := Lib.hid (And.intro hs4 (show (w3.setCell ⟨p2, 19, none⟩ (.int .i64 9)).heap[p2]? = some (.cells (cellsG 15 27 9) 42 (0, 0)) from hg4))
  have HPP := Lib.hid (show w.heap.size ≤ p2 from by have := HP.out; omega)
  clear hb3 hs3 hg3 hg4 hs4 HB2 HS2
  go_upto_region 5 with fail
  obtain ⟨w4, hw4⟩ : ∃ z, z = w3.setCell ⟨p2, 19, none⟩ (.int .i64 9) := ⟨_, rfl⟩
  rw [← hw4] at HS4 ⊢
  have HB4 := Lib.hid (show Below w.heap.size w w4 from by rw [hw4]; exact HB3.out.setCell (p := ⟨p2, 19, none⟩) HPP.out _)
  clear hw4 c19 f19 HB3
  go_wp2_with (first
    | ((with_reducible show wpList _ _ _ (⟨_, Op.load 42 (.tmp 1), _, _, _, _⟩ :: _) _ _); refine wpList_load_row (by rfl) 42 (.tmp 1) (by rfl) p1 (by rfl) 42 _ _ _ HS4.out.1 Tryz.underlying42 rfl (by kernel_rfl) ?_)
    | ((with_reducible show wpList _ _ _ (⟨_, Op.load 42 (.tmp 2), _, _, _, _⟩ :: _) _ _); refine wpList_load_row (by rfl) 42 (.tmp 2) (by rfl) p2 (by rfl) 42 _ _ _ HS4.out.2 Tryz.underlying42 rfl (by kernel_rfl) ?_)
    | fail)
  refine (lin_two (x := exS) (y := exG1 15 27 9) exIs exGb HB4.out HEP.out.1 HEP.out.2).mono ?_
  rintro e w5 ⟨rfl, hb5⟩
  rw [exL2]
  have hs5 := (hb5.block p1 (Array.getElem?_eq_some_iff.1 HS4.out.1).1).trans HS4.out.1
  have hg5 := (hb5.block p2 (Array.getElem?_eq_some_iff.1 HS4.out.2).1).trans HS4.out.2
  have c8 : w5.cell? ⟨p2, 8, none⟩ = some (.int .i64 15) := (cells_at hg5 8).1
  have f8 : w5.frozen? ⟨p2, 8, none⟩ = false := (cells_at hg5 8).2
  have HB5 := Lib.hid (HB4.out.trans (hb5.mono HB4.out.size))
  have hg6 := heap_setCell_same w5 p2 8 _ _ (.int .i64 5) hg5
  have hs6 := (heap_setCell_other w5 ⟨p2, 8, none⟩ p1 (.int .i64 5) (by show p1 ≠ p2; omega)).trans hs5
  have HS6 := Lib.hid (And.intro hs6 (show (w5.setCell ⟨p2, 8, none⟩ (.int .i64 5)).heap[p2]? = some (.cells (cellsG 5 27 9) 42 (0, 0)) from hg6))
  clear hb5 hs5 hg5 hg6 hs6 HB4 HS4
  go_upto_region 7 with fail
  obtain ⟨w6, hw6⟩ : ∃ z, z = w5.setCell ⟨p2, 8, none⟩ (.int .i64 5) := ⟨_, rfl⟩
  rw [← hw6] at HS6 ⊢
  have HB6 := Lib.hid (show Below w.heap.size w w6 from by rw [hw6]; exact HB5.out.setCell (p := ⟨p2, 8, none⟩) HPP.out _)
  clear hw6 c8 f8 HB5
  have c9 : w6.cell? ⟨p2, 9, none⟩ = some (.int .i64 27) := (cells_at HS6.out.2 9).1
  have f9 : w6.frozen? ⟨p2, 9, none⟩ = false := (cells_at HS6.out.2 9).2
  have hg7 := heap_setCell_same w6 p2 9 _ _ (.int .i64 15) HS6.out.2
  have hs7 := (heap_setCell_other w6 ⟨p2, 9, none⟩ p1 (.int .i64 15) (by show p1 ≠ p2; omega)).trans HS6.out.1
  have HS7 := Lib.hid (And.intro hs7 (show (w6.setCell ⟨p2, 9, none⟩ (.int .i64 15)).heap[p2]? = some (.cells (cellsG 5 15 9) 42 (0, 0)) from hg7))
  clear hs7 hg7
  go_upto_region 8 with fail
  obtain ⟨w7, hw7⟩ : ∃ z, z = w6.setCell ⟨p2, 9, none⟩ (.int .i64 15) := ⟨_, rfl⟩
  rw [← hw7] at HS7 ⊢
  have HB7 := Lib.hid (show Below w.heap.size w w7 from by rw [hw7]; exact HB6.out.setCell (p := ⟨p2, 9, none⟩) HPP.out _)
  clear hw7 c9 f9 HB6 HS6
  go_upto_region 9 with (first
    | ((with_reducible show wpList _ _ _ (⟨_, Op.load 42 (.tmp 2), _, _, _, _⟩ :: _) _ _); refine wpList_load_row (by rfl) 42 (.tmp 2) (by rfl) p2 (by rfl) 42 _ _ _ HS7.out.2 Tryz.underlying42 rfl (by kernel_rfl) ?_)
    | ((with_reducible show wpList _ _ _ (⟨_, Op.load 42 (.tmp 1), _, _, _, _⟩ :: _) _ _); refine wpList_load_row (by rfl) 42 (.tmp 1) (by rfl) p1 (by rfl) 42 _ _ _ HS7.out.1 Tryz.underlying42 rfl (by kernel_rfl) ?_)
    | fail)
  go_wp2_with fail
  refine (lin_two2 (x := exG1 5 15 9) (y := exS) exGc exIs HB7.out HEP.out.1 HEP.out.2).mono ?_
  rintro e w9 ⟨rfl, hb9, hc9, hh9⟩
  rw [exL3]
  have k0 : w9.cell? ⟨w7.heap.size + 1, 0, none⟩ = some (.slice (some ⟨w7.heap.size, 0, none⟩) 2 2) := (cells_at hh9 0).1
  have k1 : w9.cell? ⟨w7.heap.size + 1, 1, none⟩ = some (.slice none 0 0) := (cells_at hh9 1).1
  have hb10 := HB7.out.trans (hb9.mono HB7.out.size)
  have HE := Lib.hid (end_any (hist_two hc9 exGc exIs) (by simp) (HEP.out.1.below hb10) (HEP.out.2.below hb10))
  have HB9 := Lib.hid hb10
  clear hb9 hc9 hh9 hb10 HB7 HS7
  go_wp2_with fail
  refine HE.out.mono ?_
  rintro e w10 ⟨p, rfl, hlv⟩
  have HL := Lib.hid hlv
  clear hlv
  go_wp2_with fail
  refine (mapsCount_any HL.out.map).mono ?_
  rintro e w11 ⟨rfl, rfl⟩
  rw [exL4]
  go_wp2_with fail
  go_ret
  exact ⟨rfl, HB9.out.trans (HL.out.bel.mono HB9.out.size)⟩
end Go.Proofs.YtaooangnnlopcaaGreatDoor
