/- Who is late (lins.Late). Condition: the history lies in memory; a million calls and drops at most. -/
import Derived.Test.YtaooangnnlopcaaGreatDoorLinWell
import Derived.Laws.MakeOwn
import Derived.Laws.Rows
import Derived.Test.YtaooangnnlopcaaGreatDoorLowA
namespace Go.Proofs.YtaooangnnlopcaaGreatDoor
open Go.RowKit Go.ChangeMaps Go.MapKept
/-- Does call a stand behind call b, that began when a had ended? -/
def LateP (cs : List CalledD) (a b : Nat) : Prop := ∃ x y, cs[a]? = some x ∧ cs[b]? = some y ∧ a ≠ b ∧ x.till ≤ y.from' ∧ (y.point < x.point ∨ (y.point = x.point ∧ b < a))
/-- The first two calls that do; or none. -/
def LateIs (cs : List CalledD) (r s : Int) : Prop :=
  (r = -1 ∧ s = -1 ∧ ∀ a b, ¬ LateP cs a b) ∨ (∃ a b : Nat, r = a ∧ s = b ∧ LateP cs a b ∧ (∀ a' b', a' < a → ¬ LateP cs a' b') ∧ ∀ b', b' < b → ¬ LateP cs a b')
theorem LateIs.one {cs : List CalledD} {r s r' s' : Int} (h : LateIs cs r s) (h' : LateIs cs r' s') : r = r' ∧ s = s' := by
  rcases h with ⟨rfl, rfl, h⟩ | ⟨a, b, rfl, rfl, h1, h2, h3⟩ <;> rcases h' with ⟨rfl, rfl, h'⟩ | ⟨a', b', rfl, rfl, h1', h2', h3'⟩
  · exact ⟨rfl, rfl⟩
  · exact absurd h1' (h _ _)
  · exact absurd h1 (h' _ _)
  · rcases Nat.lt_trichotomy a a' with e | e | e
    · exact absurd h1 (h2' _ _ e)
    · subst e
      rcases Nat.lt_trichotomy b b' with e | e | e
      · exact absurd h1 (h3' _ e)
      · subst e; exact ⟨rfl, rfl⟩
      · exact absurd h1' (h3 _ e)
    · exact absurd h1' (h2 _ _ e)
/-- A row of numbers in a block of its own. -/
def AtObj (W : World) (g n : Nat) (p : Nat → Int) : Prop := ∃ A : Array Value, W.heap[g]? = some (.cells A 3 (0, 0)) ∧ A.size = n ∧ ∀ a, a < n → A[a]? = some (.int .i64 (p a))
theorem AtObj.cell {W : World} {g n : Nat} {p : Nat → Int} (h : AtObj W g n p) {a : Nat} (ha : a < n) : W.cell? ⟨g, a, none⟩ = some (.int .i64 (p a)) := by
  obtain ⟨A, h1, h2, h3⟩ := h
  have h4 := (cells_at h1 a).1
  rw [h4, h3 a ha]
theorem AtObj.frozen {W : World} {g n : Nat} {p : Nat → Int} (h : AtObj W g n p) (a : Nat) : W.frozen? ⟨g, a, none⟩ = false := by
  obtain ⟨A, h1, h2, h3⟩ := h
  exact frozen_of_row W g a A _ h1
theorem AtObj.lt {W : World} {g n : Nat} {p : Nat → Int} (h : AtObj W g n p) : g < W.heap.size := by
  obtain ⟨A, h1, _⟩ := h
  exact (Array.getElem?_eq_some_iff.1 h1).1
theorem AtObj.kept {M : Nat → Prop} {W W' : World} {g n : Nat} {p : Nat → Int} (h : AtObj W g n p) (hc : Chg M W W') (hM : ¬ M g) : AtObj W' g n p := by
  obtain ⟨A, h1, h2, h3⟩ := h
  exact ⟨A, hc.obj h1 hM, h2, h3⟩
theorem AtObj.set {W : World} {g n : Nat} {p : Nat → Int} (h : AtObj W g n p) {a : Nat} (_ha : a < n) (z : Int) : AtObj (W.setCell ⟨g, a, none⟩ (.int .i64 z)) g n (fun b => if b = a then z else p b) := by
  obtain ⟨A, h1, h2, h3⟩ := h
  refine ⟨_, heap_setCell_same W g a A _ _ h1, by simpa using h2, fun b hb => ?_⟩
  by_cases e : b = a
  · subst e
    simp [h2, hb]
  · simp only [if_neg e]
    rw [← h3 b hb]
    simp [Ne.symm e]
theorem infoInt : (Tryz.prog.info? 3).map (fun i => (i.zero, i.size, i.bytes)) = some (some (.int .i64 0), 1, 8) := by kernel_rfl
theorem make_ints (w : World) (n : Nat) (hn : n ≤ 1000000) : ∃ w', (Instr.makeSlice 105 (.int .i64 (n : Int)) (.int .i64 (n : Int))).run Tryz.prog w = .ok (.slice (some ⟨w.heap.size, 0, none⟩) n n) w' ∧ AtObj w' w.heap.size n (fun _ => 0) ∧ Below w.heap.size w w' ∧ w.heap.size < w'.heap.size := by
  obtain ⟨i0, hi, hz0, hz1, hz2⟩ := info_parts infoInt
  have hr := run_makeSlice (P := Tryz.prog) (w := w) 105 3 i0 (.int .i64 0) Tryz.underlying105 hi hz0 .i64 .i64 (n : Int) (n : Int) (by omega) (Int.le_refl _) (by rw [hz1]; simp; omega) (by rw [hz2]; omega) (by omega)
  simp only [Int.toNat_natCast] at hr
  refine ⟨_, hr, ⟨_, by rw [heap_at, if_pos rfl], by rw [size_madeCells, hz1, Nat.mul_one], fun a ha => ?_⟩, (Below.refl _ _).alloc (Nat.le_refl _) _, by simp⟩
  rw [hz1, Nat.mul_one]
  simp [madeCells, Value.cells, ha, Nat.mod_one]
theorem idx_int {g n c k : Nat} (hk : k < n) (W : World) : (Instr.indexAt 105 (.slice (some ⟨g, 0, none⟩) n c) (.int .i64 (k : Int))).run Tryz.prog W = .ok (.pointer (some ⟨g, k, none⟩)) W := by
  have h0 : (0 : Int) ≤ (k : Int) := by omega
  have h1 : (k : Int) < (n : Int) := by omega
  have h2 := Tryz.underlying105
  obtain ⟨i0, hi, hz0, hz1, hz2⟩ := info_parts infoInt
  go_simp
/-- Places in the order: the lower place is the entry's that is less. -/
theorem pos_iff {nc : Nat} {L : List EntD} (h : SortE nc L) {i j : Nat} {x y : EntD} (hi : L[i]? = some x) (hj : L[j]? = some y) : i < j ↔ lessE nc x y := by
  constructor
  · exact fun hij => sortE_get h hi hj hij
  · intro hl
    rcases Nat.lt_trichotomy i j with e | e | e
    · exact e
    · subst e
      rw [hi] at hj
      obtain rfl := Option.some.inj hj
      exact absurd hl (lessE_irrefl _)
    · exact absurd hl (lessE_asymm (sortE_get h hj hi e))
theorem entsL_call {cs : List CalledD} {ds : List DropD} {a : Nat} {x : CalledD} (h : cs[a]? = some x) : ∃ j : Nat, (orderL cs ds)[j]? = some ⟨x.point, (a : Int), -1⟩ := by
  have h1 : (⟨x.point, (a : Int), -1⟩ : EntD) ∈ orderL cs ds := (orderL_perm cs ds).mem_iff.2 (List.mem_append_left _ (List.mem_of_getElem? (entsC_get h)))
  obtain ⟨j, hj, he⟩ := List.getElem_of_mem h1
  exact ⟨j, by rw [List.getElem?_eq_getElem hj, he]⟩
/-- When all places are noted, they say which of two calls is ahead. -/
theorem at_iff {cs : List CalledD} {ds : List DropD} {p : Nat → Int} (h : ∀ (j : Nat) e, (orderL cs ds)[j]? = some e → 0 ≤ e.call → p e.call.toNat = j) {a b : Nat} {x y : CalledD} (hx : cs[a]? = some x) (hy : cs[b]? = some y) :
    p b < p a ↔ (y.point < x.point ∨ (y.point = x.point ∧ b < a)) := by
  obtain ⟨i, hi⟩ := entsL_call (ds := ds) hx
  obtain ⟨j, hj⟩ := entsL_call (ds := ds) hy
  have h1 : p a = i := by simpa using h i _ hi (by show (0 : Int) ≤ (a : Int); omega)
  have h2 : p b = j := by simpa using h j _ hj (by show (0 : Int) ≤ (b : Int); omega)
  rw [h1, h2]
  have h3 := pos_iff (orderL_sort cs ds) hj hi
  unfold lessE at h3
  rw [rk_call, rk_call] at h3
  rw [show ((j : Int) < (i : Int)) ↔ j < i from by omega, h3]
  show (y.point < x.point ∨ y.point = x.point ∧ (b : Int) < (a : Int)) ↔ _
  omega
def LateOk (w : World) (cs : List CalledD) (e : Ending) (w' : World) : Prop := ∃ r s : Int, e = .returned (.tuple #[.int .i64 r, .int .i64 s]) ∧ LateIs cs r s ∧ Below w.heap.size w w'
def NotedTo (L : List EntD) (k : Nat) (p : Nat → Int) : Prop := ∀ (j : Nat) e, j < k → L[j]? = some e → 0 ≤ e.call → p e.call.toNat = j
set_option maxRecDepth 100000 in
set_option maxHeartbeats 16000000 in
theorem linLate_any {w : World} {cv dv : Value} {cs : List CalledD} {ds : List DropD} (h : HistAt w cv dv cs ds) (hn : cs.length + ds.length ≤ 1000000) : Calls Tryz.prog 31 #[.agg #[cv, dv]] w fun e w' => LateOk w cs e w' := by
  obtain ⟨ca, cc, rfl⟩ := h.calls.len
  obtain ⟨da, dc, rfl⟩ := h.drops.len
  have HH := Lib.hid h
  have HN := Lib.hid hn
  clear h
  go_enter Tryz.func31, Tryz.ntmps31
  go_upto_region 1 with fail
  obtain ⟨W0, hW0⟩ : ∃ X, X = w.alloc (.cells #[.slice ca cs.length cc, .slice da ds.length dc] 64) := ⟨_, rfl⟩
  have hb0 : Below w.heap.size w W0 := by rw [hW0]; exact (Below.refl _ _).alloc (Nat.le_refl _) _
  have hx0 : W0.heap[w.heap.size]? = some (.cells #[.slice ca cs.length cc, .slice da ds.length dc] 64 (0, 0)) := by rw [hW0, heap_at, if_pos rfl]
  have hsz0 : w.heap.size < W0.heap.size := by rw [hW0]; simp
  rw [← hW0]
  clear hW0
  obtain ⟨ph, hph⟩ : ∃ z, z = w.heap.size := ⟨_, rfl⟩
  rw [← hph] at hx0 hsz0 ⊢
  have k0 : W0.cell? ⟨ph, 0, none⟩ = some (.slice ca cs.length cc) := (cells_at hx0 0).1
  have k1 : W0.cell? ⟨ph, 1, none⟩ = some (.slice da ds.length dc) := (cells_at hx0 1).1
  have HH0 := Lib.hid (HH.out.below hb0)
  have HB0 := Lib.hid (And.intro hb0 hph)
  have HK := Lib.hid (And.intro k0 k1)
  clear hb0 hx0 hph k1
  have hcl : cs.length ≤ 1000000 := by omega
  obtain ⟨W1, hmk, hat, hbk, hsk⟩ := make_ints W0 cs.length hcl
  obtain ⟨pa, hpa⟩ : ∃ z, z = W0.heap.size := ⟨_, rfl⟩
  rw [← hpa] at hmk hat hbk hsk
  have g0 : W1.cell? ⟨ph, 0, none⟩ = some (.slice ca cs.length cc) := (hbk.cell (p := ⟨ph, 0, none⟩) (by rw [hpa]; exact hsz0)).trans HK.out.1
  have g1 : W1.cell? ⟨ph, 1, none⟩ = some (.slice da ds.length dc) := (hbk.cell (p := ⟨ph, 1, none⟩) (by rw [hpa]; exact hsz0)).trans HK.out.2
  have HPA := Lib.hid (show pa = W0.heap.size ∧ ph < pa from ⟨hpa, by rw [hpa]; exact hsz0⟩)
  have HAT := Lib.hid hat
  have HBK := Lib.hid hbk
  have HB1 := Lib.hid (HB0.out.1.trans (hbk.mono (by rw [hpa]; exact HB0.out.1.size)))
  have HH1 := Lib.hid (HH0.out.below (hpa ▸ hbk))
  clear hat hbk hpa
  go_upto_region 2 with fail
  obtain ⟨L, hL⟩ : ∃ L, L = orderL cs ds := ⟨_, rfl⟩
  have hLl : L.length ≤ 1000000 := by rw [hL, orderL_len]; exact HN.out
  go_wp2_with fail
  refine (order_any HH1.out HN.out).mono ?_
  rintro e W2 ⟨ov, rfl, hrow, hfresh, hbo⟩
  rw [← hL] at hrow
  obtain ⟨oa, oc, rfl⟩ := hrow.len
  have HRW := Lib.hid (And.intro hrow (show ∀ g, (Value.slice oa L.length oc).ownBlock = some g → g ≠ pa from fun g hg e => by have := hfresh g hg; omega))
  have HA2 := Lib.hid (HAT.out.kept (Chg.of_below (M := fun _ => False) hbo) id)
  have HB2 := Lib.hid (HBK.out.trans (hbo.mono (Nat.le_of_lt hsk)))
  have HL := Lib.hid hL
  clear hrow hfresh hbo HAT hL g0 g1 k0 hmk hsk
  go_upto_region 3 with fail
  go_loopw [18] (fun s18 wr => ∃ k : Nat, s18 = .int .i64 (k : Int) ∧ k ≤ L.length ∧ Hid (∃ p, AtObj wr pa cs.length p ∧ NotedTo L k p) ∧ Hid (Chg (fun j => j = pa) W2 wr)) (fun s18 _ => L.length - (intOf s18).toNat)
  case atStart => exact ⟨0, rfl, Nat.zero_le _, Lib.hid ⟨_, HA2.out, fun j e hj => by omega⟩, Lib.hid (Chg.refl _ _)⟩
  case round =>
    clear HA2
    obtain ⟨k, rfl, hkl, HP, HC⟩ := hrel
    by_cases hlt : k < L.length
    · obtain ⟨x, hx⟩ : ∃ x, L[k]? = some x := ⟨_, List.getElem?_eq_getElem hlt⟩
      obtain ⟨a0, c0, hv, h1, h2, h3, h4⟩ := HRW.out.1.kept HC.out (fun g hg => HRW.out.2 g hg)
      obtain ⟨g, o, ha, hgr, hr⟩ := h4 k x hx
      obtain ⟨he, -, -⟩ := slice_inj hv
      have hoa : oa = some ⟨g, o, none⟩ := he.trans ha
      subst hoa
      have ix : ∀ W : World, (Instr.indexAt 106 (.slice (some ⟨g, o, none⟩) L.length oc) (.int .i64 (k : Int))).run Tryz.prog W = .ok (.pointer (some ⟨g, o + k * 3, none⟩)) W := fun W => idx_ent rfl hlt W
      obtain ⟨b, hb⟩ : ∃ b, b = o + k * 3 := ⟨_, rfl⟩
      rw [← hb] at ix hr
      have HRB := Lib.hid hr
      have HX := Lib.hid hx
      have hk6 : k ≤ 1000000 := by omega
      clear hb hx hv hr h1 h2 h3 h4 ha he
      go_upto_region 5 with (first
        | ((with_reducible show wpList _ _ _ (⟨_, Op.load 108 _, _, _, _, _⟩ :: _) _ _); refine wpList_load_mid (by rfl) 108 (.tmp 21) (by rfl) g b (by rfl) (entCells x) _ HRB.out Tryz.underlying108 rfl (by kernel_rfl) ?_)
        | ((with_reducible show wpList _ _ _ (⟨none, Op.store _ _ _, _, _, _, _⟩ :: _) _ _); refine wpList_store_whole (by rfl) 108 (.tmp 6) (.tmp 22) (by rfl) wr.heap.size (by rfl) (entCells x).toArray (by rfl) #[.int .i64 0, .int .i64 0, .int .i64 0] 108 (by rw [heap_at, if_pos rfl]) (by rfl) (by kernel_rfl) (by simp [Value.oneCell']) ?_; intro w1 hw1 hgw1 hsw1; have hb1 : Below wr.heap.size wr w1 := ((Below.refl wr.heap.size wr).alloc (Nat.le_refl _) (.cells #[.int .i64 0, .int .i64 0, .int .i64 0] 108)).grown hgw1 (by simp) (fun k hk => by cases hk; exact Nat.le_refl _); clear hgw1 hsw1)
        | fail)
      obtain ⟨pc, hpc⟩ : ∃ z, z = wr.heap.size := ⟨_, rfl⟩
      rw [← hpc] at hw1 ⊢
      have c1 : w1.cell? ⟨pc, 1, none⟩ = some (.int .i64 x.call) := (cells_at hw1 1).1
      obtain ⟨p, hp, hnt⟩ := HP.out
      have hp1 := hp.kept (Chg.of_below (M := fun _ => False) hb1) id
      have HC1 := Lib.hid (HC.out.trans (Chg.of_below hb1))
      clear hpc hp hb1 hw1 HP HC
      rw [show ∀ (a : Act) (v : Value), a.put none v = a from fun _ _ => rfl]
      by_cases hpos : 0 ≤ x.call
      · obtain ⟨a, y, hay, rfl⟩ : ∃ (a : Nat) (y : CalledD), cs[a]? = some y ∧ x = ⟨y.point, (a : Int), -1⟩ := by
          have hmem : x ∈ orderL cs ds := by rw [← HL.out]; exact List.mem_of_getElem? HX.out
          rcases orderL_mem hmem with ⟨i, c, hc, rfl⟩ | ⟨i, d, hd, rfl⟩
          · exact ⟨i, c, hc, rfl⟩
          · exact absurd hpos (by show ¬ (0 : Int) ≤ -1; decide)
        have hac : a < cs.length := (List.getElem?_eq_some_iff.1 hay).1
        have d0 := hp1.cell hac
        have f0 := hp1.frozen a
        have ia : ∀ W : World, (Instr.indexAt 105 (.slice (some ⟨pa, 0, none⟩) cs.length cs.length) (.int .i64 (a : Int))).run Tryz.prog W = .ok (.pointer (some ⟨pa, a, none⟩)) W := fun W => idx_int hac W
        have hset := hp1.set hac (k : Int)
        have HS := Lib.hid (show ∃ p, AtObj (w1.setCell ⟨pa, a, none⟩ (.int .i64 (k : Int))) pa cs.length p ∧ NotedTo L (k + 1) p from ⟨_, hset, fun j e hj he h0 => by
          show (if e.call.toNat = a then (k : Int) else p e.call.toNat) = j
          rcases Nat.lt_succ_iff_lt_or_eq.1 hj with h | h
          · rw [if_neg (fun h5 => ?_)]
            · exact hnt j e h he h0
            · have h6 : e = ⟨y.point, (a : Int), -1⟩ := by
                have hmem : e ∈ orderL cs ds := by rw [← HL.out]; exact List.mem_of_getElem? he
                rcases orderL_mem hmem with ⟨i, c, hc, rfl⟩ | ⟨i, d, hd, rfl⟩
                · have h7 : i = a := by simpa using h5
                  subst h7
                  rw [hay] at hc
                  obtain rfl := Option.some.inj hc
                  rfl
                · exact absurd h0 (by show ¬ (0 : Int) ≤ -1; decide)
              subst h6
              have hS := orderL_sort cs ds
              rw [← HL.out] at hS
              exact lessE_irrefl _ (sortE_get hS he HX.out h)
          · subst h
            rw [HX.out] at he
            obtain rfl := Option.some.inj he
            rw [if_pos (by simp)]⟩)
        have HCS := Lib.hid (HC1.out.set (p := pa) (j := a) (fun _ => rfl) (.int .i64 (k : Int)))
        clear hset hp1 hnt hay
        go_wp2_with fail
        go_roundw
        case rel => exact ⟨k + 1, by go_num, by omega, HS, HCS⟩
        case measure => simp [intOf]; omega
      · have HS := Lib.hid (show ∃ p, AtObj w1 pa cs.length p ∧ NotedTo L (k + 1) p from ⟨p, hp1, fun j e hj he h0 => by
          rcases Nat.lt_succ_iff_lt_or_eq.1 hj with h | h
          · exact hnt j e h he h0
          · subst h
            rw [HX.out] at he
            obtain rfl := Option.some.inj he
            exact absurd h0 hpos⟩)
        clear hp1 hnt
        go_wp2_with fail
        go_roundw
        case rel => exact ⟨k + 1, by go_num, by omega, HS, HC1⟩
        case measure => simp [intOf]; omega
    · obtain rfl : k = L.length := by omega
      obtain ⟨p, hp, hnt⟩ := HP.out
      have hall : ∀ {a b : Nat} {x y : CalledD}, cs[a]? = some x → cs[b]? = some y → (p b < p a ↔ (y.point < x.point ∨ (y.point = x.point ∧ b < a))) := fun {a b x y} hx hy => at_iff (ds := ds) (fun j e he h0 => by
        rw [← HL.out] at he
        exact hnt j e (List.getElem?_eq_some_iff.1 he).1 he h0) hx hy
      have HALL := Lib.hid (fun (a b : Nat) (x y : CalledD) (hx : cs[a]? = some x) (hy : cs[b]? = some y) => hall hx hy)
      have HP2 := Lib.hid hp
      have hBW : Below pa W0 wr := HB2.out.trans (HC.out.below (fun j hj => ⟨Nat.lt_of_lt_of_le hj (by rw [HPA.out.1]; exact HB2.out.size), fun e => by omega⟩))
      have g0 : wr.cell? ⟨ph, 0, none⟩ = some (.slice ca cs.length cc) := (hBW.cell (p := ⟨ph, 0, none⟩) HPA.out.2).trans HK.out.1
      have HHW := Lib.hid (HH0.out.below (HPA.out.1 ▸ hBW))
      have HBW := Lib.hid (HB0.out.1.trans (hBW.mono (by rw [HPA.out.1]; exact HB0.out.1.size)))
      have HG0 := Lib.hid g0
      obtain ⟨wo, rfl⟩ : ∃ wo : World, wo = wr := ⟨_, rfl⟩
      have hphl : ph < wo.heap.size := cell_lt g0
      clear hall hp hnt hBW HP HC HRW HB2 hkl hlt HH0 HB0 HK HN
      go_upto_region 9 with fail
      go_loopw [35] (fun s35 wr => ∃ a : Nat, s35 = .int .i64 (a : Int) ∧ a ≤ cs.length ∧ Hid (∀ a' b', a' < a → ¬ LateP cs a' b') ∧ Hid (Below wo.heap.size wo wr)) (fun s35 _ => cs.length - (intOf s35).toNat)
      case atStart => exact ⟨0, rfl, Nat.zero_le _, Lib.hid (fun a' b' h => by omega), Lib.hid (Below.refl _ _)⟩
      case round =>
        obtain ⟨a, rfl, hal, HA, HB⟩ := hrel
        by_cases hlt : a < cs.length
        · obtain ⟨x, hx⟩ : ∃ x, cs[a]? = some x := ⟨_, List.getElem?_eq_getElem hlt⟩
          obtain ⟨g, o, c', hv, hg, hr⟩ := HHW.out.calls.get hx
          obtain ⟨rfl, -, rfl⟩ := slice_inj hv
          have hrr := hr wr HB.out
          have ix : ∀ W : World, (Instr.indexAt 61 (.slice (some ⟨g, o, none⟩) cs.length cc) (.int .i64 (a : Int))).run Tryz.prog W = .ok (.pointer (some ⟨g, o + a * 20, none⟩)) W := fun W => idx_called rfl hlt W
          obtain ⟨b, hb⟩ : ∃ b, b = o + a * 20 := ⟨_, rfl⟩
          rw [← hb] at ix hrr
          have HRB := Lib.hid hrr
          have HX := Lib.hid (And.intro hx (And.intro hg (fun (W : World) (hW : Below wo.heap.size wo W) (i : Nat) (y : CalledD) (hi : cs[i]? = some y) => show W.rangeAt g (o + i * 20) y.list from by
            obtain ⟨g2, o2, c2, hv2, hg2, hr2⟩ := HHW.out.calls.get hi
            obtain ⟨e1, -, -⟩ := slice_inj hv2
            have e2 := Option.some.inj e1
            obtain ⟨rfl, rfl⟩ : g = g2 ∧ o = o2 := by simpa using e2
            exact hr2 W hW)))
          have hgr : g < wr.heap.size := Nat.lt_of_lt_of_le hg HB.out.size
          clear hb hx hv hr hrr hg
          go_upto_region 11 with (first
            | ((with_reducible show wpList _ _ _ (⟨_, Op.load 42 _, _, _, _, _⟩ :: _) _ _); refine wpList_load_mid (by rfl) 42 (.tmp 38) (by rfl) g b (by rfl) x.list _ HRB.out Tryz.underlying42 rfl (by kernel_rfl) ?_)
            | ((with_reducible show wpList _ _ _ (⟨none, Op.store _ _ _, _, _, _, _⟩ :: _) _ _); refine wpList_store_whole (by rfl) 42 (.tmp 8) (.tmp 39) (by rfl) wr.heap.size (by rfl) x.cells (by rfl) calledZero 42 (by rw [heap_at, if_pos rfl]) (by rfl) (by kernel_rfl) (by simp [Value.oneCell']) ?_; intro w1 hw1 hgw1 hsw1; have hb1 : Below wr.heap.size wr w1 := ((Below.refl wr.heap.size wr).alloc (Nat.le_refl _) (.cells calledZero 42)).grown hgw1 (by simp) (fun k hk => by cases hk; exact Nat.le_refl _); clear hgw1 hsw1)
            | fail)
          obtain ⟨pc, hpc⟩ : ∃ z, z = wr.heap.size := ⟨_, rfl⟩
          rw [← hpc] at hw1 ⊢
          have HX1 := Lib.hid hw1
          have HBQ := Lib.hid (HB.out.trans (hb1.mono HB.out.size))
          have g0 : w1.cell? ⟨ph, 0, none⟩ = some (.slice (some ⟨g, o, none⟩) cs.length cc) := (HBQ.out.cell (p := ⟨ph, 0, none⟩) hphl).trans HG0.out
          clear hpc hb1 hw1 HB HRB ix
          rw [show ∀ (a : Act) (v : Value), a.put none v = a from fun _ _ => rfl]
          go_upto_region 12 with fail
          obtain ⟨wq, rfl⟩ : ∃ wq : World, wq = w1 := ⟨_, rfl⟩
          go_loopw [43] (fun s43 wr => ∃ b : Nat, s43 = .int .i64 (b : Int) ∧ b ≤ cs.length ∧ Hid (∀ b', b' < b → ¬ LateP cs a b') ∧ Hid (Below wq.heap.size wq wr)) (fun s43 _ => cs.length - (intOf s43).toNat)
          case atStart => exact ⟨0, rfl, Nat.zero_le _, Lib.hid (fun b' h => by omega), Lib.hid (Below.refl _ _)⟩
          case round =>
            obtain ⟨b2, rfl, hbl, HN2, HB⟩ := hrel
            by_cases hlt2 : b2 < cs.length
            · obtain ⟨y, hy⟩ : ∃ y, cs[b2]? = some y := ⟨_, List.getElem?_eq_getElem hlt2⟩
              have hrr := HX.out.2.2 wr (HBQ.out.trans (HB.out.mono HBQ.out.size)) b2 y hy
              have ix : ∀ W : World, (Instr.indexAt 61 (.slice (some ⟨g, o, none⟩) cs.length cc) (.int .i64 (b2 : Int))).run Tryz.prog W = .ok (.pointer (some ⟨g, o + b2 * 20, none⟩)) W := fun W => idx_called rfl hlt2 W
              obtain ⟨q, hq⟩ : ∃ q, q = o + b2 * 20 := ⟨_, rfl⟩
              rw [← hq] at ix hrr
              have HRB := Lib.hid hrr
              have HY := Lib.hid hy
              have hgr2 : g < wr.heap.size := Nat.lt_of_lt_of_le HX.out.2.1 (Nat.le_trans HBQ.out.size HB.out.size)
              clear hq hy hrr
              go_upto_region 14 with (first
                | ((with_reducible show wpList _ _ _ (⟨_, Op.load 42 _, _, _, _, _⟩ :: _) _ _); refine wpList_load_mid (by rfl) 42 (.tmp 46) (by rfl) g q (by rfl) y.list _ HRB.out Tryz.underlying42 rfl (by kernel_rfl) ?_)
                | ((with_reducible show wpList _ _ _ (⟨none, Op.store _ _ _, _, _, _, _⟩ :: _) _ _); refine wpList_store_whole (by rfl) 42 (.tmp 10) (.tmp 47) (by rfl) wr.heap.size (by rfl) y.cells (by rfl) calledZero 42 (by rw [heap_at, if_pos rfl]) (by rfl) (by kernel_rfl) (by simp [Value.oneCell']) ?_; intro w1 hw1 hgw1 hsw1; have hb1 : Below wr.heap.size wr w1 := ((Below.refl wr.heap.size wr).alloc (Nat.le_refl _) (.cells calledZero 42)).grown hgw1 (by simp) (fun k hk => by cases hk; exact Nat.le_refl _); clear hgw1 hsw1)
                | fail)
              obtain ⟨pd, hpd⟩ : ∃ z, z = wr.heap.size := ⟨_, rfl⟩
              rw [← hpd] at hw1 ⊢
              have hb2 := HB.out.trans (hb1.mono HB.out.size)
              have hb3 := HBQ.out.trans (hb2.mono HBQ.out.size)
              have x9 : w1.cell? ⟨pc, 9, none⟩ = some (.int .i64 x.till) := (hb2.cell (p := ⟨pc, 9, none⟩) (Array.getElem?_eq_some_iff.1 HX1.out).1).trans (called_cell (i := 9) HX1.out rfl rfl)
              have y8 : w1.cell? ⟨pd, 8, none⟩ = some (.int .i64 y.from') := called_cell (i := 8) hw1 rfl rfl
              have hpw := HP2.out.kept (Chg.of_below (M := fun _ => False) hb3) id
              have pa0 := hpw.cell hlt
              have pb0 := hpw.cell hlt2
              have ia : ∀ W : World, (Instr.indexAt 105 (.slice (some ⟨pa, 0, none⟩) cs.length cs.length) (.int .i64 (a : Int))).run Tryz.prog W = .ok (.pointer (some ⟨pa, a, none⟩)) W := fun W => idx_int hlt W
              have ib : ∀ W : World, (Instr.indexAt 105 (.slice (some ⟨pa, 0, none⟩) cs.length cs.length) (.int .i64 (b2 : Int))).run Tryz.prog W = .ok (.pointer (some ⟨pa, b2, none⟩)) W := fun W => idx_int hlt2 W
              have HIF := Lib.hid (HALL.out a b2 x y HX.out.1 HY.out)
              have HB4 := Lib.hid hb2
              have HB5 := Lib.hid hb3
              obtain ⟨p1, hp1⟩ : ∃ z, z = p a := ⟨_, rfl⟩
              obtain ⟨p2, hp2⟩ : ∃ z, z = p b2 := ⟨_, rfl⟩
              rw [← hp1] at pa0
              rw [← hp2] at pb0
              have HPP := Lib.hid (And.intro hp1 hp2)
              clear hpd hb1 hb2 hb3 hw1 hpw HB HRB hp1 hp2
              rw [show ∀ (a : Act) (v : Value), a.put none v = a from fun _ _ => rfl]
              by_cases hab : a = b2
              · have t1 : ((a : Int) != (b2 : Int)) = false := by rw [bne_eq_false_iff_eq]; omega
                have HAB := Lib.hid hab
                clear hab
                refine wp_region_held_drew (S := fun W => W.cell? ⟨pc, 9, none⟩ = some (.int .i64 x.till) ∧ W.cell? ⟨pd, 8, none⟩ = some (.int .i64 y.from') ∧ W.cell? ⟨pa, a, none⟩ = some (.int .i64 p1) ∧ W.cell? ⟨pa, b2, none⟩ = some (.int .i64 p2)) (by kernel_rfl) ⟨x9, y8, pa0, pb0⟩ (fun hHeld => ?_)
                refine tkq (i := 0) (v := ?_) rfl (by kernel_rfl) (fun _ _ _ h => h) (by rfl) ?_ (by assumption) ?_
                rotate_left 1
                · ((intro w hSw; (try dsimp only at hSw); go_simp) <;> with_reducible rfl)
                try simp only [Act.put, tzA, tzB, tzC, tzD, tzE]
                refine tkq (i := 1) (v := ?_) rfl (by kernel_rfl) (fun _ _ _ h => h) (by rfl) ?_ (by assumption) ?_
                rotate_left 1
                · ((intro w hSw; (try dsimp only at hSw); go_simp) <;> with_reducible rfl)
                try simp only [Act.put, tzA, tzB, tzC, tzD, tzE, tzF]
                refine tkq (i := 2) (v := ?_) rfl (by kernel_rfl) (fun _ _ _ h => h) (by rfl) ?_ (by assumption) ?_
                rotate_left 1
                · ((intro w hSw; (try dsimp only at hSw); go_simp) <;> with_reducible rfl)
                try simp only [Act.put, tzA, tzB, tzC, tzD, tzE, tzF]
                refine tkq (i := 3) (v := ?_) rfl (by kernel_rfl) (fun _ _ _ h => h) (by rfl) ?_ (by assumption) ?_
                rotate_left 1
                · ((intro w hSw; (try dsimp only at hSw); go_simp) <;> with_reducible rfl)
                try simp only [Act.put, tzA, tzB, tzC, tzD, tzE, tzF]
                refine tkn (i := 4) rfl (by kernel_rfl) (fun _ _ _ h => h) (by rfl) (by assumption) ?_
                try simp only [Act.put, tzA, tzB, tzC, tzD, tzE, tzF]
                refine tkn (i := 5) rfl (by kernel_rfl) (fun _ _ _ h => h) (by rfl) (by assumption) ?_
                try simp only [Act.put, tzA, tzB, tzC, tzD, tzE, tzF]
                refine tkn (i := 6) rfl (by kernel_rfl) (fun _ _ _ h => h) (by rfl) (by assumption) ?_
                try simp only [Act.put, tzA, tzB, tzC, tzD, tzE, tzF]
                refine tkn (i := 7) rfl (by kernel_rfl) (fun _ _ _ h => h) (by rfl) (by assumption) ?_
                try simp only [Act.put, tzA, tzB, tzC, tzD, tzE, tzF]
                refine tkn (i := 8) rfl (by kernel_rfl) (fun _ _ _ h => h) (by rfl) (by assumption) ?_
                try simp only [Act.put, tzA, tzB, tzC, tzD, tzE, tzF]
                refine tkq (i := 9) (v := ?_) rfl (by kernel_rfl) (fun _ _ _ h => h) (by rfl) ?_ (by assumption) ?_
                rotate_left 1
                · ((intro w hSw; (try dsimp only at hSw); go_simp) <;> with_reducible rfl)
                try simp only [Act.put, tzA, tzB, tzC, tzD, tzE, tzF]
                refine tkq (i := 10) (v := ?_) rfl (by kernel_rfl) (fun _ _ _ h => h) (by rfl) ?_ (by assumption) ?_
                rotate_left 1
                · ((intro w hSw; (try dsimp only at hSw); go_simp) <;> with_reducible rfl)
                try simp only [Act.put, tzA, tzB, tzC, tzD, tzE, tzF]
                refine tkn (i := 11) rfl (by kernel_rfl) (fun _ _ _ h => h) (by rfl) (by assumption) ?_
                try simp only [Act.put, tzA, tzB, tzC, tzD, tzE, tzF]
                refine tkn (i := 12) rfl (by kernel_rfl) (fun _ _ _ h => h) (by rfl) (by assumption) ?_
                try simp only [Act.put, tzA, tzB, tzC, tzD, tzE, tzF]
                refine tkn (i := 13) rfl (by kernel_rfl) (fun _ _ _ h => h) (by rfl) (by assumption) ?_
                try simp only [Act.put, tzA, tzB, tzC, tzD, tzE, tzF]
                refine tkn (i := 14) rfl (by kernel_rfl) (fun _ _ _ h => h) (by rfl) (by assumption) ?_
                try simp only [Act.put, tzA, tzB, tzC, tzD, tzE, tzF]
                refine tkn (i := 15) rfl (by kernel_rfl) (fun _ _ _ h => h) (by rfl) (by assumption) ?_
                try simp only [Act.put, tzA, tzB, tzC, tzD, tzE, tzF]
                refine tkn (i := 16) rfl (by kernel_rfl) (fun _ _ _ h => h) (by rfl) (by assumption) ?_
                try simp only [Act.put, tzA, tzB, tzC, tzD, tzE, tzF]
                refine tkn (i := 17) rfl (by kernel_rfl) (fun _ _ _ h => h) (by rfl) (by assumption) ?_
                try simp only [Act.put, tzA, tzB, tzC, tzD, tzE, tzF]
                refine tkn (i := 18) rfl (by kernel_rfl) (fun _ _ _ h => h) (by rfl) (by assumption) ?_
                try simp only [Act.put, tzA, tzB, tzC, tzD, tzE, tzF]
                refine tkn (i := 19) rfl (by kernel_rfl) (fun _ _ _ h => h) (by rfl) (by assumption) ?_
                try simp only [Act.put, tzA, tzB, tzC, tzD, tzE, tzF]
                refine tkq (i := 20) (v := ?_) rfl (by kernel_rfl) (fun _ _ _ h => h) (by rfl) ?_ (by assumption) ?_
                rotate_left 1
                · ((intro w hSw; (try dsimp only at hSw); go_simp) <;> with_reducible rfl)
                try simp only [Act.put, tzA, tzB, tzC, tzD, tzE, tzF]
                refine wpAnyH_done (by kernel_rfl) ?_ _
                clear hHeld
                have HNO := Lib.hid (show ∀ b', b' < b2 + 1 → ¬ LateP cs a b' from fun b' hb' => by
                  rcases Nat.lt_succ_iff_lt_or_eq.1 hb' with h | h
                  · exact HN2.out b' h
                  · subst h
                    rintro ⟨x', y', hx', hy', h1, h2, h3⟩
                    rw [HX.out.1] at hx'; rw [HY.out] at hy'
                    obtain rfl := Option.some.inj hx'
                    obtain rfl := Option.some.inj hy'
                    exact h1 HAB.out)
                go_wp2_with fail
                go_roundw
                case rel => exact ⟨b2 + 1, by go_num, by omega, HNO, Lib.hid HB4.out.drew⟩
                case measure => simp [intOf]; omega
              · have t1 : ((a : Int) != (b2 : Int)) = true := by rw [bne_iff_ne]; omega
                have HAB := Lib.hid hab
                clear hab
                by_cases htf : x.till ≤ y.from'
                · by_cases hpp : p2 < p1
                  · have HLT := Lib.hid (show LateP cs a b2 from ⟨x, y, HX.out.1, HY.out, HAB.out, htf, HIF.out.1 (by rw [← HPP.out.1, ← HPP.out.2]; exact hpp)⟩)
                    refine wp_region_held_drew (S := fun W => W.cell? ⟨pc, 9, none⟩ = some (.int .i64 x.till) ∧ W.cell? ⟨pd, 8, none⟩ = some (.int .i64 y.from') ∧ W.cell? ⟨pa, a, none⟩ = some (.int .i64 p1) ∧ W.cell? ⟨pa, b2, none⟩ = some (.int .i64 p2)) (by kernel_rfl) ⟨x9, y8, pa0, pb0⟩ (fun hHeld => ?_)
                    refine tkq (i := 0) (v := ?_) rfl (by kernel_rfl) (fun _ _ _ h => h) (by rfl) ?_ (by assumption) ?_
                    rotate_left 1
                    · ((intro w hSw; (try dsimp only at hSw); go_simp) <;> with_reducible rfl)
                    try simp only [Act.put, tzA, tzB, tzC, tzD, tzE]
                    refine tkq (i := 1) (v := ?_) rfl (by kernel_rfl) (fun _ _ _ h => h) (by rfl) ?_ (by assumption) ?_
                    rotate_left 1
                    · ((intro w hSw; (try dsimp only at hSw); go_simp) <;> with_reducible rfl)
                    try simp only [Act.put, tzA, tzB, tzC, tzD, tzE, tzF]
                    refine tkq (i := 2) (v := ?_) rfl (by kernel_rfl) (fun _ _ _ h => h) (by rfl) ?_ (by assumption) ?_
                    rotate_left 1
                    · ((intro w hSw; (try dsimp only at hSw); go_simp) <;> with_reducible rfl)
                    try simp only [Act.put, tzA, tzB, tzC, tzD, tzE, tzF]
                    refine tkq (i := 3) (v := ?_) rfl (by kernel_rfl) (fun _ _ _ h => h) (by rfl) ?_ (by assumption) ?_
                    rotate_left 1
                    · ((intro w hSw; (try dsimp only at hSw); go_simp) <;> with_reducible rfl)
                    try simp only [Act.put, tzA, tzB, tzC, tzD, tzE, tzF]
                    refine tkq (i := 4) (v := ?_) rfl (by kernel_rfl) (fun _ _ _ h => h) (by rfl) ?_ (by assumption) ?_
                    rotate_left 1
                    · ((intro w hSw; (try dsimp only at hSw); go_simp) <;> with_reducible rfl)
                    try simp only [Act.put, tzA, tzB, tzC, tzD, tzE, tzF]
                    refine tkq (i := 5) (v := ?_) rfl (by kernel_rfl) (fun _ _ _ h => h) (by rfl) ?_ (by assumption) ?_
                    rotate_left 1
                    · ((intro w hSw; (try dsimp only at hSw); obtain ⟨c0, c1, c2, c3⟩ := hSw; go_simp) <;> with_reducible rfl)
                    try simp only [Act.put, tzA, tzB, tzC, tzD, tzE, tzF]
                    refine tkq (i := 6) (v := ?_) rfl (by kernel_rfl) (fun _ _ _ h => h) (by rfl) ?_ (by assumption) ?_
                    rotate_left 1
                    · ((intro w hSw; (try dsimp only at hSw); go_simp) <;> with_reducible rfl)
                    try simp only [Act.put, tzA, tzB, tzC, tzD, tzE, tzF]
                    refine tkq (i := 7) (v := ?_) rfl (by kernel_rfl) (fun _ _ _ h => h) (by rfl) ?_ (by assumption) ?_
                    rotate_left 1
                    · ((intro w hSw; (try dsimp only at hSw); obtain ⟨c0, c1, c2, c3⟩ := hSw; go_simp) <;> with_reducible rfl)
                    try simp only [Act.put, tzA, tzB, tzC, tzD, tzE, tzF]
                    refine tkq (i := 8) (v := ?_) rfl (by kernel_rfl) (fun _ _ _ h => h) (by rfl) ?_ (by assumption) ?_
                    rotate_left 1
                    · ((intro w hSw; (try dsimp only at hSw); go_simp) <;> with_reducible rfl)
                    try simp only [Act.put, tzA, tzB, tzC, tzD, tzE, tzF]
                    refine tkq (i := 9) (v := ?_) rfl (by kernel_rfl) (fun _ _ _ h => h) (by rfl) ?_ (by assumption) ?_
                    rotate_left 1
                    · ((intro w hSw; (try dsimp only at hSw); go_simp) <;> with_reducible rfl)
                    try simp only [Act.put, tzA, tzB, tzC, tzD, tzE, tzF]
                    refine tkq (i := 10) (v := ?_) rfl (by kernel_rfl) (fun _ _ _ h => h) (by rfl) ?_ (by assumption) ?_
                    rotate_left 1
                    · ((intro w hSw; (try dsimp only at hSw); go_simp) <;> with_reducible rfl)
                    try simp only [Act.put, tzA, tzB, tzC, tzD, tzE, tzF]
                    refine tkq (i := 11) (v := ?_) rfl (by kernel_rfl) (fun _ _ _ h => h) (by rfl) ?_ (by assumption) ?_
                    rotate_left 1
                    · ((intro w hSw; (try dsimp only at hSw); go_simp) <;> with_reducible rfl)
                    try simp only [Act.put, tzA, tzB, tzC, tzD, tzE, tzF]
                    refine tkq (i := 12) (v := ?_) rfl (by kernel_rfl) (fun _ _ _ h => h) (by rfl) ?_ (by assumption) ?_
                    rotate_left 1
                    · ((intro w hSw; (try dsimp only at hSw); go_simp) <;> with_reducible rfl)
                    try simp only [Act.put, tzA, tzB, tzC, tzD, tzE, tzF]
                    refine tkq (i := 13) (v := ?_) rfl (by kernel_rfl) (fun _ _ _ h => h) (by rfl) ?_ (by assumption) ?_
                    rotate_left 1
                    · ((intro w hSw; (try dsimp only at hSw); go_simp) <;> with_reducible rfl)
                    try simp only [Act.put, tzA, tzB, tzC, tzD, tzE, tzF]
                    refine tkq (i := 14) (v := ?_) rfl (by kernel_rfl) (fun _ _ _ h => h) (by rfl) ?_ (by assumption) ?_
                    rotate_left 1
                    · ((intro w hSw; (try dsimp only at hSw); obtain ⟨c0, c1, c2, c3⟩ := hSw; go_simp) <;> with_reducible rfl)
                    try simp only [Act.put, tzA, tzB, tzC, tzD, tzE, tzF]
                    refine tkq (i := 15) (v := ?_) rfl (by kernel_rfl) (fun _ _ _ h => h) (by rfl) ?_ (by assumption) ?_
                    rotate_left 1
                    · ((intro w hSw; (try dsimp only at hSw); go_simp) <;> with_reducible rfl)
                    try simp only [Act.put, tzA, tzB, tzC, tzD, tzE, tzF]
                    refine tkq (i := 16) (v := ?_) rfl (by kernel_rfl) (fun _ _ _ h => h) (by rfl) ?_ (by assumption) ?_
                    rotate_left 1
                    · ((intro w hSw; (try dsimp only at hSw); go_simp) <;> with_reducible rfl)
                    try simp only [Act.put, tzA, tzB, tzC, tzD, tzE, tzF]
                    refine tkq (i := 17) (v := ?_) rfl (by kernel_rfl) (fun _ _ _ h => h) (by rfl) ?_ (by assumption) ?_
                    rotate_left 1
                    · ((intro w hSw; (try dsimp only at hSw); go_simp) <;> with_reducible rfl)
                    try simp only [Act.put, tzA, tzB, tzC, tzD, tzE, tzF]
                    refine tkq (i := 18) (v := ?_) rfl (by kernel_rfl) (fun _ _ _ h => h) (by rfl) ?_ (by assumption) ?_
                    rotate_left 1
                    · ((intro w hSw; (try dsimp only at hSw); obtain ⟨c0, c1, c2, c3⟩ := hSw; go_simp) <;> with_reducible rfl)
                    try simp only [Act.put, tzA, tzB, tzC, tzD, tzE, tzF]
                    refine tkq (i := 19) (v := ?_) rfl (by kernel_rfl) (fun _ _ _ h => h) (by rfl) ?_ (by assumption) ?_
                    rotate_left 1
                    · ((intro w hSw; (try dsimp only at hSw); go_simp) <;> with_reducible rfl)
                    try simp only [Act.put, tzA, tzB, tzC, tzD, tzE, tzF]
                    refine tkq (i := 20) (v := ?_) rfl (by kernel_rfl) (fun _ _ _ h => h) (by rfl) ?_ (by assumption) ?_
                    rotate_left 1
                    · ((intro w hSw; (try dsimp only at hSw); go_simp) <;> with_reducible rfl)
                    try simp only [Act.put, tzA, tzB, tzC, tzD, tzE, tzF]
                    refine wpAnyH_done (by kernel_rfl) ?_ _
                    clear hHeld
                    go_wp2_with fail
                    go_ret2
                    exact ⟨_, _, rfl, .inr ⟨a, b2, rfl, rfl, HLT.out, HA.out, HN2.out⟩, HBW.out.trans (HB5.out.drew.mono HBW.out.size)⟩
                  · have HLT := Lib.hid (show ¬ (y.point < x.point ∨ (y.point = x.point ∧ b2 < a)) from fun h => hpp (by rw [HPP.out.1, HPP.out.2]; exact HIF.out.2 h))
                    refine wp_region_held_drew (S := fun W => W.cell? ⟨pc, 9, none⟩ = some (.int .i64 x.till) ∧ W.cell? ⟨pd, 8, none⟩ = some (.int .i64 y.from') ∧ W.cell? ⟨pa, a, none⟩ = some (.int .i64 p1) ∧ W.cell? ⟨pa, b2, none⟩ = some (.int .i64 p2)) (by kernel_rfl) ⟨x9, y8, pa0, pb0⟩ (fun hHeld => ?_)
                    refine tkq (i := 0) (v := ?_) rfl (by kernel_rfl) (fun _ _ _ h => h) (by rfl) ?_ (by assumption) ?_
                    rotate_left 1
                    · ((intro w hSw; (try dsimp only at hSw); go_simp) <;> with_reducible rfl)
                    try simp only [Act.put, tzA, tzB, tzC, tzD, tzE]
                    refine tkq (i := 1) (v := ?_) rfl (by kernel_rfl) (fun _ _ _ h => h) (by rfl) ?_ (by assumption) ?_
                    rotate_left 1
                    · ((intro w hSw; (try dsimp only at hSw); go_simp) <;> with_reducible rfl)
                    try simp only [Act.put, tzA, tzB, tzC, tzD, tzE, tzF]
                    refine tkq (i := 2) (v := ?_) rfl (by kernel_rfl) (fun _ _ _ h => h) (by rfl) ?_ (by assumption) ?_
                    rotate_left 1
                    · ((intro w hSw; (try dsimp only at hSw); go_simp) <;> with_reducible rfl)
                    try simp only [Act.put, tzA, tzB, tzC, tzD, tzE, tzF]
                    refine tkq (i := 3) (v := ?_) rfl (by kernel_rfl) (fun _ _ _ h => h) (by rfl) ?_ (by assumption) ?_
                    rotate_left 1
                    · ((intro w hSw; (try dsimp only at hSw); go_simp) <;> with_reducible rfl)
                    try simp only [Act.put, tzA, tzB, tzC, tzD, tzE, tzF]
                    refine tkq (i := 4) (v := ?_) rfl (by kernel_rfl) (fun _ _ _ h => h) (by rfl) ?_ (by assumption) ?_
                    rotate_left 1
                    · ((intro w hSw; (try dsimp only at hSw); go_simp) <;> with_reducible rfl)
                    try simp only [Act.put, tzA, tzB, tzC, tzD, tzE, tzF]
                    refine tkq (i := 5) (v := ?_) rfl (by kernel_rfl) (fun _ _ _ h => h) (by rfl) ?_ (by assumption) ?_
                    rotate_left 1
                    · ((intro w hSw; (try dsimp only at hSw); obtain ⟨c0, c1, c2, c3⟩ := hSw; go_simp) <;> with_reducible rfl)
                    try simp only [Act.put, tzA, tzB, tzC, tzD, tzE, tzF]
                    refine tkq (i := 6) (v := ?_) rfl (by kernel_rfl) (fun _ _ _ h => h) (by rfl) ?_ (by assumption) ?_
                    rotate_left 1
                    · ((intro w hSw; (try dsimp only at hSw); go_simp) <;> with_reducible rfl)
                    try simp only [Act.put, tzA, tzB, tzC, tzD, tzE, tzF]
                    refine tkq (i := 7) (v := ?_) rfl (by kernel_rfl) (fun _ _ _ h => h) (by rfl) ?_ (by assumption) ?_
                    rotate_left 1
                    · ((intro w hSw; (try dsimp only at hSw); obtain ⟨c0, c1, c2, c3⟩ := hSw; go_simp) <;> with_reducible rfl)
                    try simp only [Act.put, tzA, tzB, tzC, tzD, tzE, tzF]
                    refine tkq (i := 8) (v := ?_) rfl (by kernel_rfl) (fun _ _ _ h => h) (by rfl) ?_ (by assumption) ?_
                    rotate_left 1
                    · ((intro w hSw; (try dsimp only at hSw); go_simp) <;> with_reducible rfl)
                    try simp only [Act.put, tzA, tzB, tzC, tzD, tzE, tzF]
                    refine tkq (i := 9) (v := ?_) rfl (by kernel_rfl) (fun _ _ _ h => h) (by rfl) ?_ (by assumption) ?_
                    rotate_left 1
                    · ((intro w hSw; (try dsimp only at hSw); go_simp) <;> with_reducible rfl)
                    try simp only [Act.put, tzA, tzB, tzC, tzD, tzE, tzF]
                    refine tkq (i := 10) (v := ?_) rfl (by kernel_rfl) (fun _ _ _ h => h) (by rfl) ?_ (by assumption) ?_
                    rotate_left 1
                    · ((intro w hSw; (try dsimp only at hSw); go_simp) <;> with_reducible rfl)
                    try simp only [Act.put, tzA, tzB, tzC, tzD, tzE, tzF]
                    refine tkq (i := 11) (v := ?_) rfl (by kernel_rfl) (fun _ _ _ h => h) (by rfl) ?_ (by assumption) ?_
                    rotate_left 1
                    · ((intro w hSw; (try dsimp only at hSw); go_simp) <;> with_reducible rfl)
                    try simp only [Act.put, tzA, tzB, tzC, tzD, tzE, tzF]
                    refine tkq (i := 12) (v := ?_) rfl (by kernel_rfl) (fun _ _ _ h => h) (by rfl) ?_ (by assumption) ?_
                    rotate_left 1
                    · ((intro w hSw; (try dsimp only at hSw); go_simp) <;> with_reducible rfl)
                    try simp only [Act.put, tzA, tzB, tzC, tzD, tzE, tzF]
                    refine tkq (i := 13) (v := ?_) rfl (by kernel_rfl) (fun _ _ _ h => h) (by rfl) ?_ (by assumption) ?_
                    rotate_left 1
                    · ((intro w hSw; (try dsimp only at hSw); go_simp) <;> with_reducible rfl)
                    try simp only [Act.put, tzA, tzB, tzC, tzD, tzE, tzF]
                    refine tkq (i := 14) (v := ?_) rfl (by kernel_rfl) (fun _ _ _ h => h) (by rfl) ?_ (by assumption) ?_
                    rotate_left 1
                    · ((intro w hSw; (try dsimp only at hSw); obtain ⟨c0, c1, c2, c3⟩ := hSw; go_simp) <;> with_reducible rfl)
                    try simp only [Act.put, tzA, tzB, tzC, tzD, tzE, tzF]
                    refine tkq (i := 15) (v := ?_) rfl (by kernel_rfl) (fun _ _ _ h => h) (by rfl) ?_ (by assumption) ?_
                    rotate_left 1
                    · ((intro w hSw; (try dsimp only at hSw); go_simp) <;> with_reducible rfl)
                    try simp only [Act.put, tzA, tzB, tzC, tzD, tzE, tzF]
                    refine tkq (i := 16) (v := ?_) rfl (by kernel_rfl) (fun _ _ _ h => h) (by rfl) ?_ (by assumption) ?_
                    rotate_left 1
                    · ((intro w hSw; (try dsimp only at hSw); go_simp) <;> with_reducible rfl)
                    try simp only [Act.put, tzA, tzB, tzC, tzD, tzE, tzF]
                    refine tkq (i := 17) (v := ?_) rfl (by kernel_rfl) (fun _ _ _ h => h) (by rfl) ?_ (by assumption) ?_
                    rotate_left 1
                    · ((intro w hSw; (try dsimp only at hSw); go_simp) <;> with_reducible rfl)
                    try simp only [Act.put, tzA, tzB, tzC, tzD, tzE, tzF]
                    refine tkq (i := 18) (v := ?_) rfl (by kernel_rfl) (fun _ _ _ h => h) (by rfl) ?_ (by assumption) ?_
                    rotate_left 1
                    · ((intro w hSw; (try dsimp only at hSw); obtain ⟨c0, c1, c2, c3⟩ := hSw; go_simp) <;> with_reducible rfl)
                    try simp only [Act.put, tzA, tzB, tzC, tzD, tzE, tzF]
                    refine tkq (i := 19) (v := ?_) rfl (by kernel_rfl) (fun _ _ _ h => h) (by rfl) ?_ (by assumption) ?_
                    rotate_left 1
                    · ((intro w hSw; (try dsimp only at hSw); go_simp) <;> with_reducible rfl)
                    try simp only [Act.put, tzA, tzB, tzC, tzD, tzE, tzF]
                    refine tkq (i := 20) (v := ?_) rfl (by kernel_rfl) (fun _ _ _ h => h) (by rfl) ?_ (by assumption) ?_
                    rotate_left 1
                    · ((intro w hSw; (try dsimp only at hSw); go_simp) <;> with_reducible rfl)
                    try simp only [Act.put, tzA, tzB, tzC, tzD, tzE, tzF]
                    refine wpAnyH_done (by kernel_rfl) ?_ _
                    clear hHeld
                    have HNO := Lib.hid (show ∀ b', b' < b2 + 1 → ¬ LateP cs a b' from fun b' hb' => by
                      rcases Nat.lt_succ_iff_lt_or_eq.1 hb' with h | h
                      · exact HN2.out b' h
                      · subst h
                        rintro ⟨x', y', hx', hy', h1, h2, h3⟩
                        rw [HX.out.1] at hx'; rw [HY.out] at hy'
                        obtain rfl := Option.some.inj hx'
                        obtain rfl := Option.some.inj hy'
                        exact HLT.out h3)
                    go_wp2_with fail
                    go_roundw
                    case rel => exact ⟨b2 + 1, by go_num, by omega, HNO, Lib.hid HB4.out.drew⟩
                    case measure => simp [intOf]; omega
                · have HLT := Lib.hid htf
                  refine wp_region_held_drew (S := fun W => W.cell? ⟨pc, 9, none⟩ = some (.int .i64 x.till) ∧ W.cell? ⟨pd, 8, none⟩ = some (.int .i64 y.from') ∧ W.cell? ⟨pa, a, none⟩ = some (.int .i64 p1) ∧ W.cell? ⟨pa, b2, none⟩ = some (.int .i64 p2)) (by kernel_rfl) ⟨x9, y8, pa0, pb0⟩ (fun hHeld => ?_)
                  refine tkq (i := 0) (v := ?_) rfl (by kernel_rfl) (fun _ _ _ h => h) (by rfl) ?_ (by assumption) ?_
                  rotate_left 1
                  · ((intro w hSw; (try dsimp only at hSw); go_simp) <;> with_reducible rfl)
                  try simp only [Act.put, tzA, tzB, tzC, tzD, tzE]
                  refine tkq (i := 1) (v := ?_) rfl (by kernel_rfl) (fun _ _ _ h => h) (by rfl) ?_ (by assumption) ?_
                  rotate_left 1
                  · ((intro w hSw; (try dsimp only at hSw); go_simp) <;> with_reducible rfl)
                  try simp only [Act.put, tzA, tzB, tzC, tzD, tzE, tzF]
                  refine tkq (i := 2) (v := ?_) rfl (by kernel_rfl) (fun _ _ _ h => h) (by rfl) ?_ (by assumption) ?_
                  rotate_left 1
                  · ((intro w hSw; (try dsimp only at hSw); go_simp) <;> with_reducible rfl)
                  try simp only [Act.put, tzA, tzB, tzC, tzD, tzE, tzF]
                  refine tkq (i := 3) (v := ?_) rfl (by kernel_rfl) (fun _ _ _ h => h) (by rfl) ?_ (by assumption) ?_
                  rotate_left 1
                  · ((intro w hSw; (try dsimp only at hSw); go_simp) <;> with_reducible rfl)
                  try simp only [Act.put, tzA, tzB, tzC, tzD, tzE, tzF]
                  refine tkq (i := 4) (v := ?_) rfl (by kernel_rfl) (fun _ _ _ h => h) (by rfl) ?_ (by assumption) ?_
                  rotate_left 1
                  · ((intro w hSw; (try dsimp only at hSw); go_simp) <;> with_reducible rfl)
                  try simp only [Act.put, tzA, tzB, tzC, tzD, tzE, tzF]
                  refine tkq (i := 5) (v := ?_) rfl (by kernel_rfl) (fun _ _ _ h => h) (by rfl) ?_ (by assumption) ?_
                  rotate_left 1
                  · ((intro w hSw; (try dsimp only at hSw); obtain ⟨c0, c1, c2, c3⟩ := hSw; go_simp) <;> with_reducible rfl)
                  try simp only [Act.put, tzA, tzB, tzC, tzD, tzE, tzF]
                  refine tkq (i := 6) (v := ?_) rfl (by kernel_rfl) (fun _ _ _ h => h) (by rfl) ?_ (by assumption) ?_
                  rotate_left 1
                  · ((intro w hSw; (try dsimp only at hSw); go_simp) <;> with_reducible rfl)
                  try simp only [Act.put, tzA, tzB, tzC, tzD, tzE, tzF]
                  refine tkq (i := 7) (v := ?_) rfl (by kernel_rfl) (fun _ _ _ h => h) (by rfl) ?_ (by assumption) ?_
                  rotate_left 1
                  · ((intro w hSw; (try dsimp only at hSw); obtain ⟨c0, c1, c2, c3⟩ := hSw; go_simp) <;> with_reducible rfl)
                  try simp only [Act.put, tzA, tzB, tzC, tzD, tzE, tzF]
                  refine tkq (i := 8) (v := ?_) rfl (by kernel_rfl) (fun _ _ _ h => h) (by rfl) ?_ (by assumption) ?_
                  rotate_left 1
                  · ((intro w hSw; (try dsimp only at hSw); go_simp) <;> with_reducible rfl)
                  try simp only [Act.put, tzA, tzB, tzC, tzD, tzE, tzF]
                  refine tkq (i := 9) (v := ?_) rfl (by kernel_rfl) (fun _ _ _ h => h) (by rfl) ?_ (by assumption) ?_
                  rotate_left 1
                  · ((intro w hSw; (try dsimp only at hSw); go_simp) <;> with_reducible rfl)
                  try simp only [Act.put, tzA, tzB, tzC, tzD, tzE, tzF]
                  refine tkq (i := 10) (v := ?_) rfl (by kernel_rfl) (fun _ _ _ h => h) (by rfl) ?_ (by assumption) ?_
                  rotate_left 1
                  · ((intro w hSw; (try dsimp only at hSw); go_simp) <;> with_reducible rfl)
                  try simp only [Act.put, tzA, tzB, tzC, tzD, tzE, tzF]
                  refine tkn (i := 11) rfl (by kernel_rfl) (fun _ _ _ h => h) (by rfl) (by assumption) ?_
                  try simp only [Act.put, tzA, tzB, tzC, tzD, tzE, tzF]
                  refine tkn (i := 12) rfl (by kernel_rfl) (fun _ _ _ h => h) (by rfl) (by assumption) ?_
                  try simp only [Act.put, tzA, tzB, tzC, tzD, tzE, tzF]
                  refine tkn (i := 13) rfl (by kernel_rfl) (fun _ _ _ h => h) (by rfl) (by assumption) ?_
                  try simp only [Act.put, tzA, tzB, tzC, tzD, tzE, tzF]
                  refine tkn (i := 14) rfl (by kernel_rfl) (fun _ _ _ h => h) (by rfl) (by assumption) ?_
                  try simp only [Act.put, tzA, tzB, tzC, tzD, tzE, tzF]
                  refine tkn (i := 15) rfl (by kernel_rfl) (fun _ _ _ h => h) (by rfl) (by assumption) ?_
                  try simp only [Act.put, tzA, tzB, tzC, tzD, tzE, tzF]
                  refine tkn (i := 16) rfl (by kernel_rfl) (fun _ _ _ h => h) (by rfl) (by assumption) ?_
                  try simp only [Act.put, tzA, tzB, tzC, tzD, tzE, tzF]
                  refine tkn (i := 17) rfl (by kernel_rfl) (fun _ _ _ h => h) (by rfl) (by assumption) ?_
                  try simp only [Act.put, tzA, tzB, tzC, tzD, tzE, tzF]
                  refine tkn (i := 18) rfl (by kernel_rfl) (fun _ _ _ h => h) (by rfl) (by assumption) ?_
                  try simp only [Act.put, tzA, tzB, tzC, tzD, tzE, tzF]
                  refine tkn (i := 19) rfl (by kernel_rfl) (fun _ _ _ h => h) (by rfl) (by assumption) ?_
                  try simp only [Act.put, tzA, tzB, tzC, tzD, tzE, tzF]
                  refine tkq (i := 20) (v := ?_) rfl (by kernel_rfl) (fun _ _ _ h => h) (by rfl) ?_ (by assumption) ?_
                  rotate_left 1
                  · ((intro w hSw; (try dsimp only at hSw); go_simp) <;> with_reducible rfl)
                  try simp only [Act.put, tzA, tzB, tzC, tzD, tzE, tzF]
                  refine wpAnyH_done (by kernel_rfl) ?_ _
                  clear hHeld
                  have HNO := Lib.hid (show ∀ b', b' < b2 + 1 → ¬ LateP cs a b' from fun b' hb' => by
                    rcases Nat.lt_succ_iff_lt_or_eq.1 hb' with h | h
                    · exact HN2.out b' h
                    · subst h
                      rintro ⟨x', y', hx', hy', h1, h2, h3⟩
                      rw [HX.out.1] at hx'; rw [HY.out] at hy'
                      obtain rfl := Option.some.inj hx'
                      obtain rfl := Option.some.inj hy'
                      exact HLT.out h2)
                  go_wp2_with fail
                  go_roundw
                  case rel => exact ⟨b2 + 1, by go_num, by omega, HNO, Lib.hid HB4.out.drew⟩
                  case measure => simp [intOf]; omega
            · obtain rfl : b2 = cs.length := by omega
              have HNO := Lib.hid (show ∀ a' b', a' < a + 1 → ¬ LateP cs a' b' from fun a' b' ha' => by
                rcases Nat.lt_succ_iff_lt_or_eq.1 ha' with h | h
                · exact HA.out a' b' h
                · subst h
                  rintro ⟨x', y', hx', hy', h1, h2, h3⟩
                  exact HN2.out b' (List.getElem?_eq_some_iff.1 hy').1 ⟨x', y', hx', hy', h1, h2, h3⟩)
              have HBZ := Lib.hid (HBQ.out.trans (HB.out.mono HBQ.out.size))
              go_wp2_with fail
              go_roundw
              case rel => exact ⟨a + 1, by go_num, by omega, HNO, HBZ⟩
              case measure => simp [intOf]; omega
        · obtain rfl : a = cs.length := by omega
          have HNO := Lib.hid (show ∀ a' b', ¬ LateP cs a' b' from fun a' b' h => by
            obtain ⟨x', y', hx', hy', h1⟩ := h
            exact HA.out a' b' (List.getElem?_eq_some_iff.1 hx').1 ⟨x', y', hx', hy', h1⟩)
          go_wp2_with fail
          go_ret2
          exact ⟨_, _, rfl, .inl ⟨rfl, rfl, HNO.out⟩, HBW.out.trans (HB.out.mono HBW.out.size)⟩
end Go.Proofs.YtaooangnnlopcaaGreatDoor
