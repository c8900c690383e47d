/- The law LinesBlanks returns true at every line and gaps. Conditions: MaxLen, ErrRange, the powers of ten as they must be. (Printed by genlblanks.py.) -/
import Derived.Test.YtofpaooaiafpbaaDoorLinesParse
import Derived.Test.YtofpaooaiafpbaaDoorLawSame29
import Derived.Test.YtofpaooaiafpbaaDoorLinePlain2
import Derived.Test.YtofpaooaiafpbaaDoorWordsWalk
namespace Go.Proofs.YtofpaooaiafpbaaDoor
open Go.RowKit Go.ChangeMaps Go.MapKept

theorem repeat_bl : ∀ k : Nat, Lib.repeatL [32] k = List.replicate k 32
  | 0 => rfl
  | k + 1 => by rw [Lib.repeatL, repeat_bl k]; rfl
theorem blanks_any (n : Nat) (h : n ≤ 100) (w : World) : Calls Tryd.prog 11 #[.string ⟨#[32]⟩, .int .i64 (n : Int)] w fun e w' => e = .returned (sv (List.replicate n 32)) ∧ Below w.heap.size w w' := by
  have := Tryd.strings_Repeat ⟨#[32]⟩ n w (by omega) (by show 1 * n ≤ _; omega)
  rw [show Lib.repeatL (⟨#[32]⟩ : ByteArray).data.toList n = List.replicate n 32 from repeat_bl n] at this
  exact this
theorem idx_gap {a : Option Addr} {g o n c k : Nat} (ha : a = some ⟨g, o, none⟩) (hk : k < n) (W : World) : (Instr.indexAt 39 (.slice a n c) (.int .i64 (k : Int))).run Tryd.prog W = .ok (.pointer (some ⟨g, o + k, none⟩)) W := by
  subst ha
  have h0 : (0 : Int) ≤ (k : Int) := by omega
  have h1 : (k : Int) < (n : Int) := by omega
  have h2 := Tryd.underlying39
  go_simp
/-- The text that the first k words have, blanks between. -/
def BlT (L : List (List UInt8)) (k : Nat) (T : List UInt8) : Prop := Texts T (L.take k) ∧ T.length ≤ 4 * k + (flatW (L.take k)).length
theorem blT_next {L : List (List UInt8)} {k m : Nat} {T x : List UInt8} (h : BlT L k T) (hx : L[k]? = some x) (h0 : x ≠ []) (hb : ∀ c ∈ x, c ≠ 32) (h1 : 1 ≤ m) (h4 : m ≤ 4) : BlT L (k + 1) (T ++ List.replicate m 32 ++ x) := by
  have ht : L.take (k + 1) = L.take k ++ [x] := by rw [List.take_add_one, hx]; rfl
  unfold BlT
  rw [ht]
  refine ⟨texts_word h.1 (fun _ => h1) h0 hb, ?_⟩
  have := h.2
  rw [flatW_snoc]
  simp only [List.length_append, List.length_replicate, List.length_cons]
  omega
theorem blT_le {L : List (List UInt8)} {k : Nat} {T : List UInt8} (h : BlT L k T) (hk : k ≤ 2501) (hf : (flatW L).length ≤ 2501) : T.length ≤ 13000 := by
  have h1 := h.2
  have h2 := flatW_take L k
  omega
/-- What the region holds of the world. -/
structure BlW (w : World) (W : World) : Prop where
  below : Below w.heap.size w W
theorem bl_keep {w : World} {g j : Nat} {v : Value} {W W' : World} (hb : Below W.heap.size W W') (h : W.cell? ⟨g, j, none⟩ = some v ∧ BlW w W) : W'.cell? ⟨g, j, none⟩ = some v ∧ BlW w W' :=
  ⟨(hb.cell (p := ⟨g, j, none⟩) (cell_lt h.1)).trans h.1, ⟨h.2.below.trans (hb.mono h.2.below.size)⟩⟩

set_option maxRecDepth 100000 in
set_option maxHeartbeats 6400000 in
theorem linesBlanks_walk (s : ByteArray) {gv : Value} {G : List UInt8} {w : World} (hs : s.size ≤ maxLen) (hg : Own w 0 gv (G.map u8v)) (hL : HasLen w) (hE : HasErr w) (hP : HasPow w) :
    Calls Tryd.prog 4 #[.string s, gv] w fun e w' => e = .returned (.bool true) ∧ Below w.heap.size w w' := by
  obtain ⟨ga, gc, hga⟩ := hg.len
  rw [List.length_map] at hga
  subst hga
  have hgm : G.length ≤ maxLen := by have := hg.max; rwa [List.length_map] at this
  unfold maxLen at hgm hs
  have HG := Lib.hid hg
  have HL := Lib.hid hL
  have HE := Lib.hid hE
  have HP := Lib.hid hP
  have HW := Lib.hid (Below.refl w.heap.size w)
  clear hL hE hP hg
  by_cases h0 : 2500 < s.size
  · have d0 : decide ((2500 : Int) < (s.size : Int)) = true := by rw [decide_eq_true_eq]; omega
    clear h0
    go_enter Tryd.func4, Tryd.ntmps4
    go_wp2_with fail
    refine (lives29 _ HL.out HE.out HP.out).mono ?_
    rintro e w' ⟨rfl, hb⟩
    go_wp2_with fail
    go_ret
    exact ⟨rfl, (HW.out).trans (hb.mono (HW.out).size)⟩
  · have d0 : decide ((2500 : Int) < (s.size : Int)) = false := by rw [decide_eq_false_iff_not]; omega
    by_cases h1 : 40 < G.length
    · have d1 : decide ((40 : Int) < (G.length : Int)) = true := by rw [decide_eq_true_eq]; omega
      clear h0 h1
      go_enter Tryd.func4, Tryd.ntmps4
      go_wp2_with fail
      refine (lives29 _ HL.out HE.out HP.out).mono ?_
      rintro e w' ⟨rfl, hb⟩
      go_wp2_with fail
      go_ret
      exact ⟨rfl, (HW.out).trans (hb.mono (HW.out).size)⟩
    · have d1 : decide ((40 : Int) < (G.length : Int)) = false := by rw [decide_eq_false_iff_not]; omega
      have hsz : s.size ≤ 2500 := by omega
      have hG40 : G.length ≤ 40 := by omega
      clear h0 h1
      go_enter Tryd.func4, Tryd.ntmps4
      go_wp2_with fail
      refine (lparseLine_any s w (by omega) HL.out HE.out).mono ?_
      rintro e v0 ⟨ks, rfl, hok, hb⟩
      have htl := told_long (bs s)
      have hpw := fun s' h h' hw => parseL_words (s := bs s) (s' := s') h h' hw
      have hle := told_le (bs s)
      rw [bs_length] at htl
      generalize hR : parseL (bs s) = R at *
      obtain ⟨a, t⟩ := R
      simp only at hok htl hle ⊢
      obtain ⟨oa, oc, hks⟩ := hok.len
      rw [List.length_map] at hks
      subst hks
      have hz : (v0.alloc (.cells zeroA 29)).heap[v0.heap.size]? = some (.cells zeroA 29 (0, 0)) := heap_alloc_new _ _
      have HOK := Lib.hid hok
      have HBV := Lib.hid hb
      have HPW := Lib.hid hpw
      have HTL := Lib.hid htl
      clear hok hb hR hpw htl
      go_upto_region 4 with ((with_reducible show wpList _ _ _ (⟨none, Op.store _ _ _, _, _, _, _⟩ :: _) _ _); refine wpList_store_whole (by rfl) 29 (.tmp 5) (.tmp 25) (by rfl) v0.heap.size (by rfl) (cmdCells (.slice oa a.keys.length oc) a).toArray (by rfl) _ 29 hz (by rfl) (by kernel_rfl) (by simp [Value.oneCell']) ?_; intro u0 hr hg hs)
      have hg' := grown_new hg
      have hbu := below_to HBV.out hg'
      have hka := strs_below (L := a.keys) HOK.out ⟨hg'.os, hg'.tape, hg'.output, hg'.size, fun k hk => hg'.block k hk (by simp)⟩
      have HXA := Lib.hid hr
      have HKA := Lib.hid hka
      have HBU := Lib.hid hbu
      have hwd := words_any s u0 (by omega) (HL.out.below hbu)
      have HWD := Lib.hid hwd
      clear hr hg hs hz hg' hbu hka HOK HBV hwd
      go_wp2_with fail
      refine HWD.out.mono ?_
      rintro e w2 ⟨lv, rfl, hown, hb2⟩
      have hfull : ∀ x ∈ words (bs s), x ≠ [] := words_full (bs s) []
      have hnb := words_nb (bs s)
      have hfl : (flatW (words (bs s))).length ≤ 2501 := by have h := flat_words (bs s) []; rw [bs_length] at h; simp only [List.length_nil] at h; unfold words; omega
      have hll : (words (bs s)).length ≤ 2501 := Nat.le_trans (keys_le_flat _) hfl
      generalize hwL : words (bs s) = L at *
      obtain ⟨la, lc, hlv⟩ := hown.len
      rw [List.length_map] at hlv
      subst hlv
      have hxa := (hb2.block _ (lt_of_block HXA.out)).trans HXA.out
      have hka := strs_below HKA.out hb2
      have hbw := HBU.out.trans (hb2.mono HBU.out.size)
      clear HXA HKA HBU HWD
      have HXA := Lib.hid hxa
      have HKA := Lib.hid hka
      have HBW := Lib.hid hbw
      have HOWN := Lib.hid hown
      have HWL := Lib.hid hwL
      have HF := Lib.hid (And.intro hfull (And.intro hnb hfl))
      clear hb2 hxa hka hbw hown hwL hfull hnb hfl
      go_wp2_with fail
      go_loopw [8, 9] (fun s8 s9 wr => ∃ (k : Nat) (T : List UInt8), k ≤ L.length ∧ s9 = .int .i64 k ∧ s8 = sv T ∧ Hid (BlT L k T) ∧ Hid (Below w2.heap.size w2 wr)) (fun _ s9 _ => L.length - (intOf s9).toNat)
      case atStart => exact ⟨0, [], Nat.zero_le _, rfl, rfl, ⟨texts_nil, by simp⟩, Below.refl _ _⟩
      case round =>
        obtain ⟨k, T, hk, rfl, rfl, hT, hb⟩ := hrel
        have hTl : T.length ≤ 13000 := blT_le hT.out (by omega) HF.out.2.2
        by_cases hlt : k < L.length
        · obtain ⟨x, hx⟩ : ∃ x, L[k]? = some x := ⟨_, List.getElem?_eq_getElem hlt⟩
          obtain ⟨g, o, cc, he, _, hgl, hcell, _⟩ := HOWN.out.at (k := k) (x := sv x) (by rw [List.getElem?_map, hx]; rfl)
          have hix : ∀ W : World, (Instr.indexAt 23 (.slice la L.length lc) (.int .i64 (k : Int))).run Tryd.prog W = .ok (.pointer (some ⟨g, o + k, none⟩)) W := fun W => idx_str' (slice_inj he).1 hlt W
          have hcx : wr.cell? ⟨g, o + k, none⟩ = some (sv x) := (hb.out.cell (p := ⟨g, o + k, none⟩) hgl).trans hcell
          have hxf : x.length ≤ 2501 := Nat.le_trans (flatW_mem (List.mem_of_getElem? hx)) HF.out.2.2
          have hnext := fun m h1 h4 => blT_next (m := m) hT.out hx (HF.out.1 x (List.mem_of_getElem? hx)) (HF.out.2.1 x (List.mem_of_getElem? hx)) h1 h4
          have HNEXT := Lib.hid hnext
          clear he hcell hx hnext
          go_upto_if 38 with fail
          go_cut [10] (fun s10 wx => wr = wx ∧ ∃ m : Nat, 1 ≤ m ∧ m ≤ 4 ∧ s10 = .int .i64 (m : Int))
          case first =>
            by_cases hgk : k < G.length
            · obtain ⟨c, hc⟩ : ∃ c, G[k]? = some c := ⟨_, List.getElem?_eq_getElem hgk⟩
              obtain ⟨g2, o2, cc2, he2, _, hg2, hcell2, _⟩ := HG.out.at (k := k) (x := u8v c) (by rw [List.getElem?_map, hc]; rfl)
              have hx2 := fun W => idx_gap (n := G.length) (c := gc) (slice_inj he2).1 hgk W
              have hbr := HBW.out.trans (hb.out.mono HBW.out.size)
              have hgcell : wr.cell? ⟨g2, o2 + k, none⟩ = some (.int .u8 (c.toNat : Int)) := (hbr.cell (p := ⟨g2, o2 + k, none⟩) hg2).trans hcell2
              have hc255 := c.toNat_lt
              obtain ⟨q, hq⟩ : ∃ q, q = c.toNat % 4 := ⟨_, rfl⟩
              have hq4 : q < 4 := by omega
              have q1 : ((c.toNat : Int)).tmod 4 = (q : Int) := by rw [Int.tmod_eq_emod_of_nonneg (by omega)]; omega
              have q2 : (c.toNat : Int) % 4 = (q : Int) := by omega
              have q3 : IntKind.u8.wrap (q : Int) = (q : Int) := by rw [IntKind.wrap_u8]; omega
              have q4 : IntKind.i64.wrap (1 + (q : Int)) = 1 + (q : Int) := IntWalk.i64_in _ (by omega)
              clear he2 hcell2 hc hbr hq
              go_wp2_with fail
              go_meet
              case rel => exact ⟨rfl, 1 + q, by omega, by omega, by go_num⟩
            · go_wp2_with fail
              go_meet
              case rel => exact ⟨rfl, 1, by omega, by omega, rfl⟩
          case rest =>
            obtain ⟨rfl, m, hm1, hm4, rfl⟩ := hcut
            have hrp := fun W => blanks_any m (by omega) W
            have hnx := HNEXT.out m hm1 hm4
            have hrl : (List.replicate m (32 : UInt8)).length ≤ 4 := by simpa using hm4
            generalize List.replicate m (32 : UInt8) = X at *
            have s1 : ¬ 9223372036854775807 < T.length + X.length := by omega
            have s2 : ¬ 9223372036854775807 < T.length + X.length + x.length := by omega
            have HRP := Lib.hid hrp
            have HNX := Lib.hid hnx
            have hbl : BlW wr wr := ⟨Below.refl _ _⟩
            clear hrp hnx HNEXT hT
            go_wp2_with fail
            go_region_held3 (fun W => W.cell? ⟨g, o + k, none⟩ = some (sv x) ∧ BlW wr W)
              (first
                | (exact bl_keep (Below.refl _ _).drew ⟨by assumption, by assumption⟩)
                | (go_split_ands; exact bl_keep (by assumption) ⟨by assumption, by assumption⟩)
                | go_keep)
              (first
                | (go_split_ands; go_at_call 11; refine (HRP.out _).mono ?_; rintro e w9 ⟨rfl, hb9⟩)
                | fail)
            all_goals go_split_ands
            all_goals go_wp2_with fail
            all_goals go_roundw
            case rel => exact ⟨k + 1, T ++ X ++ x, by omega, by go_num, sv_of (by rw [bs_append, bs_append]), HNX.out, hb.out.trans ((BlW.below ‹BlW _ _›).mono hb.out.size)⟩
            case measure => simp [intOf]; omega
        · obtain rfl : k = L.length := by omega
          have hTT : Texts T L := by have h := hT.out.1; rwa [List.take_length] at h
          have hb' : Below w2.heap.size w2 wr := hb
          have HTT := Lib.hid hTT
          have HBR := Lib.hid hb'
          clear hT hTT hb hb'
          go_upto_if 58 with fail
          go_cut [8] (fun s8 wx => ∃ (W3 : World) (T' : List UInt8), W3 = wx ∧ s8 = sv T' ∧ Hid (Texts T' L) ∧ T'.length ≤ 13010 ∧ Hid (Below w2.heap.size w2 W3))
          case first =>
            by_cases hg0 : 0 < G.length
            · obtain ⟨c, hc⟩ : ∃ c, G[0]? = some c := ⟨_, List.getElem?_eq_getElem hg0⟩
              obtain ⟨g2, o2, cc2, he2, _, hg2, hcell2, _⟩ := HG.out.at (k := 0) (x := u8v c) (by rw [List.getElem?_map, hc]; rfl)
              have hx2 : ∀ W : World, (Instr.indexAt 39 (.slice ga G.length gc) (.int .i64 0)).run Tryd.prog W = .ok (.pointer (some ⟨g2, o2, none⟩)) W := fun W => idx_gap (n := G.length) (c := gc) (k := 0) (slice_inj he2).1 hg0 W
              have hbr := HBW.out.trans (HBR.out.mono HBW.out.size)
              have hgcell : wr.cell? ⟨g2, o2, none⟩ = some (.int .u8 (c.toNat : Int)) := (hbr.cell (p := ⟨g2, o2, none⟩) hg2).trans hcell2
              have hc255 := c.toNat_lt
              obtain ⟨q, hq⟩ : ∃ q, q = c.toNat % 5 := ⟨_, rfl⟩
              have hq4 : q < 5 := by omega
              have q1 : ((c.toNat : Int)).tmod 5 = (q : Int) := by rw [Int.tmod_eq_emod_of_nonneg (by omega)]; omega
              have q2 : (c.toNat : Int) % 5 = (q : Int) := by omega
              have q3 : IntKind.u8.wrap (q : Int) = (q : Int) := by rw [IntKind.wrap_u8]; omega
              have g1 : decide ((0 : Int) < (G.length : Int)) = true := by rw [decide_eq_true_eq]; omega
              have hrp := blanks_any q (by omega) wr
              have hnx := texts_skip HTT.out q
              have hrl : (List.replicate q (32 : UInt8)).length ≤ 4 := by simp; omega
              generalize List.replicate q (32 : UInt8) = X at *
              have s1 : ¬ 9223372036854775807 < T.length + X.length := by omega
              have HRP := Lib.hid hrp
              have HNX := Lib.hid hnx
              clear he2 hcell2 hc hbr hq hrp hnx
              go_wp2_with fail
              refine HRP.out.mono ?_
              rintro e w9 ⟨rfl, hb9⟩
              have HB9 := Lib.hid (HBR.out.trans (hb9.mono HBR.out.size))
              clear hb9
              go_wp2_with fail
              go_meet
              case rel => exact ⟨_, T ++ X, rfl, sv_of (by rw [bs_append]), HNX.out, by simp only [List.length_append]; omega, HB9.out⟩
            · have g1 : decide ((0 : Int) < (G.length : Int)) = false := by rw [decide_eq_false_iff_not]; omega
              go_wp2_with fail
              go_meet
              case rel => exact ⟨_, T, rfl, rfl, HTT.out, by omega, HBR.out⟩
          case rest =>
            obtain ⟨W3, T', rfl, rfl, hT', hTl', hb3⟩ := hcut
            have hb3w : Below w.heap.size w W3 := HBW.out.trans (hb3.out.mono HBW.out.size)
            have hpar := lparse_at T' W3 (by omega) (HL.out.below hb3w) (HE.out.below hb3w)
            have HB3 := Lib.hid hb3.out
            have HB3W := Lib.hid hb3w
            have HPAR := Lib.hid hpar
            clear hb3 hb3w hpar HTT HBR
            go_wp2_with fail
            refine HPAR.out.mono ?_
            rintro e v4 ⟨kb, rfl, hok, hb⟩
            have htl2 := told_long T'
            have hpw2 : s.size ≤ 2048 → T'.length ≤ 2048 → (a, t) = parseL T' := fun h1 h2 => HPW.out T' (by rw [bs_length]; exact h1) h2 hT'.out.1.symm
            generalize parseL T' = R at *
            obtain ⟨b, u⟩ := R
            simp only at hok htl2 ⊢
            obtain ⟨ob, od, hkb⟩ := hok.len
            rw [List.length_map] at hkb
            subst hkb
            have hz : (v4.alloc (.cells zeroA 29)).heap[v4.heap.size]? = some (.cells zeroA 29 (0, 0)) := heap_alloc_new _ _
            have HOK := Lib.hid hok
            have HBV := Lib.hid hb
            have HPW2 := Lib.hid hpw2
            have HT2 := Lib.hid htl2
            clear hok hb HPAR hpw2 htl2 hT'
            go_upto_region 16 with ((with_reducible show wpList _ _ _ (⟨none, Op.store _ _ _, _, _, _, _⟩ :: _) _ _); refine wpList_store_whole (by rfl) 29 (.tmp 11) (.tmp 70) (by rfl) v4.heap.size (by rfl) (cmdCells (.slice ob b.keys.length od) b).toArray (by rfl) _ 29 hz (by rfl) (by kernel_rfl) (by simp [Value.oneCell']) ?_; intro u5 hr hg hs)
            have hg' := grown_new hg
            have hbu := HB3.out.trans ((below_to HBV.out hg').mono HB3.out.size)
            have hbw5 : Below w.heap.size w u5 := HBW.out.trans (hbu.mono HBW.out.size)
            have hxa := (hbu.block _ (lt_of_block HXA.out)).trans HXA.out
            have hka := strs_below HKA.out hbu
            have hkb : Strs u5 W3.heap.size (.slice ob b.keys.length od) b.keys := strs_below HOK.out ⟨hg'.os, hg'.tape, hg'.output, hg'.size, fun k hk => hg'.block k hk (by simp)⟩
            obtain ⟨b0, b1, b2, b3, b4, b5, b6, b7, b8, b9, b10⟩ := box_cells hr
            obtain ⟨a0, a1, a2, a3, a4, a5, a6, a7, a8, a9, a10⟩ := box_cells hxa
            have HBW5 := Lib.hid hbw5
            clear hr hg hs hz hg' hbu hbw5 hxa HOK HBV
            by_cases l1 : 2048 < s.size
            · have e1 : t = 3 := HTL.out.2 l1
              have e2 : ((t : Int) == 3) = true := by rw [e1]; rfl
              have e3 : decide ((2048 : Int) < (s.size : Int)) = true := by rw [decide_eq_true_eq]; omega
              by_cases l2 : 2048 < T'.length
              · have e4 : u = 3 := HT2.out.2 l2
                have e5 : ((u : Int) == 3) = true := by rw [e4]; rfl
                have e6 : decide ((2048 : Int) < (T'.length : Int)) = true := by rw [decide_eq_true_eq]; omega
                have e7 : decide (2048 < T'.length) = true := by rw [decide_eq_true_eq]; omega
                have e8 : decide (2048 < s.size) = true := by rw [decide_eq_true_eq]; omega
                clear e1 e4 l1 l2 hka hkb
                go_wp2_with fail
                refine (lives29 _ (HL.out.below HBW5.out) (HE.out.below HBW5.out) (HP.out.below HBW5.out)).mono ?_
                rintro e w' ⟨rfl, hb⟩
                go_wp2_with fail
                go_ret
                exact ⟨rfl, (HBW5.out).trans (hb.mono (HBW5.out).size)⟩
              · have e4 : u ≠ 3 := fun h => l2 (HT2.out.1 h)
                have e5 : ((u : Int) == 3) = false := by rw [beq_eq_false_iff_ne]; omega
                have e6 : decide ((2048 : Int) < (T'.length : Int)) = false := by rw [decide_eq_false_iff_not]; omega
                have e7 : decide (2048 < T'.length) = false := by rw [decide_eq_false_iff_not]; omega
                have e8 : decide (2048 < s.size) = true := by rw [decide_eq_true_eq]; omega
                clear e1 e4 l1 l2 hka hkb
                go_wp2_with fail
                refine (lives29 _ (HL.out.below HBW5.out) (HE.out.below HBW5.out) (HP.out.below HBW5.out)).mono ?_
                rintro e w' ⟨rfl, hb⟩
                go_wp2_with fail
                go_ret
                exact ⟨rfl, (HBW5.out).trans (hb.mono (HBW5.out).size)⟩
            · have e1 : t ≠ 3 := fun h => l1 (HTL.out.1 h)
              have e2 : ((t : Int) == 3) = false := by rw [beq_eq_false_iff_ne]; omega
              have e3 : decide ((2048 : Int) < (s.size : Int)) = false := by rw [decide_eq_false_iff_not]; omega
              have e8 : decide (2048 < s.size) = false := by rw [decide_eq_false_iff_not]; omega
              by_cases l2 : 2048 < T'.length
              · have e4 : u = 3 := HT2.out.2 l2
                have e5 : ((u : Int) == 3) = true := by rw [e4]; rfl
                have e6 : decide ((2048 : Int) < (T'.length : Int)) = true := by rw [decide_eq_true_eq]; omega
                have e7 : decide (2048 < T'.length) = true := by rw [decide_eq_true_eq]; omega
                clear e1 e4 l1 l2 hka hkb
                go_wp2_with fail
                refine (lives29 _ (HL.out.below HBW5.out) (HE.out.below HBW5.out) (HP.out.below HBW5.out)).mono ?_
                rintro e w' ⟨rfl, hb⟩
                go_wp2_with fail
                go_ret
                exact ⟨rfl, (HBW5.out).trans (hb.mono (HBW5.out).size)⟩
              · have e4 : u ≠ 3 := fun h => l2 (HT2.out.1 h)
                have e5 : ((u : Int) == 3) = false := by rw [beq_eq_false_iff_ne]; omega
                have e6 : decide ((2048 : Int) < (T'.length : Int)) = false := by rw [decide_eq_false_iff_not]; omega
                have e7 : decide (2048 < T'.length) = false := by rw [decide_eq_false_iff_not]; omega
                obtain ⟨rfl, rfl⟩ := Prod.mk.inj (HPW2.out (by omega) (by omega))
                have hsame := lsame29_any (a := a) (b := a) hka hkb
                rw [(sameC_iff a a).2 rfl] at hsame
                have HSAME := Lib.hid hsame
                clear e1 e4 l1 l2 hka hkb hsame
                go_wp2_with fail
                refine HSAME.out.mono ?_
                rintro e w6 ⟨rfl, hb6⟩
                have HBW6 := Lib.hid (HBW5.out.trans (hb6.mono HBW5.out.size))
                clear hb6 HSAME
                go_wp2_with fail
                refine (lives29 _ (HL.out.below HBW6.out) (HE.out.below HBW6.out) (HP.out.below HBW6.out)).mono ?_
                rintro e w' ⟨rfl, hb⟩
                go_wp2_with fail
                go_ret
                exact ⟨rfl, (HBW6.out).trans (hb.mono (HBW6.out).size)⟩
end Go.Proofs.YtofpaooaiafpbaaDoor
