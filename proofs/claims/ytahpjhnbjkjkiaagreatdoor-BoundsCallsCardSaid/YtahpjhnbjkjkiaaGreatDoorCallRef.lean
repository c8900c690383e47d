/- The document's calls of bytes (nestboxref40.Calls), walked. Condition: less than 2^20 bytes. -/
import Derived.Test.YtahpjhnbjkjkiaaGreatDoorLowL
import Derived.Test.YtahpjhnbjkjkiaaGreatDoorFeedSame
namespace Go.Proofs.YtahpjhnbjkjkiaaGreatDoor
open Go.RowKit Go.ChangeMaps Go.MapKept

def RCallsOk (C : List Cmd) (w : World) (e : Ending) (w' : World) : Prop := ∃ v, e = .returned v ∧ CallJ w w' v C
set_option maxRecDepth 100000 in
set_option maxHeartbeats 16000000 in
theorem refCalls_any {w : World} {bv : Value} {bl : List UInt8} (hb : BRow w bv bl) (hlen : bl.length < 1048576) :
    Calls Tryz.prog 31 #[bv] w (RCallsOk (callsL (refEv bl).1) w) := by
  obtain ⟨ba, bc, rfl⟩ := hb.len
  obtain ⟨i0, hi0, hz0, hz1, hz2⟩ := info_parts infoCall
  have Hi := Lib.hid hi0
  have Hz := Lib.hid (And.intro hz0 (And.intro hz1 hz2))
  have hin := events_any hb hlen
  have HIN := Lib.hid hin
  clear hin hb hi0 hz0 hz1 hz2
  go_enter Tryz.func31, Tryz.ntmps31
  go_wp2_with fail
  refine HIN.out.mono ?_
  rintro e w1 ⟨lv, L, rfl, hev, hr⟩
  obtain ⟨ea, ec, rfl⟩ := row_slice hr.row
  have hrow : REvRow w1 (.slice ea L.length ec) L := ⟨Row.of_owns hr.row, hr.keys⟩
  have hrun := (feed_all bl).1
  have hfew : L.length ≤ 1048576 := by
    have := run_few bl fNew
    rw [hrun, ← hev, List.length_map] at this
    omega
  have hok : ∀ e ∈ L.map (·.2), EvOk e := by rw [hev, ← hrun]; exact (run_ok bl goodC_new).2
  have HEV := Lib.hid hev
  have hst : CallJ w w1 (.slice none 0 0) [] := ⟨World.ownsRow_nil _ _ _ _, hr.low⟩
  have HROW := Lib.hid hrow
  have HST := Lib.hid hst
  have HOK := Lib.hid hok
  clear hr hrow hst hok hev hrun HIN
  go_wp2_with fail
  go_loopw [3, 6] (fun s3 s6 wr => ∃ (i : Nat) (ov : Value), s6 = .int .i64 (i : Int) ∧ s3 = ov ∧ i ≤ L.length ∧ CallJ w wr ov (callsL ((L.take i).map (·.2))) ∧ REvRow wr (.slice ea L.length ec) L) (fun _ s6 _ => L.length - (intOf s6).toNat)
  case atStart => exact ⟨0, _, rfl, rfl, Nat.zero_le _, by rw [List.take_zero]; exact HST.out, HROW.out⟩
  case round =>
    obtain ⟨i, ov, rfl, rfl, hi, hj, hrow⟩ := hrel
    clear HST HROW w1
    by_cases hlt : i < L.length
    · obtain ⟨⟨ke, ev⟩, hx⟩ : ∃ x, L[i]? = some x := ⟨_, List.getElem?_eq_getElem hlt⟩
      obtain ⟨g1, o1, c1, hs1, hcell1, hk1⟩ := hrow.at hx
      obtain ⟨ka, kc, rfl⟩ := hk1.len
      obtain ⟨rfl, -, -⟩ := slice_inj hs1
      obtain ⟨b1, hbb1⟩ : ∃ b, b = o1 + i * 13 := ⟨_, rfl⟩
      have ix1 : ∀ W : World, (Instr.indexAt 33 (.slice (some ⟨g1, o1, none⟩) L.length ec) (.int .i64 (i : Int))).run Tryz.prog W = .ok (.pointer (some ⟨g1, b1, none⟩)) W := fun W => by rw [hbb1]; exact idx_rev rfl hlt W
      have y0 : wr.cell? ⟨g1, b1, none⟩ = some (.int .u8 (ev.cmd.verb : Int)) := by
        have h := hcell1 0 _ rfl
        rwa [show o1 + (i * 13 + 0) = b1 from by omega] at h
      have y1 : wr.cell? ⟨g1, b1 + 1, none⟩ = some (.slice ka ev.cmd.keys.length kc) := by
        have h := hcell1 1 _ rfl
        rwa [show o1 + (i * 13 + 1) = b1 + 1 from by omega] at h
      have y2 : wr.cell? ⟨g1, b1 + 2, none⟩ = some (.int .u8 (ev.cmd.cverb : Int)) := by
        have h := hcell1 2 _ rfl
        rwa [show o1 + (i * 13 + 2) = b1 + 2 from by omega] at h
      have y3 : wr.cell? ⟨g1, b1 + 3, none⟩ = some (sv ev.cmd.key) := by
        have h := hcell1 3 _ rfl
        rwa [show o1 + (i * 13 + 3) = b1 + 3 from by omega] at h
      have y4 : wr.cell? ⟨g1, b1 + 4, none⟩ = some (sv ev.cmd.value) := by
        have h := hcell1 4 _ rfl
        rwa [show o1 + (i * 13 + 4) = b1 + 4 from by omega] at h
      have y5 : wr.cell? ⟨g1, b1 + 5, none⟩ = some (.int .u32 (ev.cmd.flags : Int)) := by
        have h := hcell1 5 _ rfl
        rwa [show o1 + (i * 13 + 5) = b1 + 5 from by omega] at h
      have y6 : wr.cell? ⟨g1, b1 + 6, none⟩ = some (.int .i64 ev.cmd.exp) := by
        have h := hcell1 6 _ rfl
        rwa [show o1 + (i * 13 + 6) = b1 + 6 from by omega] at h
      have y7 : wr.cell? ⟨g1, b1 + 7, none⟩ = some (.int .u64 (ev.cmd.id : Int)) := by
        have h := hcell1 7 _ rfl
        rwa [show o1 + (i * 13 + 7) = b1 + 7 from by omega] at h
      have y8 : wr.cell? ⟨g1, b1 + 8, none⟩ = some (.int .u64 (ev.cmd.by' : Int)) := by
        have h := hcell1 8 _ rfl
        rwa [show o1 + (i * 13 + 8) = b1 + 8 from by omega] at h
      have y9 : wr.cell? ⟨g1, b1 + 9, none⟩ = some (.int .i64 ev.cmd.bytes) := by
        have h := hcell1 9 _ rfl
        rwa [show o1 + (i * 13 + 9) = b1 + 9 from by omega] at h
      have y10 : wr.cell? ⟨g1, b1 + 10, none⟩ = some (.bool ev.cmd.quiet) := by
        have h := hcell1 10 _ rfl
        rwa [show o1 + (i * 13 + 10) = b1 + 10 from by omega] at h
      have y11 : wr.cell? ⟨g1, b1 + 11, none⟩ = some (sv ev.data) := by
        have h := hcell1 11 _ rfl
        rwa [show o1 + (i * 13 + 11) = b1 + 11 from by omega] at h
      have y12 : wr.cell? ⟨g1, b1 + 12, none⟩ = some (.int .i64 (ev.told : Int)) := by
        have h := hcell1 12 _ rfl
        rwa [show o1 + (i * 13 + 12) = b1 + 12 from by omega] at h
      have hevok : EvOk ev := HOK.out ev (List.mem_map.2 ⟨_, List.mem_of_getElem? hx, rfl⟩)
      have hlc : (callsL ((L.take i).map (·.2))).length ≤ 2048 * 1048576 := by
        have h1 := callsL_len (l := (L.take i).map (·.2)) (fun e he => HOK.out e (by
          obtain ⟨x, hx, rfl⟩ := List.mem_map.1 he
          exact List.mem_map.2 ⟨x, List.mem_of_mem_take hx, rfl⟩))
        rw [List.length_map, List.length_take] at h1
        omega
      have htk : callsL ((L.take (i + 1)).map (·.2)) = callsL ((L.take i).map (·.2)) ++ callsE ev := by rw [take_evs hx, callsL_snoc]
      have HTK := Lib.hid htk
      generalize callsL ((L.take i).map (·.2)) = C at *
      have hbe : ∀ o1, Below wr.heap.size wr (wr.alloc o1) := fun o1 => (Below.refl _ _).alloc (Nat.le_refl _) o1
      have hevc : ∀ W, REvRow W (.slice (some ⟨g1, o1, none⟩) L.length ec) L → W.cell? ⟨g1, b1 + 1, none⟩ = some (.slice ka ev.cmd.keys.length kc) := fun W hW => by
        obtain ⟨g', o', c', hs', hcell', _⟩ := hW.at hx
        obtain ⟨ha', -, -⟩ := slice_inj hs'
        obtain ⟨rfl, rfl, -⟩ := Addr.mk.inj (Option.some.inj ha')
        have h := hcell' 1 _ rfl
        rwa [show o1 + (i * 13 + 1) = b1 + 1 from by omega] at h
      have HEVC := Lib.hid hevc
      have HBE := Lib.hid hbe
      have HJ := Lib.hid hj
      have HROW := Lib.hid hrow
      have HK1 := Lib.hid hk1
      have hlow := hj.low.size
      have hgl : g1 < wr.heap.size := cell_lt y0
      obtain ⟨va, vc, rfl⟩ := row_slice hj.row
      have hskip : callsE ev = [] → ∀ q1, CallJ w (wr.alloc q1) (.slice va C.length vc) (callsL ((L.take (i + 1)).map (·.2))) ∧ REvRow (wr.alloc q1) (.slice (some ⟨g1, o1, none⟩) L.length ec) L := fun he _ => by
        rw [HTK.out, he, List.append_nil]
        exact ⟨HJ.out.below (HBE.out _), HROW.out.below (HBE.out _)⟩
      have HSKIP := Lib.hid hskip
      clear hskip htk hbe hj hrow hk1 hbb1 hs1 hcell1 hx hevc
      by_cases h0 : ev.told = 0
      · have t0 : ((ev.told : Int) != 0) = false := by rw [bne_eq_false_iff_eq]; omega
        by_cases h12 : ev.cmd.verb = 12
        · have t1 : ((ev.cmd.verb : Int) == 12) = true := by rw [beq_iff_eq]; omega
          have HS := Lib.hid (HSKIP.out (callsE_skip (.inr (.inl h12))))
          clear HSKIP HBE HJ HROW HK1 HTK hevok
          go_wp2_with fail
          go_roundw
          case rel => exact ⟨i + 1, _, by go_num, rfl, by omega, (HS.out _).1, (HS.out _).2⟩
          case measure => simp [intOf]; omega
        have t1 : ((ev.cmd.verb : Int) == 12) = false := by rw [beq_eq_false_iff_ne]; omega
        by_cases h13 : ev.cmd.verb = 13
        · have t2 : ((ev.cmd.verb : Int) == 13) = true := by rw [beq_iff_eq]; omega
          have HS := Lib.hid (HSKIP.out (callsE_skip (.inr (.inr h13))))
          clear HSKIP HBE HJ HROW HK1 HTK hevok
          go_wp2_with fail
          go_roundw
          case rel => exact ⟨i + 1, _, by go_num, rfl, by omega, (HS.out _).1, (HS.out _).2⟩
          case measure => simp [intOf]; omega
        have t2 : ((ev.cmd.verb : Int) == 13) = false := by rw [beq_eq_false_iff_ne]; omega
        by_cases hg : ev.cmd.verb = 1 ∨ ev.cmd.verb = 2
        · have hce := callsE_gets h0 hg
          have hkl := par_keys (hevok.par h0)
          obtain ⟨wo, rfl⟩ : ∃ wo : World, wo = wr := ⟨_, rfl⟩
          obtain ⟨pb, hpb⟩ : ∃ pb, pb = wo.heap.size := ⟨_, rfl⟩
          have hbx : (wo.alloc (.cells (callCells ev.cmd).toArray 42)).heap[pb]? = some (.cells (callCells { ev.cmd with key := ev.cmd.key }).toArray 42 (0, 0)) := by rw [heap_at, if_pos hpb]
          have HBX := Lib.hid hbx
          have HPB := Lib.hid hpb
          have HCE := Lib.hid hce
          clear hbx hce hevok HSKIP hpb
          rcases hg with hg | hg
          all_goals
            first
              | (have t3 : ((ev.cmd.verb : Int) != 1) = false := by rw [bne_eq_false_iff_eq]; omega)
              | (have t3 : ((ev.cmd.verb : Int) != 1) = true := by rw [bne_iff_ne]; omega
                 have t4 : ((ev.cmd.verb : Int) != 2) = false := by rw [bne_eq_false_iff_eq]; omega)
            clear hg h12 h13 h0
            go_wp2_with fail
            rw [← HPB.out]
            go_loopw [3, 9] (fun s3 s9 wr => ∃ (j : Nat) (ov : Value) (y : List UInt8), s9 = .int .i64 (j : Int) ∧ s3 = ov ∧ j ≤ ev.cmd.keys.length ∧ CallJ w wr ov (C ++ (ev.cmd.keys.take j).map (fun k => { ev.cmd with key := k })) ∧ wr.heap[pb]? = some (.cells (callCells { ev.cmd with key := y }).toArray 42 (0, 0)) ∧
              ov.ownBlock ≠ some pb ∧ REvRow wr (.slice (some ⟨g1, o1, none⟩) L.length ec) L ∧ KeysAt wr (.slice ka ev.cmd.keys.length kc) ev.cmd.keys) (fun _ s9 _ => ev.cmd.keys.length - (intOf s9).toNat)
            case atStart =>
              refine ⟨0, _, ev.cmd.key, rfl, rfl, Nat.zero_le _, ?_, HBX.out, ?_, HROW.out.below (HBE.out _), HK1.out.below (HBE.out _)⟩
              · rw [List.take_zero, List.map_nil, List.append_nil]; exact HJ.out.below (HBE.out _)
              · intro e
                have h1 := (HJ.out.row.lt _ e).2
                have h2 := HPB.out
                omega
            case round =>
              obtain ⟨j, ov, y, rfl, rfl, hj, hcj, hbx, hne, hrow, hkw⟩ := hrel
              clear HBX
              have HC := Lib.hid hcj
              have HNE := Lib.hid hne
              have HRW := Lib.hid hrow
              obtain ⟨va2, vc2, rfl⟩ := row_slice hcj.row
              have hev1 := HEVC.out _ hrow
              have hmj : ((ev.cmd.keys.take j).map (fun k => { ev.cmd with key := k })).length = j := by rw [List.length_map, List.length_take]; omega
              by_cases hlt2 : j < ev.cmd.keys.length
              · obtain ⟨x, hx⟩ : ∃ x, ev.cmd.keys[j]? = some x := ⟨_, List.getElem?_eq_getElem hlt2⟩
                obtain ⟨g2, o2, c2, hs2, -, hc2, -⟩ := hkw.at (k := j) (x := sv x) (by rw [List.getElem?_map, hx]; rfl)
                obtain ⟨rfl, -, -⟩ := slice_inj hs2
                have ix2 := fun W => idx_str' (a := some ⟨g2, o2, none⟩) (c := kc) rfl hlt2 W
                have z0 : wr.cell? ⟨pb, 0, none⟩ = some (.int .u8 (ev.cmd.cverb : Int)) := (block_cell hbx 0).1
                have z1 : wr.cell? ⟨pb, 1, none⟩ = some (sv y) := (block_cell hbx 1).1
                have zf : wr.frozen? ⟨pb, 1, none⟩ = false := (block_cell hbx 1).2
                have z2 : wr.cell? ⟨pb, 2, none⟩ = some (sv ev.cmd.value) := (block_cell hbx 2).1
                have z3 : wr.cell? ⟨pb, 3, none⟩ = some (.int .u32 (ev.cmd.flags : Int)) := (block_cell hbx 3).1
                have z4 : wr.cell? ⟨pb, 4, none⟩ = some (.int .i64 ev.cmd.exp) := (block_cell hbx 4).1
                have z5 : wr.cell? ⟨pb, 5, none⟩ = some (.int .u64 (ev.cmd.id : Int)) := (block_cell hbx 5).1
                have z6 : wr.cell? ⟨pb, 6, none⟩ = some (.int .u64 (ev.cmd.by' : Int)) := (block_cell hbx 6).1
                have hst : Chg (fun k => k = pb) wr (wr.setCell ⟨pb, 1, none⟩ (sv x)) := Chg.set (M := fun k => k = pb) (Chg.refl _ _) (fun _ => rfl) _
                have hbx1 : (wr.setCell ⟨pb, 1, none⟩ (sv x)).heap[pb]? = some (.cells (callCells { ev.cmd with key := x }).toArray 42 (0, 0)) := Go.Joins.block_setCell (i := 1) hbx (sv x)
                have hpt : ∀ t, t ≠ 42 → ¬ Tag wr pb t := fun t ht e => ht (e.one (Tag.of hbx))
                have hlo : w.heap.size ≤ pb := by have := HPB.out; omega
                have hcj1 : CallJ w (wr.setCell ⟨pb, 1, none⟩ (sv x)) (.slice va2 (C ++ (ev.cmd.keys.take j).map (fun k => { ev.cmd with key := k })).length vc2) (C ++ (ev.cmd.keys.take j).map (fun k => { ev.cmd with key := k })) := ⟨owns_grow hcj.row hst (fun g hg e => by subst e; exact hne hg), hcj.low.trans (hst.below (fun k hk => ⟨Nat.lt_of_lt_of_le hk hcj.low.size, fun e => by omega⟩))⟩
                have hrow1 := hrow.kept hst (fun k hk => by subst hk; exact ⟨hpt _ (by decide), hpt _ (by decide)⟩)
                have hkw1 : KeysAt (wr.setCell ⟨pb, 1, none⟩ (sv x)) (.slice (some ⟨g2, o2, none⟩) ev.cmd.keys.length kc) ev.cmd.keys := hkw.kept hst (fun g hg e => by subst e; exact hpt _ (by decide) (hkw.tag hg))
                have htk2 : C ++ (ev.cmd.keys.take (j + 1)).map (fun k => { ev.cmd with key := k }) = (C ++ (ev.cmd.keys.take j).map (fun k => { ev.cmd with key := k })) ++ [{ ev.cmd with key := x }] := by rw [take_keys (fun k => ({ ev.cmd with key := k } : Cmd)) hx, List.append_assoc]
                have hsz1 : w.heap.size ≤ (wr.setCell ⟨pb, 1, none⟩ (sv x)).heap.size := hcj1.low.size
                have hpl : pb < wr.heap.size := (Array.getElem?_eq_some_iff.1 hbx).1
                have HCJ1 := Lib.hid hcj1
                have HBX1 := Lib.hid hbx1
                have HRW1 := Lib.hid hrow1
                have HKW1 := Lib.hid hkw1
                have HTK2 := Lib.hid htk2
                have hll : (C ++ (ev.cmd.keys.take j).map (fun k => { ev.cmd with key := k })).length ≤ 2048 * 1048576 + 2048 := by rw [List.length_append, hmj]; omega
                clear hcj hbx hne hrow hkw hst hbx1 hpt hcj1 hrow1 hkw1 htk2 hs2 hx hmj
                generalize C ++ (ev.cmd.keys.take j).map (fun k => { ev.cmd with key := k }) = D at *
                go_wp2_with (first | (at_builtin; refine wpList_append_own_at _ (by rfl) _ _ 52 (by rfl) w.heap.size 42 i0 (.agg callZero) 7 72 Tryz.underlying52 Hi.out Hz.out.1 Hz.out.2.1 Hz.out.2.2 rfl (by omega) _ _ _ (by rfl) (HCJ1.out.row.alloc _) ⟨wr.heap.size, 0, none⟩ 1 1 (callCells { ev.cmd with key := x }) (by rfl) rfl (World.news_of_block (cs := ((callCells { ev.cmd with key := x })).toArray) (by rw [heap_at, if_pos (by simp)])) (by simp [Value.oneCell']) (by unfold maxLen; omega) (by omega) (by simp at hsz1 ⊢; omega) ?_; intro ov' w2 hown2 hg2 _ hat2) | fail)
                obtain ⟨hcj2, hch2, hno⟩ := HCJ1.out.pushed (c := { ev.cmd with key := x }) hown2 hg2
                have hrow2 := HRW1.out.kept hch2 (fun k hk => ⟨hno k hk _ (by decide), hno k hk _ (by decide)⟩)
                have hkw2 := HKW1.out.kept hch2 (fun g hg e => hno g e _ (by decide) (HKW1.out.tag hg))
                have hbx2 := hch2.obj HBX1.out (fun e => HNE.out e)
                have hne2 : ov'.ownBlock ≠ some pb := fun e => by
                  rcases hat2 with h | h
                  · rw [h] at e; exact HNE.out e
                  · rw [h] at e
                    have := Option.some.inj e
                    simp at this
                    omega
                go_roundw
                case rel => exact ⟨j + 1, _, x, by go_num, rfl, by omega, by rw [HTK2.out]; exact hcj2, hbx2, hne2, hrow2, hkw2⟩
                case measure => simp [intOf]; omega
              · obtain rfl : j = ev.cmd.keys.length := by omega
                have hfin : CallJ w wr (.slice va2 (C ++ (ev.cmd.keys.take ev.cmd.keys.length).map (fun k => { ev.cmd with key := k })).length vc2) (callsL ((L.take (i + 1)).map (·.2))) := by
                  rw [HTK.out, HCE.out]
                  have := HC.out
                  rwa [List.take_of_length_le (Nat.le_refl _)] at this ⊢
                have HF := Lib.hid hfin
                clear hcj hbx hne hrow hkw hfin hmj
                generalize (C ++ (ev.cmd.keys.take ev.cmd.keys.length).map (fun k => { ev.cmd with key := k })).length = nn at *
                go_wp2_with fail
                go_roundw
                case rel => exact ⟨i + 1, _, by go_num, rfl, by omega, HF.out, HRW.out⟩
                case measure => simp [intOf]; omega
        · have h1n : ev.cmd.verb ≠ 1 := fun h => hg (.inl h)
          have h2n : ev.cmd.verb ≠ 2 := fun h => hg (.inr h)
          have hce := callsE_one h0 h1n h2n h12 h13
          have t3 : ((ev.cmd.verb : Int) != 1) = true := by rw [bne_iff_ne]; omega
          have t4 : ((ev.cmd.verb : Int) != 2) = true := by rw [bne_iff_ne]; omega
          have HCE := Lib.hid hce
          clear hce h0 h12 h13 hg h1n h2n HSKIP HK1 hevok
          go_wp2_with (first | (at_builtin; refine wpList_append_own_at _ (by rfl) _ _ 52 (by rfl) w.heap.size 42 i0 (.agg callZero) 7 72 Tryz.underlying52 Hi.out Hz.out.1 Hz.out.2.1 Hz.out.2.2 rfl (by omega) _ _ _ (by rfl) ((HJ.out.row.alloc _).alloc _) ⟨wr.heap.size + 1, 0, none⟩ 1 1 (callCells { ev.cmd with value := ev.data }) (by rfl) rfl (World.news_of_block (cs := ((callCells { ev.cmd with value := ev.data })).toArray) (by rw [heap_at, if_pos (by simp)])) (by simp [Value.oneCell']) (by unfold maxLen; omega) (by omega) (by simp; omega) ?_; intro ov' w2 hown2 hg2 _ hat2) | fail)
          obtain ⟨hcj2, hch2, hno⟩ := (HJ.out.below (HBE.out _)).pushed (c := { ev.cmd with value := ev.data }) hown2 hg2
          have hcj2' : CallJ w w2 ov' (callsL ((L.take (i + 1)).map (·.2))) := by rw [HTK.out, HCE.out]; exact hcj2
          have hrow2 := (HROW.out.below (HBE.out _)).kept hch2 (fun k hk => ⟨hno k hk _ (by decide), hno k hk _ (by decide)⟩)
          go_roundw
          case rel => exact ⟨i + 1, _, by go_num, rfl, by omega, hcj2', hrow2⟩
          case measure => simp [intOf]; omega
      · have t0 : ((ev.told : Int) != 0) = true := by rw [bne_iff_ne]; omega
        have HS := Lib.hid (HSKIP.out (callsE_skip (.inl h0)))
        clear HSKIP HBE HJ HROW HK1 HTK hevok
        go_wp2_with fail
        go_roundw
        case rel => exact ⟨i + 1, _, by go_num, rfl, by omega, (HS.out _).1, (HS.out _).2⟩
        case measure => simp [intOf]; omega
    · obtain rfl : i = L.length := by omega
      rw [List.take_of_length_le (Nat.le_refl _)] at hj
      have HJ := Lib.hid hj
      obtain ⟨va, vc, rfl⟩ := row_slice hj.row
      clear hj hrow
      generalize hnn : (callsL (L.map (·.2))).length = nn at *
      have HNN := Lib.hid hnn
      clear hnn
      go_wp2_with fail
      go_ret
      exact ⟨_, rfl, by rw [← HEV.out]; exact HJ.out⟩
end Go.Proofs.YtahpjhnbjkjkiaaGreatDoor
