/- Chapter 35's example. No condition. No machine, and one that no call made. No condition. The law MachinesVoid, walked. Condition: the library's variables are as they are laid. -/
import Derived.Test.YtfajddlijgpgoaaGreatDoorMgD
import Derived.Test.YtfajddlijgpgoaaGreatDoorLowA
namespace Go.Proofs.YtfajddlijgpgoaaGreatDoor
open Go.RowKit Go.ChangeMaps Go.MapKept

theorem thRow_two {tv : Value} {c0 c1 : Nat} {w : World} {S : Nat → Prop} (h : ThRow tv [c0, c1] w S) : ∃ tb tc, tv = .slice (some ⟨tb, 0, none⟩) 2 tc ∧ RowB tb (thCells c0 call7 .nilIface 0 ++ thCells0 c1) 77 w S := by
  obtain ⟨h1, hs⟩ := h
  obtain ⟨g2, o2, c2, e2, -, -, -, ht, hx2⟩ := (Row.of_owns h1).some (fun e => by simp [thCells] at e)
  obtain ⟨g3, c3, e3⟩ : ∃ g3 c3, tv = .slice (some ⟨g3, 0, none⟩) 2 c3 := by
    rcases h1.2 with ⟨-, h⟩ | ⟨g, cap, cur, h, -⟩
    · simp at h
    · exact ⟨g, cap, h⟩
  subst e3
  obtain ⟨ha, -, rfl⟩ := slice_inj e2
  obtain ⟨rfl, rfl⟩ : g3 = g2 ∧ o2 = 0 := by
    have := Option.some.inj ha
    injection this with e1 e2
    exact ⟨e1, e2.symm⟩
  refine ⟨g3, c3, rfl, ht, fun j v hv => ?_, fun k => ?_⟩
  · have := hx2 j v (by simpa using hv)
    rw [Nat.zero_add] at this
    exact this
  · rw [hs]
    simp [Value.ownBlock, eq_comm]
theorem mach_two {n₀ wp mp : Nat} {W : WorldM} {tv : Value} {cs : List Nat} {w : World} {S : Nat → Prop} (h : MachX n₀ wp mp W tv cs w S) (hcs : cs.length = 2) :
    ∃ c0 c1 tb tc S', Star (Star (Star (ConnT n₀ c1 cNew) (ConnT n₀ c0 cNew)) (MachB mp wp tb tc 2 (thCells c0 call7 .nilIface 0 ++ thCells0 c1) (.slice none 0 0))) (WorldIs wp W) w S' ∧ ∀ k, S' k → S k := by
  obtain ⟨c0, c1, rfl⟩ : ∃ c0 c1, cs = [c0, c1] := by
    rcases cs with _ | ⟨c0, _ | ⟨c1, _ | ⟨c2, cs⟩⟩⟩
    · simp at hcs
    · simp at hcs
    · exact ⟨c0, c1, rfl⟩
    · simp at hcs
  obtain ⟨T1, T2, ⟨T3, T4, a1, a2, a3, a4⟩, b2, b3, b4⟩ := h
  obtain ⟨tb, tc, rfl, hrow⟩ := thRow_two a2
  have h1 : Star (Star (Star (WorldIs wp W) (ConnL n₀ [c0, c1])) (RowB tb (thCells c0 call7 .nilIface 0 ++ thCells0 c1) 77)) (Blk mp [ptrN wp, .slice (some ⟨tb, 0, none⟩) 2 tc, .slice none 0 0] 32) w S := ⟨T1, T2, ⟨T3, T4, a1, hrow, a3, a4⟩, b2, b3, b4⟩
  have hcl : Wk (ConnL n₀ [c0, c1]) (Star (ConnT n₀ c1 cNew) (ConnT n₀ c0 cNew)) := (Wk.star (Wk.refl _) (Wk.fst _ _)).trans (Wk.comm _ _)
  obtain ⟨S', h2, h3⟩ := (((Wk.assoc _ _ _).trans (Wk.star ((Wk.star (Wk.refl _) hcl).trans (Wk.comm _ _)) (Wk.comm _ _))).trans (boxes_wk _ _ _)) w S h1
  exact ⟨c0, c1, tb, tc, S', h2, h3⟩
theorem didEq (W : World) : (binOp .eql 46 (.agg #[.int .i64 0, .int .i64 0, .bool false, .int .u8 0, .int .u64 0, .string ⟨#[]⟩, .string ⟨#[]⟩, .int .u32 0, .int .u64 0, .int .i64 0, .int .i64 0]) (.agg #[.int .i64 0, .int .i64 0, .bool false, .int .u8 0, .int .u64 0, .string ⟨#[]⟩, .string ⟨#[]⟩, .int .u32 0, .int .u64 0, .int .i64 0, .int .i64 0])).run Tryz.prog W = .ok (.bool true) W := by kernel_rfl
theorem idx_calledM (g : Nat) (W : World) : (Instr.indexAt 30 (.slice (some ⟨g, 0, none⟩) 1 1) (.int .i64 0)).run Tryz.prog W = .ok (.pointer (some ⟨g, 0, none⟩)) W := by
  have h2 := Tryz.underlying30
  obtain ⟨i0, hi, hz0, hz1, hz2⟩ := infoP_parts infoCalledM
  go_simp
theorem outC : mcC.out = ansOf false 1 1 := by kernel_rfl
set_option maxRecDepth 100000 in
set_option maxHeartbeats 8000000 in
theorem lives35 (w : World) (hE : EnvP w.heap.size w) : Calls Tryz.prog 4 #[] w fun e w' => e = .returned (.bool true) ∧ Below w.heap.size w w' := by
  have HNEW := Lib.hid (machinesNew_any lcfg 2 (by decide) (by omega) (by omega) w)
  have HE := Lib.hid hE
  have hpn := wptr_nil
  clear hE
  go_enter Tryz.func4, Tryz.ntmps4
  go_wp2_with fail
  refine HNEW.out.mono ?_
  rintro e w1 ⟨mp, wp, tv, cs, rfl, hcs, ⟨⟨S, hx, hl⟩, hb1⟩⟩
  obtain ⟨c0, c1, tb, tc, S1, hs1, hk1⟩ := mach_two hx hcs
  have HWD := Lib.hid (mWorld_any (Star.mach hs1))
  have HS1 := Lib.hid hs1
  have HL1 := Lib.hid (show (∀ k, S1 k → w.heap.size ≤ k) ∧ Below w.heap.size w w1 from ⟨fun k hk => hl k (hk1 k hk), hb1⟩)
  clear hx hl hb1 hcs hk1 HNEW hs1
  go_wp2_with fail
  refine HWD.out.mono ?_
  rintro e w2 ⟨rfl, rfl⟩
  clear HWD
  have hcv := conv_const
  obtain ⟨bb, hbb⟩ : ∃ b, b = w1.heap.size := ⟨_, rfl⟩
  obtain ⟨w2, hw2⟩ : ∃ X, X = w1.alloc (.cells #[.int .u8 115, .int .u8 101, .int .u8 116, .int .u8 32, .int .u8 97, .int .u8 32, .int .u8 48, .int .u8 32, .int .u8 48, .int .u8 32, .int .u8 49, .int .u8 13, .int .u8 10, .int .u8 120, .int .u8 13, .int .u8 10] 5 (16, 17)) := ⟨_, rfl⟩
  have hb2 : Below w1.heap.size w1 w2 := by rw [hw2]; exact (Below.refl _ _).alloc (Nat.le_refl _) _
  have hrow : Row w2 5 1 (.slice (some ⟨bb, 0, none⟩) 16 16) 16 (setLine.map u8v) := by rw [hw2, hbb]; exact row_new w1 setLine (by decide)
  have HDO := Lib.hid (show Calls Tryz.prog 6 #[ptrN mp, .agg #[.int .u8 0, .int .i64 0, .slice (some ⟨bb, 0, none⟩) 16 16]] w2 fun e w' => e = .returned (didV 0 0 false 0 0) ∧ Stp (Star (Star (Star (ConnT w.heap.size c1 cNew) (ConnT w.heap.size c0 mcA)) (MachB mp wp tb tc 2 (thCells c0 call7 .nilIface 0 ++ thCells0 c1) (.slice none 0 0))) (WorldIs wp lw0)) S1 w2 w' from by
    have hFR : ∀ m, Framed (Star (ConnT w.heap.size c1 cNew) (ConnT w.heap.size c0 m)) := fun m => (framed_connT _ _ _).star (framed_connT _ _ _)
    have hs2 := (((hFR cNew).star (framed_mach mp wp tb tc 2 (thCells c0 call7 .nilIface 0 ++ thCells0 c1) (.slice none 0 0))).star (framed_worldIs wp (newWorld lcfg))).below HS1.out hb2
    refine doFeed_any (hFR cNew) (framed_worldIs _ _) (((hFR mcA).star (framed_mach _ _ _ _ _ _ _)).star (framed_worldIs _ _)) hs2 rfl (fun V S0 hV => ⟨((Star.mach hV).th 0 (ptrN c0) rfl).1, (Star.mach hV).c1⟩) (fun V hbV hV => ?_)
    obtain ⟨T1, T2, ⟨T3, T4, ⟨T5, T6, a1, a2, a3, a4⟩, b2, b3, b4⟩, d2, d3, d4⟩ := hV
    have hbV1 : Below w.heap.size w V := (HL1.out.2.trans (hb2.mono HL1.out.2.size)).trans (hbV.mono (Nat.le_trans HL1.out.2.size hb2.size))
    have hin := in_is (bl := setLine) a2 (HE.out.chg (Chg.of_below (M := fun _ => False) hbV1) (fun _ e => e.elim)) hbV1.size (fit_new 0) (by decide) (by omega) (hrow.below hbV).bytes (fun _ g hg => .inr ((hrow.below hbV).tag hg)) (fun _ g hg e => by
      obtain rfl : bb = g := by simpa [Value.ownBlock] using hg
      have h1 := (((hFR cNew).star (framed_mach mp wp tb tc 2 (thCells c0 call7 .nilIface 0 ++ thCells0 c1) (.slice none 0 0))).star (framed_worldIs wp (newWorld lcfg))).lt HS1.out ((d4 bb).2 (.inl ((b4 bb).2 (.inl ((a4 bb).2 (.inr e))))))
      omega)
    refine hin.mono ?_
    rintro e w' ⟨hv, hst⟩
    refine ⟨hv, ?_⟩
    have e1 : Stp (Star (ConnT w.heap.size c1 cNew) (ConnT w.heap.size c0 mcA)) T3 V w' := Stp.right (framed_connT _ _ _) (framed_connT _ _ _) a1 a2 a3 a4 hst
    have e2 := Stp.left (framed_mach _ _ _ _ _ _ _) (hFR cNew) ⟨T5, T6, a1, a2, a3, a4⟩ b2 b3 b4 e1
    exact Stp.left (framed_worldIs _ _) ((hFR cNew).star (framed_mach _ _ _ _ _ _ _)) ⟨T3, T4, ⟨T5, T6, a1, a2, a3, a4⟩, b2, b3, b4⟩ d2 d3 d4 e2)
  have HB2 := Lib.hid hb2
  clear hb2 hrow
  go_wp2_with fail
  rw [← hw2, ← hbb]
  clear hw2 hbb hcv
  refine HDO.out.mono ?_
  rintro e w3 ⟨rfl, S3, hs3, hc3, hk3⟩
  obtain ⟨d3, hd3⟩ : ∃ d, d = w3.heap.size := ⟨_, rfl⟩
  obtain ⟨w4, hw4⟩ : ∃ X, X = w3.alloc (.cells #[.int .i64 0, .int .i64 0, .bool false, .int .u8 0, .int .u64 0, .string ⟨#[]⟩, .string ⟨#[]⟩, .int .u32 0, .int .u64 0, .int .i64 0, .int .i64 0] 46) := ⟨_, rfl⟩
  have hX : Framed (Blk d3 [.int .i64 0, .int .i64 0, .bool false, .int .u8 0, .int .u64 0, .string ⟨#[]⟩, .string ⟨#[]⟩, .int .u32 0, .int .u64 0, .int .i64 0, .int .i64 0] 46) := framed_blk _ _ _ (by decide)
  have HRS := Lib.hid (rounds_any (X := Blk d3 [.int .i64 0, .int .i64 0, .bool false, .int .u8 0, .int .u64 0, .string ⟨#[]⟩, .string ⟨#[]⟩, .int .u32 0, .int .u64 0, .int .i64 0, .int .i64 0] 46) (mp := mp) (wp := wp) (tb := tb) (tc := tc) (c0 := c0) (c1 := c1) hX w)
  have HJ4 := Lib.hid (show RoundJ w (SN (Blk d3 [.int .i64 0, .int .i64 0, .bool false, .int .u8 0, .int .u64 0, .string ⟨#[]⟩, .string ⟨#[]⟩, .int .u32 0, .int .u64 0, .int .i64 0, .int .i64 0] 46) w.heap.size mp wp tb tc c0 c1) 0 w4 from by
    have hm : Made (Blk d3 [.int .i64 0, .int .i64 0, .bool false, .int .u8 0, .int .u64 0, .string ⟨#[]⟩, .string ⟨#[]⟩, .int .u32 0, .int .u64 0, .int .i64 0, .int .i64 0] 46) w3 w4 := by rw [hw4, hd3]; exact made_blk w3 _ _
    obtain ⟨S4, hs4, hc4, hk4⟩ := made_in (((framed_connT _ _ _).star (framed_connT _ _ _)).star (framed_mach _ _ _ _ _ _ _)) (framed_worldIs _ _) hs3 hm
    have hlow3 : ∀ k, S3 k → w.heap.size ≤ k := fun k hk => (hk3 k hk).elim (HL1.out.1 k) (fun e => Nat.le_trans (Nat.le_trans HL1.out.2.size HB2.out.size) e)
    have hb3 : Below w.heap.size w w3 := (HL1.out.2.trans (HB2.out.mono HL1.out.2.size)).trans (hc3.below (fun k hk => ⟨Nat.lt_of_lt_of_le hk (Nat.le_trans HL1.out.2.size HB2.out.size), fun e => by have := HL1.out.1 k e; omega⟩))
    have hb4 : Below w.heap.size w w4 := hb3.trans (hm.2.mono hb3.size)
    exact ⟨S4, hs4.fst_mono (fun _ h => (Star.comm h).assoc'.fst_mono (fun _ h => h.assoc')), HE.out.chg (Chg.of_below (M := fun _ => False) hb4) (fun _ e => e.elim), fun k hk => (hk4 k hk).elim (hlow3 k) (fun e => Nat.le_trans hb3.size e), hb4⟩)
  clear hs3 hc3 hk3 HDO hX HL1 HB2 HS1
  go_upto_region 5 with fail
  rw [← hw4, ← hd3]
  clear hw4 hd3
  have HM4 := Lib.hid (HRS.out.may0 0 w4 (by omega) HJ4.out)
  rw [show decide (0 < 18) = true from rfl] at HM4
  go_upto_region 6 with (first
    | (go_at_call 11; refine HM4.out.mono ?_; rintro e w5 ⟨rfl, hb5⟩)
    | fail)
  have HJ5 := Lib.hid (HJ4.out.below (HRS.out.framed 0) hb5)
  have HF5 := Lib.hid (finish_any HRS.out HJ5.out)
  clear hb5 HJ4 HM4
  go_upto_region 7 with (first
    | (go_at_call 13; refine HF5.out.mono ?_; rintro e w6 ⟨rfl, hj6⟩)
    | fail)
  have HJ6 := Lib.hid hj6
  clear HF5 HJ5 hj6
  go_wp2_with fail
  refine (answer_any ⟨3, none, 0, 0, ⟨0, ⟨#[]⟩, ⟨#[]⟩, 0, 0, 0, 0⟩, 0, false⟩ ansS w6 ansS_ok (by obtain ⟨S, -, h, -⟩ := HJ6.out; exact h.pow)).mono ?_
  rintro e w7 ⟨rfl, hb7⟩
  obtain ⟨wl, hwl⟩ : ∃ l : List UInt8, l = ansOf false 1 1 := ⟨_, rfl⟩
  rw [show ansOf (CmdD.quiet ⟨3, none, 0, 0, ⟨0, ⟨#[]⟩, ⟨#[]⟩, 0, 0, 0, 0⟩, 0, false⟩) ansS.kind ansS.number = wl from hwl.symm]
  have hj7 := HJ6.out.below (HRS.out.framed 18) hb7
  have HJ7 := Lib.hid hj7
  obtain ⟨S7, hs7, -, -, -⟩ := hj7
  obtain ⟨⟨x, cv⟩, hs7⟩ := hs7
  obtain ⟨g, gc, rfl, hcs7⟩ : ∃ g gc, cv = .slice (some ⟨g, 0, none⟩) 1 gc ∧ ∀ j u, calledL[j]? = some u → w7.cell? ⟨g, j, none⟩ = some u := by
    obtain ⟨T1, T2, -, ⟨T3, T4, -, ⟨h1, -⟩, -⟩, -⟩ := hs7
    obtain ⟨g2, o2, c2, e2, -, -, -, ht, hx2⟩ := (Row.of_owns h1).some (by simp)
    obtain ⟨g3, c3, e3⟩ : ∃ g3 c3, cv = .slice (some ⟨g3, 0, none⟩) 1 c3 := by
      rcases h1.2 with ⟨-, h⟩ | ⟨g, cap, cur, h, -⟩
      · omega
      · exact ⟨g, cap, h⟩
    dsimp only at e2
    rw [e3] at e2
    obtain ⟨ha, -, rfl⟩ := slice_inj e2
    have := Option.some.inj ha
    injection this with e1 e4
    subst e1
    subst e4
    exact ⟨g3, c3, e3, fun j u hj => by have := (hx2 j u hj).1; rwa [Nat.zero_add] at this⟩
  obtain ⟨S8, hwi⟩ : ∃ S8, WorldIs wp lw18 w7 S8 := by
    obtain ⟨T1, T2, -, ⟨T3, T4, ⟨thn, T5, T6, h1, -⟩, -⟩, -⟩ := hs7
    exact ⟨T5, h1⟩
  have HH := Lib.hid (hist_any (Star.mach hs7) (by rfl) (by simp [Value.oneCell']) hcs7 hwi rfl)
  have HWL := Lib.hid hwl
  clear hb7 hs7 hcs7 hwi hwl HJ6
  go_wp2_with fail
  refine HH.out.mono ?_
  rintro e w8 ⟨q, rfl, hq8, hb8⟩
  obtain ⟨hb, hhb⟩ : ∃ b, b = w8.heap.size := ⟨_, rfl⟩
  obtain ⟨w9, hw9⟩ : ∃ X, X = w8.alloc (.cells #[.slice (some ⟨q, 0, none⟩) 1 1, .slice none 0 0] 36) := ⟨_, rfl⟩
  have hb9 : Below w8.heap.size w8 w9 := by rw [hw9]; exact (Below.refl _ _).alloc (Nat.le_refl _) _
  have hz9 : w9.heap[hb]? = some (.cells #[.slice (some ⟨q, 0, none⟩) 1 1, .slice none 0 0] 36 (0, 0)) := by rw [hw9, hhb]; exact heap_mem w8 _
  have hq9 : w9.cell? ⟨q, 10, none⟩ = some (.int .u8 1) := (hb9.cell (p := ⟨q, 10, none⟩) (cell_lt (hq8 10 (.int .u8 1) rfl))).trans (hq8 10 (.int .u8 1) rfl)
  have hj9 := (HJ7.out.below (HRS.out.framed 18) hb8).below (HRS.out.framed 18) hb9
  have HJ9 := Lib.hid hj9
  have HM9 := Lib.hid (HRS.out.may0 18 w9 (by omega) hj9)
  rw [show decide (18 < 18) = false from rfl] at HM9
  obtain ⟨S9, hs9, hE9, hl9, hlow9⟩ := hj9
  obtain ⟨⟨x9, cv9⟩, hs9⟩ := hs9
  have hd9 : w9.heap[d3]? = some (.cells #[.int .i64 0, .int .i64 0, .bool false, .int .u8 0, .int .u64 0, .string ⟨#[]⟩, .string ⟨#[]⟩, .int .u32 0, .int .u64 0, .int .i64 0, .int .i64 0] 46 (0, 0)) := by
    obtain ⟨T1, T2, ⟨T3, T4, ⟨T5, T6, ⟨T7, T8, h1, -⟩, -⟩, -⟩, -⟩ := hs9
    exact h1.1
  have HD9 := Lib.hid hd9
  have HZ9 := Lib.hid (And.intro hz9 hq9)
  clear HJ7 HH hq8 hb8 hb9 hz9 hq9 hs9 hd9 hE9 hl9 hlow9
  go_upto_region 9 with fail
  rw [← hw9, ← hhb]
  clear hw9 hhb
  have hde := didEq
  have hix := idx_calledM q
  go_wp2_with (first
    | ((with_reducible show wpList _ _ _ (⟨_, Op.load _ (.tmp 3), _, _, _, _⟩ :: _) _ _); refine wpList_load_row (by rfl) 46 (.tmp 3) (by rfl) d3 (by rfl) 46 _ _ _ HD9.out Tryz.underlying46 rfl (by kernel_rfl) ?_)
    | fail)
  refine HM9.out.mono ?_
  rintro e w10 ⟨rfl, hb10⟩
  obtain ⟨S10, hs10, -, -, hlow10⟩ := HJ9.out.below (HRS.out.framed 18) hb10
  obtain ⟨⟨x10, cv10⟩, hs10⟩ := hs10
  have HCN := Lib.hid (mConn_any (k := 0) (c := c0) (Star.mach hs10) (by omega) rfl)
  have HOUT := Lib.hid (show Calls Tryz.prog 15 #[ptrN c0] w10 fun e w' => e = .returned (sv wl) ∧ w10 = w' from by
    obtain ⟨T1, T2, ⟨T3, T4, ⟨T5, T6, -, a2, -⟩, -⟩, -⟩ := hs10
    have := out_is a2
    rw [outC, ← HWL.out] at this
    exact this)
  have z0 : w10.cell? ⟨hb, 0, none⟩ = some (.slice (some ⟨q, 0, none⟩) 1 1) := (hb10.cell (p := ⟨hb, 0, none⟩) (cell_lt (cellsAt HZ9.out.1 0).1)).trans (cellsAt HZ9.out.1 0).1
  have z10 : w10.cell? ⟨q, 10, none⟩ = some (.int .u8 1) := (hb10.cell (p := ⟨q, 10, none⟩) (cell_lt HZ9.out.2)).trans HZ9.out.2
  have HLOW := Lib.hid hlow10
  have hwne : (wl == []) = false := by rw [HWL.out]; kernel_rfl
  clear hs10 hb10 hlow10 HM9 HJ9 HD9 HZ9
  go_wp2_with fail
  refine HCN.out.mono ?_
  rintro e w11 ⟨rfl, rfl⟩
  go_wp2_with fail
  refine HOUT.out.mono ?_
  rintro e w12 ⟨rfl, rfl⟩
  go_wp2_with fail

  go_ret
  exact ⟨rfl, HLOW.out⟩

set_option maxRecDepth 100000 in
set_option maxHeartbeats 4000000 in
theorem doNil_any {w : World} {k j : Int} {a : Option Addr} {n c : Nat}  : Calls Tryz.prog 6 #[.pointer none, .agg #[.int .u8 k, .int .i64 j, .slice a n c]] w fun e w' => e = .returned (didV (-1) 0 false 0 0) ∧ Below w.heap.size w w' := by
  obtain ⟨rb, hrb⟩ : ∃ b, b = w.heap.size + 1 := ⟨_, rfl⟩
  obtain ⟨w1, hw1⟩ : ∃ X, X = w.alloc (.cells #[.int .u8 k, .int .i64 j, .slice a n c] 25) := ⟨_, rfl⟩
  have hz1 : w1.heap.size = w.heap.size + 1 := by rw [hw1, size_at]
  obtain ⟨w2, hw2⟩ : ∃ X, X = w1.alloc (.cells #[.int .i64 0, .int .i64 0, .bool false, .int .u8 0, .int .u64 0, .string ⟨#[]⟩, .string ⟨#[]⟩, .int .u32 0, .int .u64 0, .int .i64 0, .int .i64 0] 46) := ⟨_, rfl⟩
  have hb1 : Below w.heap.size w w1 := by rw [hw1]; exact (Below.refl _ _).alloc (Nat.le_refl _) _
  have hb2 : Below w1.heap.size w1 w2 := by rw [hw2]; exact (Below.refl _ _).alloc (Nat.le_refl _) _
  have hr2 : w2.heap[rb]? = some (.cells #[.int .i64 0, .int .i64 0, .bool false, .int .u8 0, .int .u64 0, .string ⟨#[]⟩, .string ⟨#[]⟩, .int .u32 0, .int .u64 0, .int .i64 0, .int .i64 0] 46 (0, 0)) := by rw [hw2, hrb, ← hz1]; exact heap_mem w1 _
  have hb : Below w.heap.size w w2 := hb1.trans (hb2.mono hb1.size)
  have hnil := mptr_nil
  have HW := Lib.hid (And.intro (show (w.alloc (.cells #[.int .u8 k, .int .i64 j, .slice a n c] 25)).alloc (.cells #[.int .i64 0, .int .i64 0, .bool false, .int .u8 0, .int .u64 0, .string ⟨#[]⟩, .string ⟨#[]⟩, .int .u32 0, .int .u64 0, .int .i64 0, .int .i64 0] 46) = w2 from by rw [hw2, hw1]) hrb)
  have HB := Lib.hid hb
  have HR2 := Lib.hid hr2
  clear hb hb1 hb2 hr2 hw1 hw2 hz1 hrb
  go_enter Tryz.func6, Tryz.ntmps6
  go_upto_region 1 with fail
  rw [HW.out.1, ← HW.out.2]
  go_wp2_with (first
    | ((with_reducible show wpList _ _ _ (⟨none, Op.store _ _ _, _, _, _, _⟩ :: _) _ _); refine wpList_store_whole (by rfl) 46 (.tmp 4) (.tmp 22) (by rfl) rb (by rfl) #[.int .i64 (-1), .int .i64 0, .bool false, .int .u8 0, .int .u64 0, .string ⟨#[]⟩, .string ⟨#[]⟩, .int .u32 0, .int .u64 0, .int .i64 0, .int .i64 0] (by rfl) _ 46 HR2.out (by rfl) (by kernel_rfl) (by simp [Value.oneCell']) ?_; intro w5 hr5 hg5 hz5)
    | ((with_reducible show bodyPost _ _ _ Exit.ret _ _); exact bodyPost_ret (results_cell_row (by exact Tryz.results6) _ _ rb _ _ _ _ (by rfl) hr5 Tryz.underlying46 rfl (by kernel_rfl)) rfl (by
        have hc5 : Chg (fun k => k = rb) w2 w5 := Chg.of_grown hg5 (fun _ _ e => (Option.some.inj e).symm)
        refine ⟨rfl, HB.out.trans (hc5.below (fun k hk => ⟨Nat.lt_of_lt_of_le hk HB.out.size, fun e => ?_⟩))⟩
        have := HW.out.2
        omega))
    | fail)
set_option maxRecDepth 100000 in
set_option maxHeartbeats 4000000 in
theorem doVoid_any {w : World} {k j : Int} {a : Option Addr} {n c : Nat} {p : Nat} (h1 : w.cell? ⟨p, 1, none⟩ = some (.slice none 0 0)) : Calls Tryz.prog 6 #[ptrN p, .agg #[.int .u8 k, .int .i64 j, .slice a n c]] w fun e w' => e = .returned (didV (-1) 0 false 0 0) ∧ Below w.heap.size w w' := by
  obtain ⟨rb, hrb⟩ : ∃ b, b = w.heap.size + 1 := ⟨_, rfl⟩
  obtain ⟨w1, hw1⟩ : ∃ X, X = w.alloc (.cells #[.int .u8 k, .int .i64 j, .slice a n c] 25) := ⟨_, rfl⟩
  have hz1 : w1.heap.size = w.heap.size + 1 := by rw [hw1, size_at]
  obtain ⟨w2, hw2⟩ : ∃ X, X = w1.alloc (.cells #[.int .i64 0, .int .i64 0, .bool false, .int .u8 0, .int .u64 0, .string ⟨#[]⟩, .string ⟨#[]⟩, .int .u32 0, .int .u64 0, .int .i64 0, .int .i64 0] 46) := ⟨_, rfl⟩
  have hb1 : Below w.heap.size w w1 := by rw [hw1]; exact (Below.refl _ _).alloc (Nat.le_refl _) _
  have hb2 : Below w1.heap.size w1 w2 := by rw [hw2]; exact (Below.refl _ _).alloc (Nat.le_refl _) _
  have hr2 : w2.heap[rb]? = some (.cells #[.int .i64 0, .int .i64 0, .bool false, .int .u8 0, .int .u64 0, .string ⟨#[]⟩, .string ⟨#[]⟩, .int .u32 0, .int .u64 0, .int .i64 0, .int .i64 0] 46 (0, 0)) := by rw [hw2, hrb, ← hz1]; exact heap_mem w1 _
  have hb : Below w.heap.size w w2 := hb1.trans (hb2.mono hb1.size)
  have hnil := mptr_nil
  have c1 : w2.cell? ⟨p, 1, none⟩ = some (.slice none 0 0) := (hb.cell (p := ⟨p, 1, none⟩) (cell_lt h1)).trans h1
  clear h1
  have HW := Lib.hid (And.intro (show (w.alloc (.cells #[.int .u8 k, .int .i64 j, .slice a n c] 25)).alloc (.cells #[.int .i64 0, .int .i64 0, .bool false, .int .u8 0, .int .u64 0, .string ⟨#[]⟩, .string ⟨#[]⟩, .int .u32 0, .int .u64 0, .int .i64 0, .int .i64 0] 46) = w2 from by rw [hw2, hw1]) hrb)
  have HB := Lib.hid hb
  have HR2 := Lib.hid hr2
  clear hb hb1 hb2 hr2 hw1 hw2 hz1 hrb
  go_enter Tryz.func6, Tryz.ntmps6
  go_upto_region 1 with fail
  rw [HW.out.1, ← HW.out.2]
  go_wp2_with (first
    | ((with_reducible show wpList _ _ _ (⟨none, Op.store _ _ _, _, _, _, _⟩ :: _) _ _); refine wpList_store_whole (by rfl) 46 (.tmp 4) (.tmp 22) (by rfl) rb (by rfl) #[.int .i64 (-1), .int .i64 0, .bool false, .int .u8 0, .int .u64 0, .string ⟨#[]⟩, .string ⟨#[]⟩, .int .u32 0, .int .u64 0, .int .i64 0, .int .i64 0] (by rfl) _ 46 HR2.out (by rfl) (by kernel_rfl) (by simp [Value.oneCell']) ?_; intro w5 hr5 hg5 hz5)
    | ((with_reducible show bodyPost _ _ _ Exit.ret _ _); exact bodyPost_ret (results_cell_row (by exact Tryz.results6) _ _ rb _ _ _ _ (by rfl) hr5 Tryz.underlying46 rfl (by kernel_rfl)) rfl (by
        have hc5 : Chg (fun k => k = rb) w2 w5 := Chg.of_grown hg5 (fun _ _ e => (Option.some.inj e).symm)
        refine ⟨rfl, HB.out.trans (hc5.below (fun k hk => ⟨Nat.lt_of_lt_of_le hk HB.out.size, fun e => ?_⟩))⟩
        have := HW.out.2
        omega))
    | fail)
theorem worldNil_any {w : World}  : Calls Tryz.prog 7 #[.pointer none] w fun e w' => e = .returned (.pointer none) ∧ w = w' := by
  have hnil := mptr_nil
  go_enter Tryz.func7, Tryz.ntmps7
  go_wp2_with fail
  go_ret
  exact ⟨rfl, rfl⟩
theorem worldVoid_any {w : World} {p : Nat} (h0 : w.cell? ⟨p, 0, none⟩ = some (.pointer none))  : Calls Tryz.prog 7 #[ptrN p] w fun e w' => e = .returned (.pointer none) ∧ w = w' := by
  have hnil := mptr_nil
  go_enter Tryz.func7, Tryz.ntmps7
  go_wp2_with fail
  go_ret
  exact ⟨rfl, rfl⟩
theorem connsNil_any {w : World}  : Calls Tryz.prog 8 #[.pointer none] w fun e w' => e = .returned (.int .i64 0) ∧ w = w' := by
  have hnil := mptr_nil
  go_enter Tryz.func8, Tryz.ntmps8
  go_wp2_with fail
  go_ret
  exact ⟨rfl, rfl⟩
theorem connsVoid_any {w : World} {p : Nat} (h1 : w.cell? ⟨p, 1, none⟩ = some (.slice none 0 0))  : Calls Tryz.prog 8 #[ptrN p] w fun e w' => e = .returned (.int .i64 0) ∧ w = w' := by
  have hnil := mptr_nil
  go_enter Tryz.func8, Tryz.ntmps8
  go_wp2_with fail
  go_ret
  exact ⟨rfl, rfl⟩
theorem atNil_any {w : World} (i : Int)  : Calls Tryz.prog 23 #[.pointer none, .int .i64 i] w fun e w' => e = .returned (.pointer none) ∧ w = w' := by
  have hnil := mptr_nil
  go_enter Tryz.func23, Tryz.ntmps23
  go_wp2_with fail
  go_ret
  exact ⟨rfl, rfl⟩
theorem atVoid_any {w : World} (i : Int) {p : Nat} (h1 : w.cell? ⟨p, 1, none⟩ = some (.slice none 0 0))  : Calls Tryz.prog 23 #[ptrN p, .int .i64 i] w fun e w' => e = .returned (.pointer none) ∧ w = w' := by
  have hnil := mptr_nil
  by_cases hi : i < 0
  · have d0 : decide (i < 0) = true := decide_eq_true hi
    clear hi
    go_enter Tryz.func23, Tryz.ntmps23
    go_wp2_with fail
    go_ret
    exact ⟨rfl, rfl⟩
  · have d0 : decide (i < 0) = false := decide_eq_false hi
    have d1 : decide (0 ≤ i) = true := decide_eq_true (by omega)
    clear hi
    go_enter Tryz.func23, Tryz.ntmps23
    go_wp2_with fail
    go_ret
    exact ⟨rfl, rfl⟩
theorem connNil_any {w : World} (i : Int)  : Calls Tryz.prog 9 #[.pointer none, .int .i64 i] w fun e w' => e = .returned (.pointer none) ∧ w = w' := by
  have HA := Lib.hid (atNil_any (w := w) i)
  have q := tptr_neq
  go_enter Tryz.func9, Tryz.ntmps9
  go_wp2_with fail
  refine HA.out.mono ?_
  rintro e w2 ⟨rfl, rfl⟩
  go_wp2_with fail
  go_ret
  exact ⟨rfl, rfl⟩
theorem underNil_any {w : World} (i : Int)  : Calls Tryz.prog 10 #[.pointer none, .int .i64 i] w fun e w' => e = .returned (.bool false) ∧ w = w' := by
  have HA := Lib.hid (atNil_any (w := w) i)
  have q := tptr_neq
  go_enter Tryz.func10, Tryz.ntmps10
  go_wp2_with fail
  refine HA.out.mono ?_
  rintro e w2 ⟨rfl, rfl⟩
  go_wp2_with fail
  go_ret
  exact ⟨rfl, rfl⟩
theorem mayNil_any {w : World} (i : Int)  : Calls Tryz.prog 11 #[.pointer none, .int .i64 i] w fun e w' => e = .returned (.bool false) ∧ w = w' := by
  have HA := Lib.hid (atNil_any (w := w) i)
  have q := tptr_neq
  go_enter Tryz.func11, Tryz.ntmps11
  go_wp2_with fail
  refine HA.out.mono ?_
  rintro e w2 ⟨rfl, rfl⟩
  go_wp2_with fail
  go_ret
  exact ⟨rfl, rfl⟩
theorem connVoid_any {w : World} (i : Int) {p : Nat} (h1 : w.cell? ⟨p, 1, none⟩ = some (.slice none 0 0))  : Calls Tryz.prog 9 #[ptrN p, .int .i64 i] w fun e w' => e = .returned (.pointer none) ∧ w = w' := by
  have HA := Lib.hid (atVoid_any i h1)
  have q := tptr_neq
  go_enter Tryz.func9, Tryz.ntmps9
  go_wp2_with fail
  refine HA.out.mono ?_
  rintro e w2 ⟨rfl, rfl⟩
  go_wp2_with fail
  go_ret
  exact ⟨rfl, rfl⟩
theorem underVoid_any {w : World} (i : Int) {p : Nat} (h1 : w.cell? ⟨p, 1, none⟩ = some (.slice none 0 0))  : Calls Tryz.prog 10 #[ptrN p, .int .i64 i] w fun e w' => e = .returned (.bool false) ∧ w = w' := by
  have HA := Lib.hid (atVoid_any i h1)
  have q := tptr_neq
  go_enter Tryz.func10, Tryz.ntmps10
  go_wp2_with fail
  refine HA.out.mono ?_
  rintro e w2 ⟨rfl, rfl⟩
  go_wp2_with fail
  go_ret
  exact ⟨rfl, rfl⟩
theorem mayVoid_any {w : World} (i : Int) {p : Nat} (h1 : w.cell? ⟨p, 1, none⟩ = some (.slice none 0 0))  : Calls Tryz.prog 11 #[ptrN p, .int .i64 i] w fun e w' => e = .returned (.bool false) ∧ w = w' := by
  have HA := Lib.hid (atVoid_any i h1)
  have q := tptr_neq
  go_enter Tryz.func11, Tryz.ntmps11
  go_wp2_with fail
  refine HA.out.mono ?_
  rintro e w2 ⟨rfl, rfl⟩
  go_wp2_with fail
  go_ret
  exact ⟨rfl, rfl⟩
theorem dropsNil_any {w : World} : Calls Tryz.prog 18 #[.pointer none] w fun e w' => e = .returned (.slice none 0 0) ∧ w = w' := by
  have q := wptr_nil
  go_enter Tryz.func18, Tryz.ntmps18
  go_wp2_with fail
  go_ret
  exact ⟨rfl, rfl⟩
theorem nilSlice (W : World) : (binOp .eql 30 (.slice none 0 0) (.slice none 0 0)).run Tryz.prog W = .ok (.bool true) W := by kernel_rfl
theorem cloneNil_any {w : World} : Calls Tryz.prog 17 #[.slice none 0 0] w fun e w' => e = .returned (.slice none 0 0) ∧ w = w' := by
  have q1 := nilSlice
  go_enter Tryz.func17, Tryz.ntmps17
  go_wp2_with fail
  go_ret
  exact ⟨rfl, rfl⟩
abbrev histZ : Value := .agg #[.slice none 0 0, .slice none 0 0]
theorem histNil_any {w : World} : Calls Tryz.prog 5 #[.pointer none] w fun e w' => e = .returned histZ ∧ Below w.heap.size w w' := by
  have hnil := mptr_nil
  have HB := Lib.hid (show Below w.heap.size w (w.alloc (.cells #[.slice none 0 0, .slice none 0 0] 36)) from (Below.refl _ _).alloc (Nat.le_refl _) _)
  go_enter Tryz.func5, Tryz.ntmps5
  go_wp2_with (first
    | ((with_reducible show bodyPost _ _ _ Exit.ret _ _); exact bodyPost_ret (results_cell_row (by exact Tryz.results5) _ _ w.heap.size _ _ _ _ (by rfl) (heap_alloc_new w _) Tryz.underlying36 rfl (by kernel_rfl)) rfl ⟨rfl, HB.out⟩)
    | fail)
set_option maxRecDepth 100000 in
set_option maxHeartbeats 4000000 in
theorem histVoid_any {w : World} {p : Nat} (h0 : w.cell? ⟨p, 0, none⟩ = some (.pointer none)) (h2 : w.cell? ⟨p, 2, none⟩ = some (.slice none 0 0)) : Calls Tryz.prog 5 #[ptrN p] w fun e w' => e = .returned histZ ∧ Below w.heap.size w w' := by
  obtain ⟨rb, hrb⟩ : ∃ X, X = w.heap.size := ⟨_, rfl⟩
  obtain ⟨w1, hw1⟩ : ∃ X, X = w.alloc (.cells #[.slice none 0 0, .slice none 0 0] 36) := ⟨_, rfl⟩
  have hb1 : Below w.heap.size w w1 := by rw [hw1]; exact (Below.refl _ _).alloc (Nat.le_refl _) _
  have hq1 : w1.heap[rb]? = some (.cells #[.slice none 0 0, .slice none 0 0] 36 (0, 0)) := by rw [hw1, hrb]; exact heap_mem w _
  have c0 : w1.cell? ⟨p, 0, none⟩ = some (.pointer none) := (hb1.cell (p := ⟨p, 0, none⟩) (cell_lt h0)).trans h0
  have c2 : w1.cell? ⟨p, 2, none⟩ = some (.slice none 0 0) := (hb1.cell (p := ⟨p, 2, none⟩) (cell_lt h2)).trans h2
  have q := mptr_nil
  obtain ⟨w2, hw2⟩ : ∃ X, X = w1.drew := ⟨_, rfl⟩
  have hq2 : w2.heap[rb]? = some (.cells #[.slice none 0 0, .slice none 0 0] 36 (0, 0)) := by rw [hw2]; exact hq1
  have ht2 : w2.there rb 0 2 := fun j hj => by
    rcases j with _ | _ | j
    all_goals first | exact ⟨by rw [(cellsAt hq2 _).1]; rfl, (cellsAt hq2 _).2⟩ | (exfalso; omega)
  have hne : ¬ p = rb := fun e => by have := cell_lt h0; have := hrb; omega
  obtain ⟨w4, hw4⟩ : ∃ X, X = w2.setCells rb 0 [.slice none 0 0, .slice none 0 0] := ⟨_, rfl⟩
  have hc4 : Chg (fun k => k = rb) w2 w4 := by rw [hw4]; exact mcells_chg _ _ _ _
  have hq4 : w4.heap[rb]? = some (.cells #[.slice none 0 0, .slice none 0 0] 36 (0, 0)) := by rw [hw4]; exact setCells_whole hq2 rfl
  have d0 : w2.cell? ⟨p, 0, none⟩ = some (.pointer none) := by rw [hw2]; exact c0
  have d2 : w2.cell? ⟨p, 2, none⟩ = some (.slice none 0 0) := by rw [hw2]; exact c2
  have hS4 : w4.cell? ⟨p, 0, none⟩ = some (.pointer none) ∧ w4.cell? ⟨p, 2, none⟩ = some (.slice none 0 0) := ⟨hc4.cell d0 hne, hc4.cell d2 hne⟩
  have HX := Lib.hid (show Below w.heap.size w w4 from by
    have hb : Below w.heap.size w w2 := by rw [hw2]; exact low_drew1 hb1
    exact hb.trans (hc4.below (fun k hk => ⟨Nat.lt_of_lt_of_le hk hb.size, fun e => by omega⟩)))
  have HQ4 := Lib.hid hq4
  have HW4 := Lib.hid hw4
  have HW2 := Lib.hid hw2
  have HCP := Lib.hid (clipCalled_any (a := none) (n := 0) (c := 0) w2 (Nat.le_refl _) (Nat.zero_le _) (fun _ => rfl))
  clear h0 h2 hb1 hq1 hq2 hne hc4 hq4 hw4 hw2 d0 d2
  go_enter Tryz.func5, Tryz.ntmps5
  go_upto_region 3 with fail
  rw [← hw1, ← hrb]
  clear hw1 hrb
  refine wp_region_held_drew (S := fun V => V.cell? ⟨p, 0, none⟩ = some (.pointer none) ∧ V.cell? ⟨p, 2, none⟩ = some (.slice none 0 0)) (by kernel_rfl) ⟨c0, c2⟩ (fun hHeld => ?_)
  rw [← HW2.out] at hHeld ⊢
  clear HW2
  refine tkz 0 rfl ?_
  try simp only [Act.put, tz]
  refine tkz 1 rfl ?_
  try simp only [Act.put, tz]
  refine tkz 2 rfl ?_
  try simp only [Act.put, tz]
  refine tkv 3 (v := ?_) rfl ?_ ?_
  rotate_left 1
  · ((intro w hSw; (try dsimp only at hSw); obtain ⟨c0, c1⟩ := hSw; go_simp) <;> with_reducible rfl)
  try simp only [Act.put, tz]
  refine tkz 6 rfl ?_
  try simp only [Act.put, tz]
  refine tkz 7 rfl ?_
  try simp only [Act.put, tz]
  refine tkz 8 rfl ?_
  try simp only [Act.put, tz]
  refine tkv 9 (v := ?_) rfl ?_ ?_
  rotate_left 1
  · ((intro w hSw; (try dsimp only at hSw); obtain ⟨c0, c1⟩ := hSw; go_simp) <;> with_reducible rfl)
  try simp only [Act.put, tz]
  refine rdy 4 rfl (fun K hK => ?_)
  go_simp
  go_at_call 17
  refine (cloneNil_any).mono ?_
  rintro e w' ⟨rfl, rfl⟩
  refine hK.out _ _ hHeld (fun hHeld2 => ?_)
  clear hK K
  try simp only [Act.put, tz]
  refine rdy 5 rfl (fun K hK => ?_)
  go_simp
  go_at_call 16
  refine (HCP.out).mono ?_
  rintro e w' ⟨rfl, rfl⟩
  refine hK.out _ _ hHeld (fun hHeld2 => ?_)
  clear hK K
  try simp only [Act.put, tz]
  refine rdy 10 rfl (fun K hK => ?_)
  go_simp
  go_at_call 18
  refine (dropsNil_any).mono ?_
  rintro e w' ⟨rfl, rfl⟩
  refine hK.out _ _ hHeld (fun hHeld2 => ?_)
  clear hK K
  try simp only [Act.put, tz]
  refine tkz 11 rfl ?_
  try simp only [Act.put, tz]
  refine rdy 12 rfl (fun K hK => ?_)
  rw [if_pos (by rfl)]
  refine wp_store_mid 36 (.tmp 2) (.tmp 17) (by rfl) rb 0 #[.slice none 0 0, .slice none 0 0] (by rfl) (by rfl) ht2 (by kernel_rfl) (by simp [Value.oneCell']) ?_
  refine hK.out _ _ (by have h : _ ∧ _ := hS4; rw [HW4.out] at h; exact h) (fun hHeld2 => ?_)
  clear hK K
  try simp only [Act.put, tzD, tzE, tzF]
  rw [show w2.setCells rb 0 (#[.slice none 0 0, .slice none 0 0] : Array Value).toList = w4 from HW4.out.symm] at hHeld2 ⊢
  clear HW4 ht2
  refine wpAnyH_done (by kernel_rfl) ?_ _
  clear hHeld hHeld2
  go_wp2_with (first
    | ((with_reducible show bodyPost _ _ _ Exit.ret _ _); exact bodyPost_ret (results_cell_row (by exact Tryz.results5) _ _ rb _ _ _ _ (by rfl) HQ4.out Tryz.underlying36 rfl (by kernel_rfl)) rfl ⟨rfl, HX.out⟩)
    | fail)

abbrev zcfg : CfgD := ⟨0, 0, 0, 0, 0⟩
theorem worldsNew_zero (w : World) : Calls Tryz.prog 25 #[.agg #[.int .i64 0, .int .i64 0, .int .i64 0, .int .i64 0, .int .i64 0]] w fun e w' => e = .returned (.tuple #[.pointer none, .int .i64 1]) ∧ Below w.heap.size w w' := by
  have hb1 : Below w.heap.size w (w.alloc (.cells #[.int .i64 0, .int .i64 0, .int .i64 0, .int .i64 0, .int .i64 0] 57)) := (Below.refl _ _).alloc (Nat.le_refl _) _
  have HM := Lib.hid (fun W : World => may_any zcfg W)
  have hno : mayC zcfg = false := by decide
  rw [hno] at HM
  have HB := Lib.hid hb1
  clear hb1 hno
  go_enter Tryz.func25, Tryz.ntmps25
  go_wp2_with fail
  refine (HM.out _).mono ?_
  rintro e w2 ⟨rfl, hb2⟩
  have HB2 := Lib.hid (HB.out.trans (hb2.mono HB.out.size))
  clear hb2
  go_wp2_with fail
  exact bodyPost_ret (results_tmp2 (by exact Tryz.results25) _ _ _) rfl ⟨rfl, HB2.out⟩
theorem machinesNew_zero (w : World) : Calls Tryz.prog 12 #[.agg #[.int .i64 0, .int .i64 0, .int .i64 0, .int .i64 0, .int .i64 0, .int .i64 0]] w fun e w' => e = .returned (.tuple #[.pointer none, .int .i64 1]) ∧ Below w.heap.size w w' := by
  have hb1 : Below w.heap.size w (w.alloc (.cells #[.int .i64 0, .int .i64 0, .int .i64 0, .int .i64 0, .int .i64 0, .int .i64 0] 59)) := (Below.refl _ _).alloc (Nat.le_refl _) _
  have HW := Lib.hid (fun W : World => worldsNew_zero W)
  have HB := Lib.hid hb1
  clear hb1
  go_enter Tryz.func12, Tryz.ntmps12
  go_wp2_with fail
  refine (HW.out _).mono ?_
  rintro e w2 ⟨rfl, hb2⟩
  have HB2 := Lib.hid (HB.out.trans (hb2.mono HB.out.size))
  clear hb2
  go_wp2_with fail
  exact bodyPost_ret (results_tmp2 (by exact Tryz.results12) _ _ _) rfl ⟨rfl, HB2.out⟩
theorem EnvP.up {w w' : World} (h : EnvP w.heap.size w) (hb : Below w.heap.size w w') : EnvP w'.heap.size w' := by
  obtain ⟨W0, h1, h2, h3, h4, h5⟩ := h
  exact ⟨W0, Nat.le_trans h1 hb.size, h2, h3, h4, h5.trans ⟨hb.os, hb.tape, hb.output, hb.size, fun k hk => hb.block k (Nat.lt_of_lt_of_le hk h1)⟩⟩
theorem didNe (W : World) : (binOp .neq 46 (.agg #[.int .i64 (-1), .int .i64 0, .bool false, .int .u8 0, .int .u64 0, .string ⟨#[]⟩, .string ⟨#[]⟩, .int .u32 0, .int .u64 0, .int .i64 0, .int .i64 0]) (.agg #[.int .i64 (-1), .int .i64 0, .bool false, .int .u8 0, .int .u64 0, .string ⟨#[]⟩, .string ⟨#[]⟩, .int .u32 0, .int .u64 0, .int .i64 0, .int .i64 0])).run Tryz.prog W = .ok (.bool false) W := by kernel_rfl
theorem didB (W : World) : (Instr.build 46 #[(0, .int .i64 (-1))]).run Tryz.prog W = .ok (.agg #[.int .i64 (-1), .int .i64 0, .bool false, .int .u8 0, .int .u64 0, .string ⟨#[]⟩, .string ⟨#[]⟩, .int .u32 0, .int .u64 0, .int .i64 0, .int .i64 0]) W := by kernel_rfl
theorem mcfgB (W : World) : (Instr.build 59 #[]).run Tryz.prog W = .ok (.agg #[.int .i64 0, .int .i64 0, .int .i64 0, .int .i64 0, .int .i64 0, .int .i64 0]) W := by kernel_rfl
theorem wptr_neq (x : Option Addr) (W : World) : (binOp .neq 28 (.pointer x) (.pointer none)).run Tryz.prog W = .ok (.bool (!x.isNone)) W := by cases x <;> kernel_rfl
theorem cptr_neq (x : Option Addr) (W : World) : (binOp .neq 50 (.pointer x) (.pointer none)).run Tryz.prog W = .ok (.bool (!x.isNone)) W := by cases x <;> kernel_rfl
theorem idx_machp {g k : Nat} (hk : k < 2) (W : World) : (Instr.indexAt 33 (.slice (some ⟨g, 0, none⟩) 2 2) (.int .i64 (k : Int))).run Tryz.prog W = .ok (.pointer (some ⟨g, k, none⟩)) W := by
  have h0 : (0 : Int) ≤ (k : Int) := by omega
  have h1 : (k : Int) < (2 : Int) := by omega
  have h2 := Tryz.underlying33
  go_simp
/-- What holds in the law's loop. -/
structure VoidJ (w0 : World) (q vm lb : Nat) (k j : Int) (a : Option Addr) (n c : Nat) (V : World) : Prop where
  low : Below w0.heap.size w0 V
  hq : V.heap[q]? = some (.cells #[.int .u8 k, .int .i64 j, .slice a n c] 25 (0, 0))
  hvm : V.heap[vm]? = some (.cells #[.pointer none, .slice none 0 0, .slice none 0 0] 32 (0, 0))
  hlb : V.heap[lb]? = some (.cells #[.pointer none, ptrN vm] 27 (0, 0))
theorem VoidJ.below {w0 V V' : World} {q vm lb : Nat} {k j : Int} {a : Option Addr} {n c : Nat} (h : VoidJ w0 q vm lb k j a n c V) (hb : Below V.heap.size V V') : VoidJ w0 q vm lb k j a n c V' :=
  ⟨h.low.trans (hb.mono h.low.size), boxAt h.hq hb, boxAt h.hvm hb, boxAt h.hlb hb⟩
set_option maxRecDepth 100000 in
set_option maxHeartbeats 8000000 in
theorem machinesVoid_walk {w : World} {k j i : Int} {a : Option Addr} {n c : Nat} (hE : EnvP w.heap.size w) :
    Calls Tryz.prog 3 #[.agg #[.int .u8 k, .int .i64 j, .slice a n c], .int .i64 i] w fun e w' => e = .returned (.bool true) ∧ Below w.heap.size w w' := by
  obtain ⟨q, hq⟩ : ∃ b, b = w.heap.size := ⟨_, rfl⟩
  obtain ⟨w1, hw1⟩ : ∃ X, X = w.alloc (.cells #[.int .u8 k, .int .i64 j, .slice a n c] 25) := ⟨_, rfl⟩
  have hb1 : Below w.heap.size w w1 := by rw [hw1]; exact (Below.refl _ _).alloc (Nat.le_refl _) _
  have hq1 : w1.heap[q]? = some (.cells #[.int .u8 k, .int .i64 j, .slice a n c] 25 (0, 0)) := by rw [hw1, hq]; exact heap_mem w _
  have k2 : w1.cell? ⟨q, 2, none⟩ = some (.slice a n c) := (cellsAt hq1 2).1
  have HE := Lib.hid hE
  have HB1 := Lib.hid hb1
  have HLV := Lib.hid (fun (V : World) (hb : Below w.heap.size w V) => lives35 V (hE.up hb))
  have HQ1 := Lib.hid hq1
  have HW := Lib.hid hw1
  clear hE hb1 hq1
  by_cases hn : 3000 < n
  · have d0 : (3000 : Int) < (n : Int) := by omega
    clear hn
    go_enter Tryz.func3, Tryz.ntmps3
    go_upto_region 1 with fail
    rw [← hw1, ← hq]
    clear hw1 hq
    go_wp2_with fail
    refine (HLV.out w1 HB1.out).mono ?_
    rintro e w2 ⟨rfl, hb⟩
    have HB := Lib.hid (HB1.out.trans (hb.mono HB1.out.size))
    clear hb
    go_wp2_with fail
    go_ret
    exact ⟨rfl, HB.out⟩
  · have d0 : ¬ (3000 : Int) < (n : Int) := by omega
    clear hn
    obtain ⟨vm, hvm⟩ : ∃ b, b = w1.heap.size := ⟨_, rfl⟩
    obtain ⟨lb, hlb⟩ : ∃ b, b = w1.heap.size + 1 := ⟨_, rfl⟩
    obtain ⟨w2, hw2⟩ : ∃ X, X = w1.alloc (.cells #[.pointer none, .slice none 0 0, .slice none 0 0] 32) := ⟨_, rfl⟩
    have hz2 : w2.heap.size = w1.heap.size + 1 := by rw [hw2, size_at]
    obtain ⟨w3, hw3⟩ : ∃ X, X = w2.alloc (.cells #[.pointer none, ptrN vm] 27) := ⟨_, rfl⟩
    have hb2 : Below w1.heap.size w1 w2 := by rw [hw2]; exact (Below.refl _ _).alloc (Nat.le_refl _) _
    have hb3 : Below w2.heap.size w2 w3 := by rw [hw3]; exact (Below.refl _ _).alloc (Nat.le_refl _) _
    have HJ3 := Lib.hid (show VoidJ w q vm lb k j a n c w3 from
      ⟨HB1.out.trans ((hb2.mono HB1.out.size).trans (hb3.mono (Nat.le_trans HB1.out.size hb2.size))), boxAt (boxAt HQ1.out hb2) hb3, boxAt (by rw [hw2, hvm]; exact heap_mem w1 _) hb3, by rw [hw3, hlb, ← hz2]; exact heap_mem w2 _⟩)
    have HW3 := Lib.hid (show (w1.alloc (.cells #[.pointer none, .slice none 0 0, .slice none 0 0] 32)).alloc (.cells #[.pointer none, .pointer (some ⟨w1.heap.size, 0, none⟩)] 27) = w3 from by rw [hw3, hw2, hvm])
    have HVM := Lib.hid (And.intro hvm hlb)
    clear hb2 hb3 hz2 hw2 hw3 hvm hlb
    go_enter Tryz.func3, Tryz.ntmps3
    go_upto_region 1 with fail
    rw [← hw1, ← hq]
    clear hw1 hq
    go_upto_region 7 with fail
    clear HQ1 HW k2
    rw [HW3.out, ← HVM.out.2, ← HVM.out.1]
    clear HW3 HVM
    have hdb := didB
    have hdn := didNe
    have hmb := mcfgB
    have hpn := wptr_neq
    have hcn := cptr_neq
    go_loopw [8] (fun s8 wr => ∃ kk : Nat, s8 = .int .i64 (kk : Int) ∧ kk ≤ 2 ∧ Hid (VoidJ w q vm lb k j a n c wr)) (fun s8 _ => 3 - (intOf s8).toNat)
    case atStart => exact ⟨0, rfl, by omega, HJ3⟩
    case round =>
      obtain ⟨kk, rfl, hk, HJ⟩ := hrel
      clear HJ3
      rcases (by omega : kk = 0 ∨ kk = 1 ∨ kk = 2) with rfl | rfl | rfl
      · clear hk
        have hix : ∀ W : World, (Instr.indexAt 33 (.slice (some ⟨lb, 0, none⟩) 2 2) (.int .i64 0)).run Tryz.prog W = .ok (.pointer (some ⟨lb, 0, none⟩)) W := fun W => idx_machp (g := lb) (k := 0) (by omega) W
        have l0 : wr.cell? ⟨lb, 0, none⟩ = some (.pointer none) := (cellsAt HJ.out.hlb 0).1
        have m0 : wr.cell? ⟨vm, 0, none⟩ = some (.pointer none) := (cellsAt HJ.out.hvm 0).1
        have m2 : wr.cell? ⟨vm, 2, none⟩ = some (.slice none 0 0) := (cellsAt HJ.out.hvm 2).1
        have HHI := Lib.hid (show Calls Tryz.prog 5 #[.pointer none] wr fun e w' => e = .returned histZ ∧ Below wr.heap.size wr w' from histNil_any)
        clear m0 m2
        go_wp2_with fail
        refine HHI.out.mono ?_
        rintro e V1 ⟨rfl, hv1⟩
        obtain ⟨hb, hhb⟩ : ∃ b, b = V1.heap.size := ⟨_, rfl⟩
        obtain ⟨V2, hV2⟩ : ∃ X, X = V1.alloc (.cells #[.slice none 0 0, .slice none 0 0] 36) := ⟨_, rfl⟩
        have hv2 : Below V1.heap.size V1 V2 := by rw [hV2]; exact (Below.refl _ _).alloc (Nat.le_refl _) _
        have hz2 : V2.heap[hb]? = some (.cells #[.slice none 0 0, .slice none 0 0] 36 (0, 0)) := by rw [hV2, hhb]; exact heap_mem V1 _
        have HJ2 := Lib.hid ((HJ.out.below hv1).below hv2)
        have k0 : V2.cell? ⟨q, 0, none⟩ = some (.int .u8 k) := (cellsAt HJ2.out.hq 0).1
        have k1 : V2.cell? ⟨q, 1, none⟩ = some (.int .i64 j) := (cellsAt HJ2.out.hq 1).1
        have k2 : V2.cell? ⟨q, 2, none⟩ = some (.slice a n c) := (cellsAt HJ2.out.hq 2).1
        have d1 : V2.cell? ⟨vm, 1, none⟩ = some (.slice none 0 0) := (cellsAt HJ2.out.hvm 1).1
        have HDO := Lib.hid (show Calls Tryz.prog 6 #[.pointer none, .agg #[.int .u8 k, .int .i64 j, .slice a n c]] V2 fun e w' => e = .returned (didV (-1) 0 false 0 0) ∧ Below V2.heap.size V2 w' from doNil_any)
        have HZ2 := Lib.hid hz2
        clear hv1 hv2 hz2 d1 HHI HJ l0
        go_upto_region 11 with fail
        rw [← hV2, ← hhb]
        clear hV2 hhb
        go_wp2_with fail
        refine HDO.out.mono ?_
        rintro e V3 ⟨rfl, hv3⟩
        have HJ3 := Lib.hid (HJ2.out.below hv3)
        have z0 : V3.cell? ⟨hb, 0, none⟩ = some (.slice none 0 0) := (hv3.cell (p := ⟨hb, 0, none⟩) (cell_lt (cellsAt HZ2.out 0).1)).trans (cellsAt HZ2.out 0).1
        have z1 : V3.cell? ⟨hb, 1, none⟩ = some (.slice none 0 0) := (hv3.cell (p := ⟨hb, 1, none⟩) (cell_lt (cellsAt HZ2.out 1).1)).trans (cellsAt HZ2.out 1).1
        have m0 : V3.cell? ⟨vm, 0, none⟩ = some (.pointer none) := (cellsAt HJ3.out.hvm 0).1
        have m1 : V3.cell? ⟨vm, 1, none⟩ = some (.slice none 0 0) := (cellsAt HJ3.out.hvm 1).1
        have HWO := Lib.hid (worldNil_any (w := V3))
        have HCO := Lib.hid (connsNil_any (w := V3))
        have HCN := Lib.hid (connNil_any (w := V3) i)
        have HUN := Lib.hid (underNil_any (w := V3) i)
        have HMA := Lib.hid (mayNil_any (w := V3) i)
        clear hv3 m0 m1 k0 k1 k2 HDO HZ2 HJ2 hix
        go_wp2_with fail
        refine HWO.out.mono ?_
        rintro e V4 ⟨rfl, rfl⟩
        go_wp2_with fail
        refine HCO.out.mono ?_
        rintro e V4 ⟨rfl, rfl⟩
        go_wp2_with fail
        refine HCN.out.mono ?_
        rintro e V4 ⟨rfl, rfl⟩
        go_wp2_with fail
        refine HUN.out.mono ?_
        rintro e V4 ⟨rfl, rfl⟩
        go_wp2_with fail
        refine HMA.out.mono ?_
        rintro e V4 ⟨rfl, rfl⟩
        go_wp2_with fail
        go_roundw
        case rel => exact ⟨1, by go_num, by omega, HJ3⟩
        case measure => simp [intOf]
      · clear hk
        have hix : ∀ W : World, (Instr.indexAt 33 (.slice (some ⟨lb, 0, none⟩) 2 2) (.int .i64 1)).run Tryz.prog W = .ok (.pointer (some ⟨lb, 1, none⟩)) W := fun W => idx_machp (g := lb) (k := 1) (by omega) W
        have l0 : wr.cell? ⟨lb, 1, none⟩ = some (ptrN vm) := (cellsAt HJ.out.hlb 1).1
        have m0 : wr.cell? ⟨vm, 0, none⟩ = some (.pointer none) := (cellsAt HJ.out.hvm 0).1
        have m2 : wr.cell? ⟨vm, 2, none⟩ = some (.slice none 0 0) := (cellsAt HJ.out.hvm 2).1
        have HHI := Lib.hid (show Calls Tryz.prog 5 #[ptrN vm] wr fun e w' => e = .returned histZ ∧ Below wr.heap.size wr w' from histVoid_any m0 m2)
        clear m0 m2
        go_wp2_with fail
        refine HHI.out.mono ?_
        rintro e V1 ⟨rfl, hv1⟩
        obtain ⟨hb, hhb⟩ : ∃ b, b = V1.heap.size := ⟨_, rfl⟩
        obtain ⟨V2, hV2⟩ : ∃ X, X = V1.alloc (.cells #[.slice none 0 0, .slice none 0 0] 36) := ⟨_, rfl⟩
        have hv2 : Below V1.heap.size V1 V2 := by rw [hV2]; exact (Below.refl _ _).alloc (Nat.le_refl _) _
        have hz2 : V2.heap[hb]? = some (.cells #[.slice none 0 0, .slice none 0 0] 36 (0, 0)) := by rw [hV2, hhb]; exact heap_mem V1 _
        have HJ2 := Lib.hid ((HJ.out.below hv1).below hv2)
        have k0 : V2.cell? ⟨q, 0, none⟩ = some (.int .u8 k) := (cellsAt HJ2.out.hq 0).1
        have k1 : V2.cell? ⟨q, 1, none⟩ = some (.int .i64 j) := (cellsAt HJ2.out.hq 1).1
        have k2 : V2.cell? ⟨q, 2, none⟩ = some (.slice a n c) := (cellsAt HJ2.out.hq 2).1
        have d1 : V2.cell? ⟨vm, 1, none⟩ = some (.slice none 0 0) := (cellsAt HJ2.out.hvm 1).1
        have HDO := Lib.hid (show Calls Tryz.prog 6 #[ptrN vm, .agg #[.int .u8 k, .int .i64 j, .slice a n c]] V2 fun e w' => e = .returned (didV (-1) 0 false 0 0) ∧ Below V2.heap.size V2 w' from doVoid_any (p := vm) d1)
        have HZ2 := Lib.hid hz2
        clear hv1 hv2 hz2 d1 HHI HJ l0
        go_upto_region 11 with fail
        rw [← hV2, ← hhb]
        clear hV2 hhb
        go_wp2_with fail
        refine HDO.out.mono ?_
        rintro e V3 ⟨rfl, hv3⟩
        have HJ3 := Lib.hid (HJ2.out.below hv3)
        have z0 : V3.cell? ⟨hb, 0, none⟩ = some (.slice none 0 0) := (hv3.cell (p := ⟨hb, 0, none⟩) (cell_lt (cellsAt HZ2.out 0).1)).trans (cellsAt HZ2.out 0).1
        have z1 : V3.cell? ⟨hb, 1, none⟩ = some (.slice none 0 0) := (hv3.cell (p := ⟨hb, 1, none⟩) (cell_lt (cellsAt HZ2.out 1).1)).trans (cellsAt HZ2.out 1).1
        have m0 : V3.cell? ⟨vm, 0, none⟩ = some (.pointer none) := (cellsAt HJ3.out.hvm 0).1
        have m1 : V3.cell? ⟨vm, 1, none⟩ = some (.slice none 0 0) := (cellsAt HJ3.out.hvm 1).1
        have HWO := Lib.hid (worldVoid_any (p := vm) m0)
        have HCO := Lib.hid (connsVoid_any (p := vm) m1)
        have HCN := Lib.hid (connVoid_any i (p := vm) m1)
        have HUN := Lib.hid (underVoid_any i (p := vm) m1)
        have HMA := Lib.hid (mayVoid_any i (p := vm) m1)
        clear hv3 m0 m1 k0 k1 k2 HDO HZ2 HJ2 hix
        go_wp2_with fail
        refine HWO.out.mono ?_
        rintro e V4 ⟨rfl, rfl⟩
        go_wp2_with fail
        refine HCO.out.mono ?_
        rintro e V4 ⟨rfl, rfl⟩
        go_wp2_with fail
        refine HCN.out.mono ?_
        rintro e V4 ⟨rfl, rfl⟩
        go_wp2_with fail
        refine HUN.out.mono ?_
        rintro e V4 ⟨rfl, rfl⟩
        go_wp2_with fail
        refine HMA.out.mono ?_
        rintro e V4 ⟨rfl, rfl⟩
        go_wp2_with fail
        go_roundw
        case rel => exact ⟨2, by go_num, by omega, HJ3⟩
        case measure => simp [intOf]
      · clear hk
        have HMZ := Lib.hid (machinesNew_zero wr)
        go_wp2_with fail
        refine HMZ.out.mono ?_
        rintro e V1 ⟨rfl, hv1⟩
        have HJ1 := Lib.hid (HJ.out.below hv1)
        clear hv1 HMZ
        go_wp2_with fail
        refine (HLV.out V1 HJ1.out.low).mono ?_
        rintro e V2 ⟨rfl, hv2⟩
        have HB := Lib.hid (HJ1.out.low.trans (hv2.mono HJ1.out.low.size))
        clear hv2
        go_wp2_with fail
        go_ret
        exact ⟨rfl, HB.out⟩
end Go.Proofs.YtfajddlijgpgoaaGreatDoor
