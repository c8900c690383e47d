/- The law MapsPlay, walked. Condition: the library's tables lie as they are laid. -/
import Derived.Test.YtaooangnnlopcaaGreatDoorMapsPl
namespace Go.Proofs.YtaooangnnlopcaaGreatDoor
open Go.RowKit Go.ChangeMaps Go.MapKept
theorem build_mapR (W : World) : (Instr.build 31 #[]).run Tryz.prog W = .ok (.agg #[.slice none 0 0, .int .u64 0, .int .u64 0]) W := by kernel_rfl
/-- What a drawn region of the law keeps. -/
def PlK (w : World) (p r : Nat) (bs : List (Nat × Array Value × TypeId)) (W : World) : Prop := ∃ mm mr, PlS w W p r mm mr bs
theorem PlS.k {w W : World} {p r : Nat} {mm mr : MapM} {bs : List (Nat × Array Value × TypeId)} (h : PlS w W p r mm mr bs) : PlK w p r bs W := ⟨mm, mr, h⟩
theorem PlK.at {w W : World} {p r : Nat} {bs : List (Nat × Array Value × TypeId)} (h : PlK w p r bs W) {x : Nat × Array Value × TypeId} (hx : x ∈ bs) : W.heap[x.1]? = some (.cells x.2.1 x.2.2 (0, 0)) := by
  obtain ⟨mm, mr, h⟩ := h
  exact (h.kept x hx).2.2
theorem was_key {L : List ItemD} {k : ByteArray} (hk : k.size ≤ maxLen) : (wasL L k).key.size ≤ maxLen := by
  unfold wasL
  cases h : atL L k with
  | none => show 0 ≤ maxLen; omega
  | some x =>
    have := List.find?_some h
    rw [show ((some x).getD noItem).key = k from eq_of_beq this]
    exact hk
set_option maxRecDepth 100000 in
set_option maxHeartbeats 16000000 in
theorem mapsPlay_walk {w : World} {lv : Value} {L : List ActD} (hl : ActRow w lv L) (hE : HasErr w) (hP : HasPow w) : Calls Tryz.prog 3 #[lv] w fun e w' => e = .returned (.bool true) ∧ Below w.heap.size w w' := by
  have HL := Lib.hid hl
  have HE := Lib.hid hE
  have HP := Lib.hid hP
  have hmx := hl.1
  unfold maxLen at hmx
  obtain ⟨-, hsx, la, lc, rfl, hcell⟩ := hl
  have HSX := Lib.hid hsx
  have HC := Lib.hid (fun (j : Nat) (x : ActD) (hj : L[j]? = some x) => ActRow.at (c := lc) hcell hj)
  clear hE hP hsx hcell
  go_enter Tryz.func3, Tryz.ntmps3
  go_wp2_with fail
  refine (great_any HL.out).mono ?_
  rintro e W1 ⟨⟨b, rfl, h120⟩, hb⟩
  have HBW := Lib.hid hb
  have H120 := Lib.hid h120
  have HE1 := Lib.hid (HE.out.below hb)
  have HP1 := Lib.hid (HP.out.below hb)
  clear hb h120 HE HP HL
  cases b
  · have h120 := Lib.hid (H120.out rfl)
    clear H120
    go_wp2_with fail
    refine (mapsNew_own _).mono ?_
    rintro e W2 ⟨rfl, hl⟩
    obtain ⟨p, hp⟩ : ∃ p, p = W1.heap.size := ⟨_, rfl⟩
    rw [← hp] at hl ⊢
    clear hp
    have HLV := Lib.hid hl
    clear hl
    have qb := build_mapR
    go_upto_region 6 with fail
    obtain ⟨W3, hW3⟩ : ∃ Y, Y = W2.alloc (.cells #[.slice none 0 0, .int .u64 0, .int .u64 0] 31) := ⟨_, rfl⟩
    have hps : PlS W1 (W2.alloc (.cells #[.slice none 0 0, .int .u64 0, .int .u64 0] 31)) p W2.heap.size newM newM [] := ⟨HLV.out.below ((Below.refl _ _).alloc (Nat.le_refl _) _), ⟨.slice none 0 0, by rw [heap_at, if_pos rfl]; rfl, IRow.nil _⟩, HLV.out.bel.size, fun x hx => by cases hx⟩
    obtain ⟨r, hr⟩ : ∃ r, r = W2.heap.size := ⟨_, rfl⟩
    rw [← hW3, ← hr] at hps
    rw [← hW3, ← hr]
    have HPL := Lib.hid hps
    clear hps hW3 hr HLV qb
    go_loopw [5] (fun s5 wr => ∃ (i : Nat) (m : MapM), s5 = .int .i64 (i : Int) ∧ i ≤ L.length ∧ Hid (PlS W1 wr p r m m []) ∧ Hid (MOk m i)) (fun s5 _ => L.length - (intOf s5).toNat)
    case atStart => exact ⟨0, newM, rfl, Nat.zero_le _, HPL, Lib.hid MOk.new⟩
    case round =>
      obtain ⟨i, m, rfl, hi, HP0, HM0⟩ := hrel
      clear HPL
      by_cases hlt : i < L.length
      · obtain ⟨x, hx⟩ : ∃ x, L[i]? = some x := ⟨_, List.getElem?_eq_getElem hlt⟩
        obtain ⟨g, b, hix, hcw⟩ := HC.out i x hx
        have hsi := HSX.out x (List.mem_of_getElem? hx)
        have hrng := act_range (hcw wr (HBW.out.trans (HP0.out.lv.bel.mono HBW.out.size)))
        have HCW := Lib.hid (fun W (hb : Below W1.heap.size W1 W) => hcw W (HBW.out.trans (hb.mono HBW.out.size)))
        obtain ⟨kd, c, d0⟩ := x
        simp only at hrng
        have HSI := Lib.hid hsi
        have HLI := Lib.hid (show i ≤ 120 ∧ i < L.length from ⟨by have := h120.out; omega, hlt⟩)
        clear hsi hcw hx
        have hfc : FitC c.call := HSI.out.call
        have HFC := Lib.hid hfc
        have hep : c.epoch < 18446744073709551616 := HSI.out.epoch
        have HEP := Lib.hid hep
        have hkd := HSI.out.kind
        have hdk : d0.key.size ≤ maxLen := HSI.out.key
        have HDK := Lib.hid hdk
        clear hfc hep hdk HSI
        obtain ⟨kn, hkn⟩ : ∃ k : Nat, (k : Int) = kd := ⟨kd.toNat, by have := hkd.1; simp only at this ⊢; omega⟩
        have HKN := Lib.hid (show kn < 256 from by have := hkd.2; simp only at this; omega)
        subst hkn
        clear hkd
        go_upto_region 9 with (first | ((with_reducible show wpList _ _ _ (⟨_, Op.load 42 _, _, _, _, _⟩ :: _) _ _); refine wpList_load_mid (by rfl) 42 (.tmp 36) (by rfl) g (b + 1) (by rfl) _ _ hrng Tryz.underlying42 rfl (by kernel_rfl) ?_) | ((with_reducible show wpList _ _ _ (⟨none, Op.store 42 _ _, _, _, _, _⟩ :: _) _ _); refine wpList_store_whole (by rfl) 42 (.tmp 6) (.tmp 37) (by rfl) wr.heap.size (by rfl) #[.int .i64 c.thread, .int .u8 c.call.verb, .string c.call.key, .string c.call.value, .int .u32 c.call.flags, .int .i64 c.call.exp, .int .u64 c.call.id, .int .u64 c.call.by', .int .i64 c.from', .int .i64 c.till, .int .u8 c.ans.kind, .int .u64 c.ans.number, .string c.ans.item.key, .string c.ans.item.value, .int .u32 c.ans.item.flags, .int .u64 c.ans.item.id, .int .i64 c.ans.item.dies, .int .i64 c.ans.item.gen, .int .u64 (c.epoch : Int), .int .i64 c.point] (by rfl) _ 42 (heap_alloc_new _ _) (by rfl) (by kernel_rfl) (by simp [Value.oneCell']) ?_; intro w2 hr2 hg2 hs2; have HRI := Lib.hid hr2; have HGI := Lib.hid hg2; clear hr2 hg2 hs2) | fail)
        have hp2 := HP0.out.put HRI.out HGI.out (by decide) (by decide)
        obtain ⟨q0, hq⟩ : ∃ q, q = wr.heap.size := ⟨_, rfl⟩
        have HQL0 := Lib.hid (show W1.heap.size ≤ q0 from by rw [hq]; exact HP0.out.lv.bel.size)
        rw [← hq] at hp2 ⊢
        have HP1' := Lib.hid hp2
        clear hp2 hq HRI HGI HP0
        obtain ⟨q0W, rfl⟩ : ∃ Y, Y = w2 := ⟨_, rfl⟩
        clear hrng
        have k1 : q0W.cell? ⟨q0, 1, none⟩ = some (.int .u8 c.call.verb) := (cells_at (HP1'.out.kept _ (.head _)).2.2 1).1
        have k2 : q0W.cell? ⟨q0, 2, none⟩ = some (.string c.call.key) := (cells_at (HP1'.out.kept _ (.head _)).2.2 2).1
        have k3 : q0W.cell? ⟨q0, 3, none⟩ = some (.string c.call.value) := (cells_at (HP1'.out.kept _ (.head _)).2.2 3).1
        have k4 : q0W.cell? ⟨q0, 4, none⟩ = some (.int .u32 c.call.flags) := (cells_at (HP1'.out.kept _ (.head _)).2.2 4).1
        have k5 : q0W.cell? ⟨q0, 5, none⟩ = some (.int .i64 c.call.exp) := (cells_at (HP1'.out.kept _ (.head _)).2.2 5).1
        have k6 : q0W.cell? ⟨q0, 6, none⟩ = some (.int .u64 c.call.id) := (cells_at (HP1'.out.kept _ (.head _)).2.2 6).1
        have k7 : q0W.cell? ⟨q0, 7, none⟩ = some (.int .u64 c.call.by') := (cells_at (HP1'.out.kept _ (.head _)).2.2 7).1
        have k18 : q0W.cell? ⟨q0, 18, none⟩ = some (.int .u64 (c.epoch : Int)) := (cells_at (HP1'.out.kept _ (.head _)).2.2 18).1
        go_wp2_with fail
        refine (mapsGives_any (c := c.call) (ep := c.epoch) HP1'.out.lv.map HM0.out.ep HEP.out HFC.out.key HFC.out.verb HFC.out.exp HFC.out.by' (by have := HM0.out.ids; have := HLI.out; omega) (HE1.out.below HP1'.out.lv.bel) (HP1.out.below HP1'.out.lv.bel)).mono ?_
        rintro e W4 ⟨rfl, hb⟩
        have HP2 := Lib.hid (HP1'.out.below hb)
        clear hb HP1' k1 k2 k3 k4 k5 k6 k7 k18
        have HGR := Lib.hid (fun (W : World) (v : Value) (hr : RMap W r v m) => rGives_any (c := c.call) (ep := c.epoch) hr (Nat.le_trans HM0.out.len (by have := HLI.out; omega)) HM0.out.ep HEP.out HFC.out.key HFC.out.exp HFC.out.by' (by have := HM0.out.ids; have := HLI.out; omega) HM0.out.val)
        obtain ⟨A, hA⟩ : ∃ A, A = ansM m c.call c.epoch := ⟨_, rfl⟩
        obtain ⟨is, his⟩ : ∃ b, b = isM m c.call c.epoch := ⟨_, rfl⟩
        rw [← hA, ← his] at HGR ⊢
        clear hA his
        go_upto_region 10 with (first | ((with_reducible show wpList _ _ _ (⟨none, Op.store 40 _ _, _, _, _, _⟩ :: _) _ _); refine wpList_store_whole (by rfl) 40 (.tmp 7) (.tmp 45) (by rfl) W4.heap.size (by rfl) #[.int .u8 A.kind, .int .u64 A.number, .string A.item.key, .string A.item.value, .int .u32 A.item.flags, .int .u64 A.item.id, .int .i64 A.item.dies, .int .i64 A.item.gen] (by rfl) _ 40 (heap_alloc_new _ _) (by rfl) (by kernel_rfl) (by simp [Value.oneCell']) ?_; intro w2 hr2 hg2 hs2; have HRI := Lib.hid hr2; have HGI := Lib.hid hg2; clear hr2 hg2 hs2) | fail)
        have hp2 := HP2.out.put HRI.out HGI.out (by decide) (by decide)
        obtain ⟨q1, hq⟩ : ∃ q, q = W4.heap.size := ⟨_, rfl⟩
        rw [← hq] at hp2 ⊢
        have HP3 := Lib.hid hp2
        clear hp2 hq HRI HGI HP2
        obtain ⟨q1W, rfl⟩ : ∃ Y, Y = w2 := ⟨_, rfl⟩
        have k1 : q1W.cell? ⟨q0, 1, none⟩ = some (.int .u8 c.call.verb) := (cells_at (HP3.out.kept _ (.tail _ (.head _))).2.2 1).1
        have k2 : q1W.cell? ⟨q0, 2, none⟩ = some (.string c.call.key) := (cells_at (HP3.out.kept _ (.tail _ (.head _))).2.2 2).1
        have k3 : q1W.cell? ⟨q0, 3, none⟩ = some (.string c.call.value) := (cells_at (HP3.out.kept _ (.tail _ (.head _))).2.2 3).1
        have k4 : q1W.cell? ⟨q0, 4, none⟩ = some (.int .u32 c.call.flags) := (cells_at (HP3.out.kept _ (.tail _ (.head _))).2.2 4).1
        have k5 : q1W.cell? ⟨q0, 5, none⟩ = some (.int .i64 c.call.exp) := (cells_at (HP3.out.kept _ (.tail _ (.head _))).2.2 5).1
        have k6 : q1W.cell? ⟨q0, 6, none⟩ = some (.int .u64 c.call.id) := (cells_at (HP3.out.kept _ (.tail _ (.head _))).2.2 6).1
        have k7 : q1W.cell? ⟨q0, 7, none⟩ = some (.int .u64 c.call.by') := (cells_at (HP3.out.kept _ (.tail _ (.head _))).2.2 7).1
        have k18 : q1W.cell? ⟨q0, 18, none⟩ = some (.int .u64 (c.epoch : Int)) := (cells_at (HP3.out.kept _ (.tail _ (.head _))).2.2 18).1
        go_wp2_with fail
        obtain ⟨v3, hv3⟩ := HP3.out.ref
        refine (HGR.out _ v3 hv3).mono ?_
        rintro e W5 ⟨rfl, hb⟩
        have HP4 := Lib.hid (HP3.out.below hb)
        clear hb HP3 HGR hv3 k1 k2 k3 k4 k5 k6 k7 k18
        go_upto_region 11 with (first | ((with_reducible show wpList _ _ _ (⟨none, Op.store 40 _ _, _, _, _, _⟩ :: _) _ _); refine wpList_store_whole (by rfl) 40 (.tmp 9) (.tmp 54) (by rfl) W5.heap.size (by rfl) #[.int .u8 A.kind, .int .u64 A.number, .string A.item.key, .string A.item.value, .int .u32 A.item.flags, .int .u64 A.item.id, .int .i64 A.item.dies, .int .i64 A.item.gen] (by rfl) _ 40 (heap_alloc_new _ _) (by rfl) (by kernel_rfl) (by simp [Value.oneCell']) ?_; intro w2 hr2 hg2 hs2; have HRI := Lib.hid hr2; have HGI := Lib.hid hg2; clear hr2 hg2 hs2) | fail)
        have hp2 := HP4.out.put HRI.out HGI.out (by decide) (by decide)
        obtain ⟨q2, hq⟩ : ∃ q, q = W5.heap.size := ⟨_, rfl⟩
        rw [← hq] at hp2 ⊢
        have HP5 := Lib.hid hp2
        clear hp2 hq HRI HGI HP4
        obtain ⟨q2W, rfl⟩ : ∃ Y, Y = w2 := ⟨_, rfl⟩
        have qn : ∀ W : World, (binOp .neq 40 (.agg #[.int .u8 A.kind, .int .u64 A.number, .string A.item.key, .string A.item.value, .int .u32 A.item.flags, .int .u64 A.item.id, .int .i64 A.item.dies, .int .i64 A.item.gen]) (.agg #[.int .u8 A.kind, .int .u64 A.number, .string A.item.key, .string A.item.value, .int .u32 A.item.flags, .int .u64 A.item.id, .int .i64 A.item.dies, .int .i64 A.item.gen])).run Tryz.prog W = .ok (.bool false) W := fun W => by have h := run_ans_ne A A W; rw [decide_eq_true rfl] at h; exact h
        have y0 : q2W.cell? ⟨q1, 0, none⟩ = some (.int .u8 A.kind) := (cells_at (HP5.out.kept _ (.tail _ (.head _))).2.2 0).1
        have z0 : q2W.cell? ⟨q2, 0, none⟩ = some (.int .u8 A.kind) := (cells_at (HP5.out.kept _ (.head _)).2.2 0).1
        have y1 : q2W.cell? ⟨q1, 1, none⟩ = some (.int .u64 A.number) := (cells_at (HP5.out.kept _ (.tail _ (.head _))).2.2 1).1
        have z1 : q2W.cell? ⟨q2, 1, none⟩ = some (.int .u64 A.number) := (cells_at (HP5.out.kept _ (.head _)).2.2 1).1
        have y2 : q2W.cell? ⟨q1, 2, none⟩ = some (.string A.item.key) := (cells_at (HP5.out.kept _ (.tail _ (.head _))).2.2 2).1
        have z2 : q2W.cell? ⟨q2, 2, none⟩ = some (.string A.item.key) := (cells_at (HP5.out.kept _ (.head _)).2.2 2).1
        have y3 : q2W.cell? ⟨q1, 3, none⟩ = some (.string A.item.value) := (cells_at (HP5.out.kept _ (.tail _ (.head _))).2.2 3).1
        have z3 : q2W.cell? ⟨q2, 3, none⟩ = some (.string A.item.value) := (cells_at (HP5.out.kept _ (.head _)).2.2 3).1
        have y4 : q2W.cell? ⟨q1, 4, none⟩ = some (.int .u32 A.item.flags) := (cells_at (HP5.out.kept _ (.tail _ (.head _))).2.2 4).1
        have z4 : q2W.cell? ⟨q2, 4, none⟩ = some (.int .u32 A.item.flags) := (cells_at (HP5.out.kept _ (.head _)).2.2 4).1
        have y5 : q2W.cell? ⟨q1, 5, none⟩ = some (.int .u64 A.item.id) := (cells_at (HP5.out.kept _ (.tail _ (.head _))).2.2 5).1
        have z5 : q2W.cell? ⟨q2, 5, none⟩ = some (.int .u64 A.item.id) := (cells_at (HP5.out.kept _ (.head _)).2.2 5).1
        have y6 : q2W.cell? ⟨q1, 6, none⟩ = some (.int .i64 A.item.dies) := (cells_at (HP5.out.kept _ (.tail _ (.head _))).2.2 6).1
        have z6 : q2W.cell? ⟨q2, 6, none⟩ = some (.int .i64 A.item.dies) := (cells_at (HP5.out.kept _ (.head _)).2.2 6).1
        have y7 : q2W.cell? ⟨q1, 7, none⟩ = some (.int .i64 A.item.gen) := (cells_at (HP5.out.kept _ (.tail _ (.head _))).2.2 7).1
        have z7 : q2W.cell? ⟨q2, 7, none⟩ = some (.int .i64 A.item.gen) := (cells_at (HP5.out.kept _ (.head _)).2.2 7).1
        have hk0 : q2W.cell? ⟨g, b, none⟩ = some (.int .u8 (kn : Int)) := HCW.out _ HP5.out.lv.bel 0 _ rfl
        obtain ⟨t, ht⟩ : ∃ t, t = kn % 6 := ⟨_, rfl⟩
        have t1 : (kn : Int) % 6 = (t : Int) := by omega
        have t2 : (kn : Int).tmod 6 = (t : Int) := by rw [Int.tmod_eq_emod_of_nonneg (by omega)]; exact t1
        have hkp : (0 : Int) ≤ (kn : Int) := by omega
        clear ht
        go_upto_region 13 with fail
        clear qn y0 z0 y1 z1 y2 z2 y3 z3 y4 z4 y5 z5 y6 z6 y7 z7
        have HP6 := Lib.hid (show PlS W1 q2W p r m m [(q2, #[.int .u8 A.kind, .int .u64 A.number, .string A.item.key, .string A.item.value, .int .u32 A.item.flags, .int .u64 A.item.id, .int .i64 A.item.dies, .int .i64 A.item.gen], 40), (q0, #[.int .i64 c.thread, .int .u8 c.call.verb, .string c.call.key, .string c.call.value, .int .u32 c.call.flags, .int .i64 c.call.exp, .int .u64 c.call.id, .int .u64 c.call.by', .int .i64 c.from', .int .i64 c.till, .int .u8 c.ans.kind, .int .u64 c.ans.number, .string c.ans.item.key, .string c.ans.item.value, .int .u32 c.ans.item.flags, .int .u64 c.ans.item.id, .int .i64 c.ans.item.dies, .int .i64 c.ans.item.gen, .int .u64 (c.epoch : Int), .int .i64 c.point], 42)] from ⟨HP5.out.lv, HP5.out.ref, HP5.out.rlow, fun x hx => by
          rcases List.mem_cons.1 hx with rfl | hx
          · exact HP5.out.kept _ (.head _)
          · obtain rfl : x = (q0, #[.int .i64 c.thread, .int .u8 c.call.verb, .string c.call.key, .string c.call.value, .int .u32 c.call.flags, .int .i64 c.call.exp, .int .u64 c.call.id, .int .u64 c.call.by', .int .i64 c.from', .int .i64 c.till, .int .u8 c.ans.kind, .int .u64 c.ans.number, .string c.ans.item.key, .string c.ans.item.value, .int .u32 c.ans.item.flags, .int .u64 c.ans.item.id, .int .i64 c.ans.item.dies, .int .i64 c.ans.item.gen, .int .u64 (c.epoch : Int), .int .i64 c.point], 42) := by simpa using hx
            exact HP5.out.kept _ (.tail _ (.tail _ (.head _)))⟩)
        clear HP5
        by_cases h0 : t = 0
        · subst h0
          have t3 : (kn : Int).tmod 6 = 0 := t2
          have t4 : (kn : Int) % 6 = 0 := t1
          clear t1 t2
          go_upto_region 18 with fail
          clear t3 t4
          have hd1 : q2W.cell? ⟨g, b + 21, none⟩ = some (.string d0.key) := HCW.out _ HP6.out.lv.bel 21 _ rfl
          go_wp2_with fail
          obtain ⟨v6, hv6⟩ := HP6.out.ref
          refine (rAtM_any (k := d0.key) hv6).mono ?_
          rintro e W7 ⟨rfl, hb⟩
          have HP7 := Lib.hid (HP6.out.below hb)
          have hk0' := (hb.cell (cell_lt hk0)).trans hk0
          have hwk : (wasL m.L d0.key).key.size ≤ maxLen := was_key HDK.out
          obtain ⟨u0, hu0⟩ : ∃ y, y = wasL m.L d0.key := ⟨_, rfl⟩
          rw [← hu0] at hwk ⊢
          have HWK := Lib.hid hwk
          clear hb hv6 HP6 hd1 hk0 hwk hu0
          go_upto_region 19 with (first | ((with_reducible show wpList _ _ _ (⟨none, Op.store 38 _ _, _, _, _, _⟩ :: _) _ _); refine wpList_store_whole (by rfl) 38 (.tmp 11) (.tmp 91) (by rfl) W7.heap.size (by rfl) #[.string u0.key, .string u0.value, .int .u32 u0.flags, .int .u64 u0.id, .int .i64 u0.dies, .int .i64 u0.gen] (by rfl) _ 38 (heap_alloc_new _ _) (by rfl) (by kernel_rfl) (by simp [Value.oneCell']) ?_; intro w2 hr2 hg2 hs2; have HRI := Lib.hid hr2; have HGI := Lib.hid hg2; clear hr2 hg2 hs2) | fail)
          have hb3 : Below W7.heap.size W7 w2 := grown_below ((Below.refl _ _).alloc (Nat.le_refl _) _) (by rw [size_at]; omega) HGI.out (fun k hk => by cases hk; exact Nat.le_refl _)
          have hk0 := (hb3.cell (cell_lt hk0')).trans hk0'
          have hp2 := HP7.out.put HRI.out HGI.out (by decide) (by decide)
          obtain ⟨q3, hq⟩ : ∃ q, q = W7.heap.size := ⟨_, rfl⟩
          have HB78 := Lib.hid hb3
          have HQ3 := Lib.hid hq
          rw [← hq] at hp2 ⊢
          have HP8 := Lib.hid hp2
          clear hp2 hq hb3 hk0' HRI HGI
          obtain ⟨W8, rfl⟩ : ∃ Y, Y = w2 := ⟨_, rfl⟩
          go_upto_if 98 with fail
          go_cut [99, 100, 101, 102, 103] (fun _ _ _ _ _ wx => ∃ d : ItemD, d.key.size ≤ maxLen ∧ PlS W1 wx p r m m [(q3, #[.string d.key, .string d.value, .int .u32 d.flags, .int .u64 d.id, .int .i64 d.dies, .int .i64 d.gen], 38), (q2, #[.int .u8 A.kind, .int .u64 A.number, .string A.item.key, .string A.item.value, .int .u32 A.item.flags, .int .u64 A.item.id, .int .i64 A.item.dies, .int .i64 A.item.gen], 40), (q0, #[.int .i64 c.thread, .int .u8 c.call.verb, .string c.call.key, .string c.call.value, .int .u32 c.call.flags, .int .i64 c.call.exp, .int .u64 c.call.id, .int .u64 c.call.by', .int .i64 c.from', .int .i64 c.till, .int .u8 c.ans.kind, .int .u64 c.ans.number, .string c.ans.item.key, .string c.ans.item.value, .int .u32 c.ans.item.flags, .int .u64 c.ans.item.id, .int .i64 c.ans.item.dies, .int .i64 c.ans.item.gen, .int .u64 (c.epoch : Int), .int .i64 c.point], 42)])
          case first =>
            have hri := act_item (x := ⟨(kn : Int), c, d0⟩) (HCW.out _ HP8.out.lv.bel)
            simp only at hri
            have hbx := (HP8.out.kept _ (.head _)).2.2
            by_cases h128 : 128 ≤ kn
            · have d1 : decide ((128 : Int) ≤ (kn : Int)) = true := by rw [decide_eq_true_eq]; omega
              have d2 : decide (128 ≤ kn) = true := by rw [decide_eq_true_eq]; omega
              go_wp2_with (first | ((with_reducible show wpList _ _ _ (⟨_, Op.load 38 _, _, _, _, _⟩ :: _) _ _); refine wpList_load_mid (by rfl) 38 (.tmp 102) (by rfl) g (b + 21) (by rfl) _ _ hri Tryz.underlying38 rfl (by kernel_rfl) ?_) | ((with_reducible show wpList _ _ _ (⟨none, Op.store 38 _ _, _, _, _, _⟩ :: _) _ _); refine wpList_store_whole (by rfl) 38 (.tmp 11) (.tmp 103) (by rfl) q3 (by rfl) #[.string d0.key, .string d0.value, .int .u32 d0.flags, .int .u64 d0.id, .int .i64 d0.dies, .int .i64 d0.gen] (by rfl) _ 38 hbx (by rfl) (by kernel_rfl) (by simp [Value.oneCell']) ?_; intro w2 hr2 hg2 hs2; have HRI := Lib.hid hr2; have HGI := Lib.hid hg2; clear hr2 hg2 hs2) | fail)
              go_meet
              case rel => exact ⟨d0, HDK.out, (HP7.out.below (below_grown HB78.out HB78.out.size HGI.out (by rw [HQ3.out]; exact Nat.le_refl _))).add HRI.out (by decide) (by decide)⟩
            · have d1 : decide ((128 : Int) ≤ (kn : Int)) = false := by rw [decide_eq_false_iff_not]; omega
              have d2 : decide (128 ≤ kn) = false := by rw [decide_eq_false_iff_not]; omega
              clear hri hbx
              go_wp2_with fail
              go_meet
              case rel => exact ⟨u0, HWK.out, HP8.out⟩
          case rest =>
            obtain ⟨d, hdk, hpd⟩ := hcut
            obtain ⟨W9, rfl⟩ : ∃ Y, Y = wc := ⟨_, rfl⟩
            have HP9 := Lib.hid hpd
            have HDD := Lib.hid hdk
            clear hpd hdk HP8 HQ3 HWK hk0 HP7 HB78
            have hmo := HM0.out.drop d
            obtain ⟨⟨fb, m2⟩, hf⟩ : ∃ y, y = dropM m d := ⟨_, rfl⟩
            rw [← hf] at hmo
            have HMO := Lib.hid hmo
            have HFF := Lib.hid hf
            clear hmo hf
            go_upto_region 21 with fail
            have HD0 := Lib.hid (HP9.out.below (bdrew (Below.refl _ _)))
            refine wp_region_held_drew (S := PlK W1 p r [(q3, #[.string d.key, .string d.value, .int .u32 d.flags, .int .u64 d.id, .int .i64 d.dies, .int .i64 d.gen], 38), (q2, #[.int .u8 A.kind, .int .u64 A.number, .string A.item.key, .string A.item.value, .int .u32 A.item.flags, .int .u64 A.item.id, .int .i64 A.item.dies, .int .i64 A.item.gen], 40), (q0, #[.int .i64 c.thread, .int .u8 c.call.verb, .string c.call.key, .string c.call.value, .int .u32 c.call.flags, .int .i64 c.call.exp, .int .u64 c.call.id, .int .u64 c.call.by', .int .i64 c.from', .int .i64 c.till, .int .u8 c.ans.kind, .int .u64 c.ans.number, .string c.ans.item.key, .string c.ans.item.value, .int .u32 c.ans.item.flags, .int .u64 c.ans.item.id, .int .i64 c.ans.item.dies, .int .i64 c.ans.item.gen, .int .u64 (c.epoch : Int), .int .i64 c.point], 42)]) (by kernel_rfl) HD0.out.k (fun hHeld => ?_)
            refine wpAnyH_take (i := 0) (v := ?_) rfl (by kernel_rfl) (by kernel_rfl) (by kernel_rfl) (fun _ _ _ h => h) (Or.inl ⟨by rfl, ?_⟩) (by assumption) ?_
            rotate_left 1
            · ((intro w hSw; (try dsimp only at hSw); go_simp) <;> with_reducible rfl)
            try simp only [Act.put, List.setIfInBounds_toArray, List.set_cons_zero, List.set_cons_succ, List.getElem_toArray, List.getElem_cons_zero]
            refine wpAnyH_take (i := 1) rfl (by kernel_rfl) (by kernel_rfl) (by kernel_rfl) (fun _ _ _ h => h) (yieldsIf_load_mid (by rfl) 38 (.tmp 11) (by rfl) q3 0 (by rfl) [.string d.key, .string d.value, .int .u32 d.flags, .int .u64 d.id, .int .i64 d.dies, .int .i64 d.gen] _ (fun w hSw => range_block (PlK.at hSw (.head _))) Tryz.underlying38 rfl (by kernel_rfl)) (by assumption) ?_
            try simp only [Act.put, List.setIfInBounds_toArray, List.set_cons_zero, List.set_cons_succ, List.getElem_toArray, List.getElem_cons_zero, List.getElem_cons_succ]
            refine wpAnyH_take (i := 3) (v := ?_) rfl (by kernel_rfl) (by kernel_rfl) (by kernel_rfl) (fun _ _ _ h => h) (Or.inl ⟨by rfl, ?_⟩) (by assumption) ?_
            rotate_left 1
            · ((intro w hSw; (try dsimp only at hSw); go_simp) <;> with_reducible rfl)
            try simp only [Act.put, List.setIfInBounds_toArray, List.set_cons_zero, List.set_cons_succ, List.getElem_toArray, List.getElem_cons_zero, List.getElem_cons_succ]
            refine wpAnyH_take (i := 4) rfl (by kernel_rfl) (by kernel_rfl) (by kernel_rfl) (fun _ _ _ h => h) (yieldsIf_load_mid (by rfl) 38 (.tmp 11) (by rfl) q3 0 (by rfl) [.string d.key, .string d.value, .int .u32 d.flags, .int .u64 d.id, .int .i64 d.dies, .int .i64 d.gen] _ (fun w hSw => range_block (PlK.at hSw (.head _))) Tryz.underlying38 rfl (by kernel_rfl)) (by assumption) ?_
            try simp only [Act.put, List.setIfInBounds_toArray, List.set_cons_zero, List.set_cons_succ, List.getElem_toArray, List.getElem_cons_zero, List.getElem_cons_succ]
            refine wpAnyH_ready (rs := [2]) (by kernel_rfl) (by simp) ?_
            refine (AllReadyH.cons rfl (fun K hK => ?_) AllReadyH.nil)
            go_simp
            go_at_call 12
            refine (mapsDrop_any HD0.out.lv.map HDD.out).mono ?_
            rintro e V2 ⟨rfl, hm2, hc2⟩
            have hp2 := HD0.out.stepM hm2 hc2
            rw [← HFF.out] at hp2 ⊢
            simp only at hp2 ⊢
            have HD2 := Lib.hid hp2
            clear hm2 hc2 hp2
            refine hK.out _ _ HD2.out.k (fun hHeld2 => ?_)
            clear hK K
            try simp only [Act.put, List.setIfInBounds_toArray, List.set_cons_zero, List.set_cons_succ, List.getElem_toArray, List.getElem_cons_zero, List.getElem_cons_succ]
            refine wpAnyH_ready (rs := [5]) (by kernel_rfl) (by simp) ?_
            refine (AllReadyH.cons rfl (fun K hK => ?_) AllReadyH.nil)
            go_simp
            go_at_call 13
            obtain ⟨v5, hv5⟩ := HD2.out.ref
            refine (rDrop_any (x := d) hv5 (Nat.le_trans HM0.out.len (by have := HLI.out; omega))).mono ?_
            rintro e V6 ⟨rfl, hr6, hc6⟩
            have hp6 := HD2.out.stepR hr6 hc6
            rw [← HFF.out] at hp6 ⊢
            simp only at hp6 ⊢
            have HD6 := Lib.hid hp6
            clear hr6 hc6 hp6 hv5
            refine hK.out _ _ HD6.out.k (fun hHeld2 => ?_)
            clear hK K
            try simp only [Act.put, List.setIfInBounds_toArray, List.set_cons_zero, List.set_cons_succ, List.getElem_toArray, List.getElem_cons_zero, List.getElem_cons_succ]
            refine wpAnyH_take (i := 6) (v := ?_) rfl (by kernel_rfl) (by kernel_rfl) (by kernel_rfl) (fun _ _ _ h => h) (Or.inl ⟨by rfl, ?_⟩) (by assumption) ?_
            rotate_left 1
            · ((intro w hSw; (try dsimp only at hSw); go_simp) <;> with_reducible rfl)
            try simp only [Act.put, List.setIfInBounds_toArray, List.set_cons_zero, List.set_cons_succ, List.getElem_toArray, List.getElem_cons_zero, List.getElem_cons_succ]
            refine wpAnyH_done (by kernel_rfl) ?_ _
            clear hHeld hHeld2 HD0 HD2 HFF HP9
            have HQ0 := Lib.hid (show V6.cell? ⟨q0, 2, none⟩ = some (.string c.call.key) from (cells_at (HD6.out.kept _ (.tail _ (.tail _ (.head _)))).2.2 2).1)
            have HT0 := Lib.hid (show PlS W1 V6 p r m2 m2 [] from HD6.out.none)
            have hd1 : V6.cell? ⟨g, b + 21, none⟩ = some (.string d0.key) := HCW.out _ HD6.out.lv.bel 21 _ rfl
            have hc2 : V6.cell? ⟨q0, 2, none⟩ = some (.string c.call.key) := HQ0.out
            obtain ⟨u1, hu1⟩ : ∃ y, y = wasL m2.L d0.key := ⟨_, rfl⟩
            obtain ⟨b1, hb1⟩ : ∃ y, y = (atL m2.L d0.key).isSome := ⟨_, rfl⟩
            obtain ⟨u2, hu2⟩ : ∃ y, y = wasL m2.L c.call.key := ⟨_, rfl⟩
            obtain ⟨b2, hb2⟩ : ∃ y, y = (atL m2.L c.call.key).isSome := ⟨_, rfl⟩
            have HA1 := Lib.hid (fun (W : World) (hm : MapAt W p m2) => (show Calls Tryz.prog 17 #[.pointer (some ⟨p, 0, none⟩), .string d0.key] W fun e w' => e = .returned (.tuple #[.agg #[.string u1.key, .string u1.value, .int .u32 u1.flags, .int .u64 u1.id, .int .i64 u1.dies, .int .i64 u1.gen], .bool b1]) ∧ Below W.heap.size W w' from by rw [hu1, hb1]; exact mapsAt_any hm HDK.out))
            have HA2 := Lib.hid (fun (W : World) (v : Value) (hr : RMap W r v m2) => (show Calls Tryz.prog 11 #[.pointer (some ⟨r, 0, none⟩), .string d0.key] W fun e w' => e = .returned (.tuple #[.agg #[.string u1.key, .string u1.value, .int .u32 u1.flags, .int .u64 u1.id, .int .i64 u1.dies, .int .i64 u1.gen], .bool b1]) ∧ Below W.heap.size W w' from by rw [hu1, hb1]; exact rAtM_any hr))
            have HA3 := Lib.hid (fun (W : World) (hm : MapAt W p m2) => (show Calls Tryz.prog 17 #[.pointer (some ⟨p, 0, none⟩), .string c.call.key] W fun e w' => e = .returned (.tuple #[.agg #[.string u2.key, .string u2.value, .int .u32 u2.flags, .int .u64 u2.id, .int .i64 u2.dies, .int .i64 u2.gen], .bool b2]) ∧ Below W.heap.size W w' from by rw [hu2, hb2]; exact mapsAt_any hm HFC.out.key))
            have HA4 := Lib.hid (fun (W : World) (v : Value) (hr : RMap W r v m2) => (show Calls Tryz.prog 11 #[.pointer (some ⟨r, 0, none⟩), .string c.call.key] W fun e w' => e = .returned (.tuple #[.agg #[.string u2.key, .string u2.value, .int .u32 u2.flags, .int .u64 u2.id, .int .i64 u2.dies, .int .i64 u2.gen], .bool b2]) ∧ Below W.heap.size W w' from by rw [hu2, hb2]; exact rAtM_any hr))
            clear hu1 hb1 hu2 hb2
            go_upto_region 26 with fail
            go_wp2_with fail
            refine (HA1.out _ HT0.out.lv.map).mono ?_
            rintro e T0 ⟨rfl, hb⟩
            have HT0' := Lib.hid (HT0.out.below hb)
            have hd2 := (hb.cell (cell_lt hd1)).trans hd1
            have hc3 := (hb.cell (cell_lt hc2)).trans hc2
            clear hb hd1 hc2 HT0
            go_upto_region 27 with (first | ((with_reducible show wpList _ _ _ (⟨none, Op.store 38 _ _, _, _, _, _⟩ :: _) _ _); refine wpList_store_whole (by rfl) 38 (.tmp 13) (.tmp 130) (by rfl) T0.heap.size (by rfl) #[.string u1.key, .string u1.value, .int .u32 u1.flags, .int .u64 u1.id, .int .i64 u1.dies, .int .i64 u1.gen] (by rfl) _ 38 (heap_alloc_new _ _) (by rfl) (by kernel_rfl) (by simp [Value.oneCell']) ?_; intro w2 hr2 hg2 hs2; have HRI := Lib.hid hr2; have HGI := Lib.hid hg2; clear hr2 hg2 hs2) | fail)
            have hb3 : Below T0.heap.size T0 w2 := grown_below ((Below.refl _ _).alloc (Nat.le_refl _) _) (by rw [size_at]; omega) HGI.out (fun k hk => by cases hk; exact Nat.le_refl _)
            have hd1 := (hb3.cell (cell_lt hd2)).trans hd2
            have hc2 := (hb3.cell (cell_lt hc3)).trans hc3
            have hp2 := HT0'.out.put HRI.out HGI.out (by decide) (by decide)
            obtain ⟨s0, hq⟩ : ∃ q, q = T0.heap.size := ⟨_, rfl⟩
            rw [← hq] at hp2 ⊢
            have HU0 := Lib.hid hp2
            clear hp2 hq hb3 hd2 hc3 HRI HGI HT0'
            obtain ⟨s0W, rfl⟩ : ∃ Y, Y = w2 := ⟨_, rfl⟩
            go_wp2_with fail
            obtain ⟨vv1, hvv⟩ := HU0.out.ref
            refine (HA2.out _ vv1 hvv).mono ?_
            rintro e T1 ⟨rfl, hb⟩
            have HT1' := Lib.hid (HU0.out.below hb)
            have hd2 := (hb.cell (cell_lt hd1)).trans hd1
            have hc3 := (hb.cell (cell_lt hc2)).trans hc2
            clear hb hd1 hc2 HU0 hvv
            go_upto_region 28 with (first | ((with_reducible show wpList _ _ _ (⟨none, Op.store 38 _ _, _, _, _, _⟩ :: _) _ _); refine wpList_store_whole (by rfl) 38 (.tmp 15) (.tmp 141) (by rfl) T1.heap.size (by rfl) #[.string u1.key, .string u1.value, .int .u32 u1.flags, .int .u64 u1.id, .int .i64 u1.dies, .int .i64 u1.gen] (by rfl) _ 38 (heap_alloc_new _ _) (by rfl) (by kernel_rfl) (by simp [Value.oneCell']) ?_; intro w2 hr2 hg2 hs2; have HRI := Lib.hid hr2; have HGI := Lib.hid hg2; clear hr2 hg2 hs2) | fail)
            have hb3 : Below T1.heap.size T1 w2 := grown_below ((Below.refl _ _).alloc (Nat.le_refl _) _) (by rw [size_at]; omega) HGI.out (fun k hk => by cases hk; exact Nat.le_refl _)
            have hd1 := (hb3.cell (cell_lt hd2)).trans hd2
            have hc2 := (hb3.cell (cell_lt hc3)).trans hc3
            have hp2 := HT1'.out.put HRI.out HGI.out (by decide) (by decide)
            obtain ⟨s1, hq⟩ : ∃ q, q = T1.heap.size := ⟨_, rfl⟩
            rw [← hq] at hp2 ⊢
            have HU1 := Lib.hid hp2
            clear hp2 hq hb3 hd2 hc3 HRI HGI HT1'
            obtain ⟨s1W, rfl⟩ : ∃ Y, Y = w2 := ⟨_, rfl⟩
            go_wp2_with fail
            refine (HA3.out _ HU1.out.lv.map).mono ?_
            rintro e T2 ⟨rfl, hb⟩
            have HT2' := Lib.hid (HU1.out.below hb)
            have hd2 := (hb.cell (cell_lt hd1)).trans hd1
            have hc3 := (hb.cell (cell_lt hc2)).trans hc2
            clear hb hd1 hc2 HU1
            go_upto_region 29 with (first | ((with_reducible show wpList _ _ _ (⟨none, Op.store 38 _ _, _, _, _, _⟩ :: _) _ _); refine wpList_store_whole (by rfl) 38 (.tmp 17) (.tmp 149) (by rfl) T2.heap.size (by rfl) #[.string u2.key, .string u2.value, .int .u32 u2.flags, .int .u64 u2.id, .int .i64 u2.dies, .int .i64 u2.gen] (by rfl) _ 38 (heap_alloc_new _ _) (by rfl) (by kernel_rfl) (by simp [Value.oneCell']) ?_; intro w2 hr2 hg2 hs2; have HRI := Lib.hid hr2; have HGI := Lib.hid hg2; clear hr2 hg2 hs2) | fail)
            have hb3 : Below T2.heap.size T2 w2 := grown_below ((Below.refl _ _).alloc (Nat.le_refl _) _) (by rw [size_at]; omega) HGI.out (fun k hk => by cases hk; exact Nat.le_refl _)
            have hd1 := (hb3.cell (cell_lt hd2)).trans hd2
            have hc2 := (hb3.cell (cell_lt hc3)).trans hc3
            have hp2 := HT2'.out.put HRI.out HGI.out (by decide) (by decide)
            obtain ⟨s2, hq⟩ : ∃ q, q = T2.heap.size := ⟨_, rfl⟩
            rw [← hq] at hp2 ⊢
            have HU2 := Lib.hid hp2
            clear hp2 hq hb3 hd2 hc3 HRI HGI HT2'
            obtain ⟨s2W, rfl⟩ : ∃ Y, Y = w2 := ⟨_, rfl⟩
            go_wp2_with fail
            obtain ⟨vv3, hvv⟩ := HU2.out.ref
            refine (HA4.out _ vv3 hvv).mono ?_
            rintro e T3 ⟨rfl, hb⟩
            have HT3' := Lib.hid (HU2.out.below hb)
            have hd2 := (hb.cell (cell_lt hd1)).trans hd1
            have hc3 := (hb.cell (cell_lt hc2)).trans hc2
            clear hb hd1 hc2 HU2 hvv
            go_upto_region 30 with (first | ((with_reducible show wpList _ _ _ (⟨none, Op.store 38 _ _, _, _, _, _⟩ :: _) _ _); refine wpList_store_whole (by rfl) 38 (.tmp 19) (.tmp 157) (by rfl) T3.heap.size (by rfl) #[.string u2.key, .string u2.value, .int .u32 u2.flags, .int .u64 u2.id, .int .i64 u2.dies, .int .i64 u2.gen] (by rfl) _ 38 (heap_alloc_new _ _) (by rfl) (by kernel_rfl) (by simp [Value.oneCell']) ?_; intro w2 hr2 hg2 hs2; have HRI := Lib.hid hr2; have HGI := Lib.hid hg2; clear hr2 hg2 hs2) | fail)
            have hb3 : Below T3.heap.size T3 w2 := grown_below ((Below.refl _ _).alloc (Nat.le_refl _) _) (by rw [size_at]; omega) HGI.out (fun k hk => by cases hk; exact Nat.le_refl _)
            have hd1 := (hb3.cell (cell_lt hd2)).trans hd2
            have hc2 := (hb3.cell (cell_lt hc3)).trans hc3
            have hp2 := HT3'.out.put HRI.out HGI.out (by decide) (by decide)
            obtain ⟨s3, hq⟩ : ∃ q, q = T3.heap.size := ⟨_, rfl⟩
            rw [← hq] at hp2 ⊢
            have HU3 := Lib.hid hp2
            clear hp2 hq hb3 hd2 hc3 HRI HGI HT3'
            obtain ⟨s3W, rfl⟩ : ∃ Y, Y = w2 := ⟨_, rfl⟩
            clear hd1 hc2 HA1 HA2 HA3 HA4
            have qu1 : ∀ W : World, (binOp .neq 38 (.agg #[.string u1.key, .string u1.value, .int .u32 u1.flags, .int .u64 u1.id, .int .i64 u1.dies, .int .i64 u1.gen]) (.agg #[.string u1.key, .string u1.value, .int .u32 u1.flags, .int .u64 u1.id, .int .i64 u1.dies, .int .i64 u1.gen])).run Tryz.prog W = .ok (.bool false) W := fun W => by have h := run_item_ne u1 u1 W; rw [decide_eq_true rfl] at h; exact h
            have qu2 : ∀ W : World, (binOp .neq 38 (.agg #[.string u2.key, .string u2.value, .int .u32 u2.flags, .int .u64 u2.id, .int .i64 u2.dies, .int .i64 u2.gen]) (.agg #[.string u2.key, .string u2.value, .int .u32 u2.flags, .int .u64 u2.id, .int .i64 u2.dies, .int .i64 u2.gen])).run Tryz.prog W = .ok (.bool false) W := fun W => by have h := run_item_ne u2 u2 W; rw [decide_eq_true rfl] at h; exact h
            have e00 : s3W.cell? ⟨s0, 0, none⟩ = some (.string u1.key) := (cells_at (HU3.out.kept _ (.tail _ (.tail _ (.tail _ (.head _))))).2.2 0).1
            have e01 : s3W.cell? ⟨s0, 1, none⟩ = some (.string u1.value) := (cells_at (HU3.out.kept _ (.tail _ (.tail _ (.tail _ (.head _))))).2.2 1).1
            have e02 : s3W.cell? ⟨s0, 2, none⟩ = some (.int .u32 u1.flags) := (cells_at (HU3.out.kept _ (.tail _ (.tail _ (.tail _ (.head _))))).2.2 2).1
            have e03 : s3W.cell? ⟨s0, 3, none⟩ = some (.int .u64 u1.id) := (cells_at (HU3.out.kept _ (.tail _ (.tail _ (.tail _ (.head _))))).2.2 3).1
            have e04 : s3W.cell? ⟨s0, 4, none⟩ = some (.int .i64 u1.dies) := (cells_at (HU3.out.kept _ (.tail _ (.tail _ (.tail _ (.head _))))).2.2 4).1
            have e05 : s3W.cell? ⟨s0, 5, none⟩ = some (.int .i64 u1.gen) := (cells_at (HU3.out.kept _ (.tail _ (.tail _ (.tail _ (.head _))))).2.2 5).1
            have e10 : s3W.cell? ⟨s1, 0, none⟩ = some (.string u1.key) := (cells_at (HU3.out.kept _ (.tail _ (.tail _ (.head _)))).2.2 0).1
            have e11 : s3W.cell? ⟨s1, 1, none⟩ = some (.string u1.value) := (cells_at (HU3.out.kept _ (.tail _ (.tail _ (.head _)))).2.2 1).1
            have e12 : s3W.cell? ⟨s1, 2, none⟩ = some (.int .u32 u1.flags) := (cells_at (HU3.out.kept _ (.tail _ (.tail _ (.head _)))).2.2 2).1
            have e13 : s3W.cell? ⟨s1, 3, none⟩ = some (.int .u64 u1.id) := (cells_at (HU3.out.kept _ (.tail _ (.tail _ (.head _)))).2.2 3).1
            have e14 : s3W.cell? ⟨s1, 4, none⟩ = some (.int .i64 u1.dies) := (cells_at (HU3.out.kept _ (.tail _ (.tail _ (.head _)))).2.2 4).1
            have e15 : s3W.cell? ⟨s1, 5, none⟩ = some (.int .i64 u1.gen) := (cells_at (HU3.out.kept _ (.tail _ (.tail _ (.head _)))).2.2 5).1
            have e20 : s3W.cell? ⟨s2, 0, none⟩ = some (.string u2.key) := (cells_at (HU3.out.kept _ (.tail _ (.head _))).2.2 0).1
            have e21 : s3W.cell? ⟨s2, 1, none⟩ = some (.string u2.value) := (cells_at (HU3.out.kept _ (.tail _ (.head _))).2.2 1).1
            have e22 : s3W.cell? ⟨s2, 2, none⟩ = some (.int .u32 u2.flags) := (cells_at (HU3.out.kept _ (.tail _ (.head _))).2.2 2).1
            have e23 : s3W.cell? ⟨s2, 3, none⟩ = some (.int .u64 u2.id) := (cells_at (HU3.out.kept _ (.tail _ (.head _))).2.2 3).1
            have e24 : s3W.cell? ⟨s2, 4, none⟩ = some (.int .i64 u2.dies) := (cells_at (HU3.out.kept _ (.tail _ (.head _))).2.2 4).1
            have e25 : s3W.cell? ⟨s2, 5, none⟩ = some (.int .i64 u2.gen) := (cells_at (HU3.out.kept _ (.tail _ (.head _))).2.2 5).1
            have e30 : s3W.cell? ⟨s3, 0, none⟩ = some (.string u2.key) := (cells_at (HU3.out.kept _ (.head _)).2.2 0).1
            have e31 : s3W.cell? ⟨s3, 1, none⟩ = some (.string u2.value) := (cells_at (HU3.out.kept _ (.head _)).2.2 1).1
            have e32 : s3W.cell? ⟨s3, 2, none⟩ = some (.int .u32 u2.flags) := (cells_at (HU3.out.kept _ (.head _)).2.2 2).1
            have e33 : s3W.cell? ⟨s3, 3, none⟩ = some (.int .u64 u2.id) := (cells_at (HU3.out.kept _ (.head _)).2.2 3).1
            have e34 : s3W.cell? ⟨s3, 4, none⟩ = some (.int .i64 u2.dies) := (cells_at (HU3.out.kept _ (.head _)).2.2 4).1
            have e35 : s3W.cell? ⟨s3, 5, none⟩ = some (.int .i64 u2.gen) := (cells_at (HU3.out.kept _ (.head _)).2.2 5).1
            go_wp2_with fail
            obtain ⟨v9, hv9⟩ := HU3.out.ref
            refine (mapsSame_any HU3.out.lv.map hv9 (Nat.le_trans HMO.out.len (by have := HLI.out; omega))).mono ?_
            rintro e Y1 ⟨rfl, hb⟩
            have HU9 := Lib.hid (HU3.out.none.below hb)
            clear hb hv9
            go_wp2_with fail
            go_roundw
            case rel => exact ⟨i + 1, m2, by go_num, by have := HLI.out; omega, HU9, HMO⟩
            case measure => simp [intOf]; have := HLI.out; omega
        · by_cases h1 : t = 1
          · subst h1
            have t3 : (kn : Int).tmod 6 = 1 := t2
            have t4 : (kn : Int) % 6 = 1 := t1
            clear t1 t2 h0
            have hfm := fun (W : World) (hW : PlS W1 W p r m m [(q2, #[.int .u8 A.kind, .int .u64 A.number, .string A.item.key, .string A.item.value, .int .u32 A.item.flags, .int .u64 A.item.id, .int .i64 A.item.dies, .int .i64 A.item.gen], 40), (q0, #[.int .i64 c.thread, .int .u8 c.call.verb, .string c.call.key, .string c.call.value, .int .u32 c.call.flags, .int .i64 c.call.exp, .int .u64 c.call.id, .int .u64 c.call.by', .int .i64 c.from', .int .i64 c.till, .int .u8 c.ans.kind, .int .u64 c.ans.number, .string c.ans.item.key, .string c.ans.item.value, .int .u32 c.ans.item.flags, .int .u64 c.ans.item.id, .int .i64 c.ans.item.dies, .int .i64 c.ans.item.gen, .int .u64 (c.epoch : Int), .int .i64 c.point], 42)]) => mapsFits_any (x := c) hW.lv.map HM0.out.ep HEP.out HFC.out.key HFC.out.verb HFC.out.exp HFC.out.by' (by have := HM0.out.ids; have := HLI.out; omega) (HE1.out.below hW.lv.bel) (HP1.out.below hW.lv.bel)
            have HFM := Lib.hid hfm
            have hfr := fun (W : World) (v : Value) (hr : RMap W r v m) => rFits_any (x := c) hr (Nat.le_trans HM0.out.len (by have := HLI.out; omega)) HM0.out.ep HEP.out HFC.out.key HFC.out.exp HFC.out.by' (by have := HM0.out.ids; have := HLI.out; omega) HM0.out.val
            have HFR := Lib.hid hfr
            have hmo := HM0.out.fits (c := c.call) HFC.out.value HEP.out (CalledD.ans c)
            obtain ⟨⟨fb, m2⟩, hf⟩ : ∃ y, y = fitsM m c.call c.epoch (CalledD.ans c) := ⟨_, rfl⟩
            rw [← hf] at hmo
            have HMO := Lib.hid hmo
            have HFF := Lib.hid hf
            clear hfm hfr hmo hf
            go_upto_region 24 with fail
            clear t3 t4 hk0
            have HD0 := Lib.hid (HP6.out.below (bdrew (Below.refl _ _)))
            refine wp_region_held_drew (S := PlK W1 p r [(q2, #[.int .u8 A.kind, .int .u64 A.number, .string A.item.key, .string A.item.value, .int .u32 A.item.flags, .int .u64 A.item.id, .int .i64 A.item.dies, .int .i64 A.item.gen], 40), (q0, #[.int .i64 c.thread, .int .u8 c.call.verb, .string c.call.key, .string c.call.value, .int .u32 c.call.flags, .int .i64 c.call.exp, .int .u64 c.call.id, .int .u64 c.call.by', .int .i64 c.from', .int .i64 c.till, .int .u8 c.ans.kind, .int .u64 c.ans.number, .string c.ans.item.key, .string c.ans.item.value, .int .u32 c.ans.item.flags, .int .u64 c.ans.item.id, .int .i64 c.ans.item.dies, .int .i64 c.ans.item.gen, .int .u64 (c.epoch : Int), .int .i64 c.point], 42)]) (by kernel_rfl) HD0.out.k (fun hHeld => ?_)
            refine wpAnyH_take (i := 0) (v := ?_) rfl (by kernel_rfl) (by kernel_rfl) (by kernel_rfl) (fun _ _ _ h => h) (Or.inl ⟨by rfl, ?_⟩) (by assumption) ?_
            rotate_left 1
            · ((intro w hSw; (try dsimp only at hSw); go_simp) <;> with_reducible rfl)
            try simp only [Act.put, List.setIfInBounds_toArray, List.set_cons_zero, List.set_cons_succ, List.getElem_toArray, List.getElem_cons_zero]
            refine wpAnyH_take (i := 1) rfl (by kernel_rfl) (by kernel_rfl) (by kernel_rfl) (fun _ _ _ h => h) (yieldsIf_load_mid (by rfl) 42 (.tmp 6) (by rfl) q0 0 (by rfl) [.int .i64 c.thread, .int .u8 c.call.verb, .string c.call.key, .string c.call.value, .int .u32 c.call.flags, .int .i64 c.call.exp, .int .u64 c.call.id, .int .u64 c.call.by', .int .i64 c.from', .int .i64 c.till, .int .u8 c.ans.kind, .int .u64 c.ans.number, .string c.ans.item.key, .string c.ans.item.value, .int .u32 c.ans.item.flags, .int .u64 c.ans.item.id, .int .i64 c.ans.item.dies, .int .i64 c.ans.item.gen, .int .u64 (c.epoch : Int), .int .i64 c.point] _ (fun w hSw => range_block (PlK.at hSw (.tail _ (.head _)))) Tryz.underlying42 rfl (by kernel_rfl)) (by assumption) ?_
            try simp only [Act.put, List.setIfInBounds_toArray, List.set_cons_zero, List.set_cons_succ, List.getElem_toArray, List.getElem_cons_zero, List.getElem_cons_succ]
            refine wpAnyH_take (i := 3) (v := ?_) rfl (by kernel_rfl) (by kernel_rfl) (by kernel_rfl) (fun _ _ _ h => h) (Or.inl ⟨by rfl, ?_⟩) (by assumption) ?_
            rotate_left 1
            · ((intro w hSw; (try dsimp only at hSw); go_simp) <;> with_reducible rfl)
            try simp only [Act.put, List.setIfInBounds_toArray, List.set_cons_zero, List.set_cons_succ, List.getElem_toArray, List.getElem_cons_zero, List.getElem_cons_succ]
            refine wpAnyH_take (i := 4) rfl (by kernel_rfl) (by kernel_rfl) (by kernel_rfl) (fun _ _ _ h => h) (yieldsIf_load_mid (by rfl) 42 (.tmp 6) (by rfl) q0 0 (by rfl) [.int .i64 c.thread, .int .u8 c.call.verb, .string c.call.key, .string c.call.value, .int .u32 c.call.flags, .int .i64 c.call.exp, .int .u64 c.call.id, .int .u64 c.call.by', .int .i64 c.from', .int .i64 c.till, .int .u8 c.ans.kind, .int .u64 c.ans.number, .string c.ans.item.key, .string c.ans.item.value, .int .u32 c.ans.item.flags, .int .u64 c.ans.item.id, .int .i64 c.ans.item.dies, .int .i64 c.ans.item.gen, .int .u64 (c.epoch : Int), .int .i64 c.point] _ (fun w hSw => range_block (PlK.at hSw (.tail _ (.head _)))) Tryz.underlying42 rfl (by kernel_rfl)) (by assumption) ?_
            try simp only [Act.put, List.setIfInBounds_toArray, List.set_cons_zero, List.set_cons_succ, List.getElem_toArray, List.getElem_cons_zero, List.getElem_cons_succ]
            refine wpAnyH_ready (rs := [2]) (by kernel_rfl) (by simp) ?_
            refine (AllReadyH.cons rfl (fun K hK => ?_) AllReadyH.nil)
            go_simp
            go_at_call 14
            refine (HFM.out _ HD0.out).mono ?_
            rintro e V2 ⟨rfl, hm2, hc2⟩
            have hp2 := HD0.out.stepM hm2 hc2
            rw [show fitsM m (CalledD.call c) (CalledD.epoch c) (CalledD.ans c) = (fb, m2) from HFF.out.symm] at hp2 ⊢
            simp only at hp2 ⊢
            have HD2 := Lib.hid hp2
            clear hm2 hc2 hp2
            refine hK.out _ _ HD2.out.k (fun hHeld2 => ?_)
            clear hK K
            try simp only [Act.put, List.setIfInBounds_toArray, List.set_cons_zero, List.set_cons_succ, List.getElem_toArray, List.getElem_cons_zero, List.getElem_cons_succ]
            refine wpAnyH_ready (rs := [5]) (by kernel_rfl) (by simp) ?_
            refine (AllReadyH.cons rfl (fun K hK => ?_) AllReadyH.nil)
            go_simp
            go_at_call 16
            refine (otherCall_any c _).mono ?_
            rintro e V5 ⟨rfl, hb⟩
            have HD5 := Lib.hid (HD2.out.below hb)
            clear hb
            refine hK.out _ _ HD5.out.k (fun hHeld2 => ?_)
            clear hK K
            try simp only [Act.put, List.setIfInBounds_toArray, List.set_cons_zero, List.set_cons_succ, List.getElem_toArray, List.getElem_cons_zero, List.getElem_cons_succ]
            refine wpAnyH_ready (rs := [6]) (by kernel_rfl) (by simp) ?_
            refine (AllReadyH.cons rfl (fun K hK => ?_) AllReadyH.nil)
            go_simp
            go_at_call 15
            obtain ⟨v5, hv5⟩ := HD5.out.ref
            refine (HFR.out _ v5 hv5).mono ?_
            rintro e V6 ⟨rfl, hr6, hc6⟩
            have hp6 := HD5.out.stepR hr6 hc6
            rw [show fitsM m (CalledD.call c) (CalledD.epoch c) (CalledD.ans c) = (fb, m2) from HFF.out.symm] at hp6 ⊢
            simp only at hp6 ⊢
            have HD6 := Lib.hid hp6
            clear hr6 hc6 hp6 hv5
            refine hK.out _ _ HD6.out.k (fun hHeld2 => ?_)
            clear hK K
            try simp only [Act.put, List.setIfInBounds_toArray, List.set_cons_zero, List.set_cons_succ, List.getElem_toArray, List.getElem_cons_zero, List.getElem_cons_succ]
            refine wpAnyH_take (i := 7) (v := ?_) rfl (by kernel_rfl) (by kernel_rfl) (by kernel_rfl) (fun _ _ _ h => h) (Or.inl ⟨by rfl, ?_⟩) (by assumption) ?_
            rotate_left 1
            · ((intro w hSw; (try dsimp only at hSw); go_simp) <;> with_reducible rfl)
            try simp only [Act.put, List.setIfInBounds_toArray, List.set_cons_zero, List.set_cons_succ, List.getElem_toArray, List.getElem_cons_zero, List.getElem_cons_succ]
            refine wpAnyH_done (by kernel_rfl) ?_ _
            clear hHeld hHeld2 HFM HFR HD0 HD2 HD5 HFF
            have HQ0 := Lib.hid (show V6.cell? ⟨q0, 2, none⟩ = some (.string c.call.key) from (cells_at (HD6.out.kept _ (.tail _ (.head _))).2.2 2).1)
            have HT0 := Lib.hid (show PlS W1 V6 p r m2 m2 [] from HD6.out.none)
            have hd1 : V6.cell? ⟨g, b + 21, none⟩ = some (.string d0.key) := HCW.out _ HD6.out.lv.bel 21 _ rfl
            have hc2 : V6.cell? ⟨q0, 2, none⟩ = some (.string c.call.key) := HQ0.out
            obtain ⟨u1, hu1⟩ : ∃ y, y = wasL m2.L d0.key := ⟨_, rfl⟩
            obtain ⟨b1, hb1⟩ : ∃ y, y = (atL m2.L d0.key).isSome := ⟨_, rfl⟩
            obtain ⟨u2, hu2⟩ : ∃ y, y = wasL m2.L c.call.key := ⟨_, rfl⟩
            obtain ⟨b2, hb2⟩ : ∃ y, y = (atL m2.L c.call.key).isSome := ⟨_, rfl⟩
            have HA1 := Lib.hid (fun (W : World) (hm : MapAt W p m2) => (show Calls Tryz.prog 17 #[.pointer (some ⟨p, 0, none⟩), .string d0.key] W fun e w' => e = .returned (.tuple #[.agg #[.string u1.key, .string u1.value, .int .u32 u1.flags, .int .u64 u1.id, .int .i64 u1.dies, .int .i64 u1.gen], .bool b1]) ∧ Below W.heap.size W w' from by rw [hu1, hb1]; exact mapsAt_any hm HDK.out))
            have HA2 := Lib.hid (fun (W : World) (v : Value) (hr : RMap W r v m2) => (show Calls Tryz.prog 11 #[.pointer (some ⟨r, 0, none⟩), .string d0.key] W fun e w' => e = .returned (.tuple #[.agg #[.string u1.key, .string u1.value, .int .u32 u1.flags, .int .u64 u1.id, .int .i64 u1.dies, .int .i64 u1.gen], .bool b1]) ∧ Below W.heap.size W w' from by rw [hu1, hb1]; exact rAtM_any hr))
            have HA3 := Lib.hid (fun (W : World) (hm : MapAt W p m2) => (show Calls Tryz.prog 17 #[.pointer (some ⟨p, 0, none⟩), .string c.call.key] W fun e w' => e = .returned (.tuple #[.agg #[.string u2.key, .string u2.value, .int .u32 u2.flags, .int .u64 u2.id, .int .i64 u2.dies, .int .i64 u2.gen], .bool b2]) ∧ Below W.heap.size W w' from by rw [hu2, hb2]; exact mapsAt_any hm HFC.out.key))
            have HA4 := Lib.hid (fun (W : World) (v : Value) (hr : RMap W r v m2) => (show Calls Tryz.prog 11 #[.pointer (some ⟨r, 0, none⟩), .string c.call.key] W fun e w' => e = .returned (.tuple #[.agg #[.string u2.key, .string u2.value, .int .u32 u2.flags, .int .u64 u2.id, .int .i64 u2.dies, .int .i64 u2.gen], .bool b2]) ∧ Below W.heap.size W w' from by rw [hu2, hb2]; exact rAtM_any hr))
            clear hu1 hb1 hu2 hb2
            go_upto_region 26 with fail
            go_wp2_with fail
            refine (HA1.out _ HT0.out.lv.map).mono ?_
            rintro e T0 ⟨rfl, hb⟩
            have HT0' := Lib.hid (HT0.out.below hb)
            have hd2 := (hb.cell (cell_lt hd1)).trans hd1
            have hc3 := (hb.cell (cell_lt hc2)).trans hc2
            clear hb hd1 hc2 HT0
            go_upto_region 27 with (first | ((with_reducible show wpList _ _ _ (⟨none, Op.store 38 _ _, _, _, _, _⟩ :: _) _ _); refine wpList_store_whole (by rfl) 38 (.tmp 13) (.tmp 130) (by rfl) T0.heap.size (by rfl) #[.string u1.key, .string u1.value, .int .u32 u1.flags, .int .u64 u1.id, .int .i64 u1.dies, .int .i64 u1.gen] (by rfl) _ 38 (heap_alloc_new _ _) (by rfl) (by kernel_rfl) (by simp [Value.oneCell']) ?_; intro w2 hr2 hg2 hs2; have HRI := Lib.hid hr2; have HGI := Lib.hid hg2; clear hr2 hg2 hs2) | fail)
            have hb3 : Below T0.heap.size T0 w2 := grown_below ((Below.refl _ _).alloc (Nat.le_refl _) _) (by rw [size_at]; omega) HGI.out (fun k hk => by cases hk; exact Nat.le_refl _)
            have hd1 := (hb3.cell (cell_lt hd2)).trans hd2
            have hc2 := (hb3.cell (cell_lt hc3)).trans hc3
            have hp2 := HT0'.out.put HRI.out HGI.out (by decide) (by decide)
            obtain ⟨s0, hq⟩ : ∃ q, q = T0.heap.size := ⟨_, rfl⟩
            rw [← hq] at hp2 ⊢
            have HU0 := Lib.hid hp2
            clear hp2 hq hb3 hd2 hc3 HRI HGI HT0'
            obtain ⟨s0W, rfl⟩ : ∃ Y, Y = w2 := ⟨_, rfl⟩
            go_wp2_with fail
            obtain ⟨vv1, hvv⟩ := HU0.out.ref
            refine (HA2.out _ vv1 hvv).mono ?_
            rintro e T1 ⟨rfl, hb⟩
            have HT1' := Lib.hid (HU0.out.below hb)
            have hd2 := (hb.cell (cell_lt hd1)).trans hd1
            have hc3 := (hb.cell (cell_lt hc2)).trans hc2
            clear hb hd1 hc2 HU0 hvv
            go_upto_region 28 with (first | ((with_reducible show wpList _ _ _ (⟨none, Op.store 38 _ _, _, _, _, _⟩ :: _) _ _); refine wpList_store_whole (by rfl) 38 (.tmp 15) (.tmp 141) (by rfl) T1.heap.size (by rfl) #[.string u1.key, .string u1.value, .int .u32 u1.flags, .int .u64 u1.id, .int .i64 u1.dies, .int .i64 u1.gen] (by rfl) _ 38 (heap_alloc_new _ _) (by rfl) (by kernel_rfl) (by simp [Value.oneCell']) ?_; intro w2 hr2 hg2 hs2; have HRI := Lib.hid hr2; have HGI := Lib.hid hg2; clear hr2 hg2 hs2) | fail)
            have hb3 : Below T1.heap.size T1 w2 := grown_below ((Below.refl _ _).alloc (Nat.le_refl _) _) (by rw [size_at]; omega) HGI.out (fun k hk => by cases hk; exact Nat.le_refl _)
            have hd1 := (hb3.cell (cell_lt hd2)).trans hd2
            have hc2 := (hb3.cell (cell_lt hc3)).trans hc3
            have hp2 := HT1'.out.put HRI.out HGI.out (by decide) (by decide)
            obtain ⟨s1, hq⟩ : ∃ q, q = T1.heap.size := ⟨_, rfl⟩
            rw [← hq] at hp2 ⊢
            have HU1 := Lib.hid hp2
            clear hp2 hq hb3 hd2 hc3 HRI HGI HT1'
            obtain ⟨s1W, rfl⟩ : ∃ Y, Y = w2 := ⟨_, rfl⟩
            go_wp2_with fail
            refine (HA3.out _ HU1.out.lv.map).mono ?_
            rintro e T2 ⟨rfl, hb⟩
            have HT2' := Lib.hid (HU1.out.below hb)
            have hd2 := (hb.cell (cell_lt hd1)).trans hd1
            have hc3 := (hb.cell (cell_lt hc2)).trans hc2
            clear hb hd1 hc2 HU1
            go_upto_region 29 with (first | ((with_reducible show wpList _ _ _ (⟨none, Op.store 38 _ _, _, _, _, _⟩ :: _) _ _); refine wpList_store_whole (by rfl) 38 (.tmp 17) (.tmp 149) (by rfl) T2.heap.size (by rfl) #[.string u2.key, .string u2.value, .int .u32 u2.flags, .int .u64 u2.id, .int .i64 u2.dies, .int .i64 u2.gen] (by rfl) _ 38 (heap_alloc_new _ _) (by rfl) (by kernel_rfl) (by simp [Value.oneCell']) ?_; intro w2 hr2 hg2 hs2; have HRI := Lib.hid hr2; have HGI := Lib.hid hg2; clear hr2 hg2 hs2) | fail)
            have hb3 : Below T2.heap.size T2 w2 := grown_below ((Below.refl _ _).alloc (Nat.le_refl _) _) (by rw [size_at]; omega) HGI.out (fun k hk => by cases hk; exact Nat.le_refl _)
            have hd1 := (hb3.cell (cell_lt hd2)).trans hd2
            have hc2 := (hb3.cell (cell_lt hc3)).trans hc3
            have hp2 := HT2'.out.put HRI.out HGI.out (by decide) (by decide)
            obtain ⟨s2, hq⟩ : ∃ q, q = T2.heap.size := ⟨_, rfl⟩
            rw [← hq] at hp2 ⊢
            have HU2 := Lib.hid hp2
            clear hp2 hq hb3 hd2 hc3 HRI HGI HT2'
            obtain ⟨s2W, rfl⟩ : ∃ Y, Y = w2 := ⟨_, rfl⟩
            go_wp2_with fail
            obtain ⟨vv3, hvv⟩ := HU2.out.ref
            refine (HA4.out _ vv3 hvv).mono ?_
            rintro e T3 ⟨rfl, hb⟩
            have HT3' := Lib.hid (HU2.out.below hb)
            have hd2 := (hb.cell (cell_lt hd1)).trans hd1
            have hc3 := (hb.cell (cell_lt hc2)).trans hc2
            clear hb hd1 hc2 HU2 hvv
            go_upto_region 30 with (first | ((with_reducible show wpList _ _ _ (⟨none, Op.store 38 _ _, _, _, _, _⟩ :: _) _ _); refine wpList_store_whole (by rfl) 38 (.tmp 19) (.tmp 157) (by rfl) T3.heap.size (by rfl) #[.string u2.key, .string u2.value, .int .u32 u2.flags, .int .u64 u2.id, .int .i64 u2.dies, .int .i64 u2.gen] (by rfl) _ 38 (heap_alloc_new _ _) (by rfl) (by kernel_rfl) (by simp [Value.oneCell']) ?_; intro w2 hr2 hg2 hs2; have HRI := Lib.hid hr2; have HGI := Lib.hid hg2; clear hr2 hg2 hs2) | fail)
            have hb3 : Below T3.heap.size T3 w2 := grown_below ((Below.refl _ _).alloc (Nat.le_refl _) _) (by rw [size_at]; omega) HGI.out (fun k hk => by cases hk; exact Nat.le_refl _)
            have hd1 := (hb3.cell (cell_lt hd2)).trans hd2
            have hc2 := (hb3.cell (cell_lt hc3)).trans hc3
            have hp2 := HT3'.out.put HRI.out HGI.out (by decide) (by decide)
            obtain ⟨s3, hq⟩ : ∃ q, q = T3.heap.size := ⟨_, rfl⟩
            rw [← hq] at hp2 ⊢
            have HU3 := Lib.hid hp2
            clear hp2 hq hb3 hd2 hc3 HRI HGI HT3'
            obtain ⟨s3W, rfl⟩ : ∃ Y, Y = w2 := ⟨_, rfl⟩
            clear hd1 hc2 HA1 HA2 HA3 HA4
            have qu1 : ∀ W : World, (binOp .neq 38 (.agg #[.string u1.key, .string u1.value, .int .u32 u1.flags, .int .u64 u1.id, .int .i64 u1.dies, .int .i64 u1.gen]) (.agg #[.string u1.key, .string u1.value, .int .u32 u1.flags, .int .u64 u1.id, .int .i64 u1.dies, .int .i64 u1.gen])).run Tryz.prog W = .ok (.bool false) W := fun W => by have h := run_item_ne u1 u1 W; rw [decide_eq_true rfl] at h; exact h
            have qu2 : ∀ W : World, (binOp .neq 38 (.agg #[.string u2.key, .string u2.value, .int .u32 u2.flags, .int .u64 u2.id, .int .i64 u2.dies, .int .i64 u2.gen]) (.agg #[.string u2.key, .string u2.value, .int .u32 u2.flags, .int .u64 u2.id, .int .i64 u2.dies, .int .i64 u2.gen])).run Tryz.prog W = .ok (.bool false) W := fun W => by have h := run_item_ne u2 u2 W; rw [decide_eq_true rfl] at h; exact h
            have e00 : s3W.cell? ⟨s0, 0, none⟩ = some (.string u1.key) := (cells_at (HU3.out.kept _ (.tail _ (.tail _ (.tail _ (.head _))))).2.2 0).1
            have e01 : s3W.cell? ⟨s0, 1, none⟩ = some (.string u1.value) := (cells_at (HU3.out.kept _ (.tail _ (.tail _ (.tail _ (.head _))))).2.2 1).1
            have e02 : s3W.cell? ⟨s0, 2, none⟩ = some (.int .u32 u1.flags) := (cells_at (HU3.out.kept _ (.tail _ (.tail _ (.tail _ (.head _))))).2.2 2).1
            have e03 : s3W.cell? ⟨s0, 3, none⟩ = some (.int .u64 u1.id) := (cells_at (HU3.out.kept _ (.tail _ (.tail _ (.tail _ (.head _))))).2.2 3).1
            have e04 : s3W.cell? ⟨s0, 4, none⟩ = some (.int .i64 u1.dies) := (cells_at (HU3.out.kept _ (.tail _ (.tail _ (.tail _ (.head _))))).2.2 4).1
            have e05 : s3W.cell? ⟨s0, 5, none⟩ = some (.int .i64 u1.gen) := (cells_at (HU3.out.kept _ (.tail _ (.tail _ (.tail _ (.head _))))).2.2 5).1
            have e10 : s3W.cell? ⟨s1, 0, none⟩ = some (.string u1.key) := (cells_at (HU3.out.kept _ (.tail _ (.tail _ (.head _)))).2.2 0).1
            have e11 : s3W.cell? ⟨s1, 1, none⟩ = some (.string u1.value) := (cells_at (HU3.out.kept _ (.tail _ (.tail _ (.head _)))).2.2 1).1
            have e12 : s3W.cell? ⟨s1, 2, none⟩ = some (.int .u32 u1.flags) := (cells_at (HU3.out.kept _ (.tail _ (.tail _ (.head _)))).2.2 2).1
            have e13 : s3W.cell? ⟨s1, 3, none⟩ = some (.int .u64 u1.id) := (cells_at (HU3.out.kept _ (.tail _ (.tail _ (.head _)))).2.2 3).1
            have e14 : s3W.cell? ⟨s1, 4, none⟩ = some (.int .i64 u1.dies) := (cells_at (HU3.out.kept _ (.tail _ (.tail _ (.head _)))).2.2 4).1
            have e15 : s3W.cell? ⟨s1, 5, none⟩ = some (.int .i64 u1.gen) := (cells_at (HU3.out.kept _ (.tail _ (.tail _ (.head _)))).2.2 5).1
            have e20 : s3W.cell? ⟨s2, 0, none⟩ = some (.string u2.key) := (cells_at (HU3.out.kept _ (.tail _ (.head _))).2.2 0).1
            have e21 : s3W.cell? ⟨s2, 1, none⟩ = some (.string u2.value) := (cells_at (HU3.out.kept _ (.tail _ (.head _))).2.2 1).1
            have e22 : s3W.cell? ⟨s2, 2, none⟩ = some (.int .u32 u2.flags) := (cells_at (HU3.out.kept _ (.tail _ (.head _))).2.2 2).1
            have e23 : s3W.cell? ⟨s2, 3, none⟩ = some (.int .u64 u2.id) := (cells_at (HU3.out.kept _ (.tail _ (.head _))).2.2 3).1
            have e24 : s3W.cell? ⟨s2, 4, none⟩ = some (.int .i64 u2.dies) := (cells_at (HU3.out.kept _ (.tail _ (.head _))).2.2 4).1
            have e25 : s3W.cell? ⟨s2, 5, none⟩ = some (.int .i64 u2.gen) := (cells_at (HU3.out.kept _ (.tail _ (.head _))).2.2 5).1
            have e30 : s3W.cell? ⟨s3, 0, none⟩ = some (.string u2.key) := (cells_at (HU3.out.kept _ (.head _)).2.2 0).1
            have e31 : s3W.cell? ⟨s3, 1, none⟩ = some (.string u2.value) := (cells_at (HU3.out.kept _ (.head _)).2.2 1).1
            have e32 : s3W.cell? ⟨s3, 2, none⟩ = some (.int .u32 u2.flags) := (cells_at (HU3.out.kept _ (.head _)).2.2 2).1
            have e33 : s3W.cell? ⟨s3, 3, none⟩ = some (.int .u64 u2.id) := (cells_at (HU3.out.kept _ (.head _)).2.2 3).1
            have e34 : s3W.cell? ⟨s3, 4, none⟩ = some (.int .i64 u2.dies) := (cells_at (HU3.out.kept _ (.head _)).2.2 4).1
            have e35 : s3W.cell? ⟨s3, 5, none⟩ = some (.int .i64 u2.gen) := (cells_at (HU3.out.kept _ (.head _)).2.2 5).1
            go_wp2_with fail
            obtain ⟨v9, hv9⟩ := HU3.out.ref
            refine (mapsSame_any HU3.out.lv.map hv9 (Nat.le_trans HMO.out.len (by have := HLI.out; omega))).mono ?_
            rintro e Y1 ⟨rfl, hb⟩
            have HU9 := Lib.hid (HU3.out.none.below hb)
            clear hb hv9
            go_wp2_with fail
            go_roundw
            case rel => exact ⟨i + 1, m2, by go_num, by have := HLI.out; omega, HU9, HMO⟩
            case measure => simp [intOf]; have := HLI.out; omega
          · have n0 : ((t : Int) == 0) = false := by rw [beq_eq_false_iff_ne]; omega
            have n1 : ((t : Int) == 1) = false := by rw [beq_eq_false_iff_ne]; omega
            have n2 : (t == 0) = false := by rw [beq_eq_false_iff_ne]; omega
            have n3 : (t == 1) = false := by rw [beq_eq_false_iff_ne]; omega
            have z0 : q2W.cell? ⟨q2, 0, none⟩ = some (.int .u8 A.kind) := (cells_at (HP6.out.kept _ (.head _)).2.2 0).1
            have z1 : q2W.cell? ⟨q2, 1, none⟩ = some (.int .u64 A.number) := (cells_at (HP6.out.kept _ (.head _)).2.2 1).1
            have z2 : q2W.cell? ⟨q2, 2, none⟩ = some (.string A.item.key) := (cells_at (HP6.out.kept _ (.head _)).2.2 2).1
            have z3 : q2W.cell? ⟨q2, 3, none⟩ = some (.string A.item.value) := (cells_at (HP6.out.kept _ (.head _)).2.2 3).1
            have z4 : q2W.cell? ⟨q2, 4, none⟩ = some (.int .u32 A.item.flags) := (cells_at (HP6.out.kept _ (.head _)).2.2 4).1
            have z5 : q2W.cell? ⟨q2, 5, none⟩ = some (.int .u64 A.item.id) := (cells_at (HP6.out.kept _ (.head _)).2.2 5).1
            have z6 : q2W.cell? ⟨q2, 6, none⟩ = some (.int .i64 A.item.dies) := (cells_at (HP6.out.kept _ (.head _)).2.2 6).1
            have z7 : q2W.cell? ⟨q2, 7, none⟩ = some (.int .i64 A.item.gen) := (cells_at (HP6.out.kept _ (.head _)).2.2 7).1
            have hbx := (HP6.out.kept _ (.tail _ (.head _))).2.2
            have hth : q2W.there q0 10 8 := fun j hj => by have h := there_block hbx (10 + j) (by show 10 + j < 20; omega); simpa using h
            go_upto_region 15 with (first | ((with_reducible show wpList _ _ _ (⟨none, Op.store 40 _ _, _, _, _, _⟩ :: _) _ _); refine wpList_store_mid (by rfl) 40 (.tmp 71) (.tmp 70) (by rfl) q0 10 #[.int .u8 A.kind, .int .u64 A.number, .string A.item.key, .string A.item.value, .int .u32 A.item.flags, .int .u64 A.item.id, .int .i64 A.item.dies, .int .i64 A.item.gen] (by rfl) (by rfl) hth (by kernel_rfl) (by simp [Value.oneCell']) ?_) | fail)
            have h8 := (Go.Joins.block_setCell (i := 17) (Go.Joins.block_setCell (i := 16) (Go.Joins.block_setCell (i := 15) (Go.Joins.block_setCell (i := 14) (Go.Joins.block_setCell (i := 13) (Go.Joins.block_setCell (i := 12) (Go.Joins.block_setCell (i := 11) (Go.Joins.block_setCell (i := 10) hbx (.int .u8 A.kind)) (.int .u64 A.number)) (.string A.item.key)) (.string A.item.value)) (.int .u32 A.item.flags)) (.int .u64 A.item.id)) (.int .i64 A.item.dies)) (.int .i64 A.item.gen))
            simp only [List.setIfInBounds_toArray, List.set_cons_succ, List.set_cons_zero] at h8
            have hg8 := (setCells_grown [.int .u8 A.kind, .int .u64 A.number, .string A.item.key, .string A.item.value, .int .u32 A.item.flags, .int .u64 A.item.id, .int .i64 A.item.dies, .int .i64 A.item.gen] 10 q2W q0).1
            have hne : q2 ≠ q0 := fun e => by
              have h1 := (HP6.out.kept _ (.head _)).2.2
              simp only at h1 hbx
              rw [e, hbx] at h1
              exact absurd (cells_type h1) (by decide)
            have HPX := Lib.hid (show PlS W1 (q2W.setCells q0 10 [.int .u8 A.kind, .int .u64 A.number, .string A.item.key, .string A.item.value, .int .u32 A.item.flags, .int .u64 A.item.id, .int .i64 A.item.dies, .int .i64 A.item.gen]) p r m m [(q0, #[.int .i64 c.thread, .int .u8 c.call.verb, .string c.call.key, .string c.call.value, .int .u32 c.call.flags, .int .i64 c.call.exp, .int .u64 c.call.id, .int .u64 c.call.by', .int .i64 c.from', .int .i64 c.till, .int .u8 A.kind, .int .u64 A.number, .string A.item.key, .string A.item.value, .int .u32 A.item.flags, .int .u64 A.item.id, .int .i64 A.item.dies, .int .i64 A.item.gen, .int .u64 (c.epoch : Int), .int .i64 c.point], 42)] from PlS.over (t := 42) (bs := []) (⟨HP6.out.lv, HP6.out.ref, HP6.out.rlow, fun x hx => HP6.out.kept x (.tail _ hx)⟩ : PlS W1 q2W p r m m [(q0, #[.int .i64 c.thread, .int .u8 c.call.verb, .string c.call.key, .string c.call.value, .int .u32 c.call.flags, .int .i64 c.call.exp, .int .u64 c.call.id, .int .u64 c.call.by', .int .i64 c.from', .int .i64 c.till, .int .u8 c.ans.kind, .int .u64 c.ans.number, .string c.ans.item.key, .string c.ans.item.value, .int .u32 c.ans.item.flags, .int .u64 c.ans.item.id, .int .i64 c.ans.item.dies, .int .i64 c.ans.item.gen, .int .u64 (c.epoch : Int), .int .i64 c.point], 42)]) HQL0.out (fun x hx => by cases hx) (by decide) h8 hg8)
            clear t1 t2 hk0 h8 hg8 hne hbx hth HP6 z0 z1 z2 z3 z4 z5 z6 z7
            obtain ⟨WX, hWX⟩ : ∃ Y, Y = q2W.setCells q0 10 [.int .u8 A.kind, .int .u64 A.number, .string A.item.key, .string A.item.value, .int .u32 A.item.flags, .int .u64 A.item.id, .int .i64 A.item.dies, .int .i64 A.item.gen] := ⟨_, rfl⟩
            rw [← hWX] at HPX
            rw [show q2W.setCells q0 10 (#[.int .u8 A.kind, .int .u64 A.number, .string A.item.key, .string A.item.value, .int .u32 A.item.flags, .int .u64 A.item.id, .int .i64 A.item.dies, .int .i64 A.item.gen] : Array Value).toList = WX from hWX.symm]
            clear hWX
            have hfm := fun (W : World) (hW : PlS W1 W p r m m [(q0, #[.int .i64 c.thread, .int .u8 c.call.verb, .string c.call.key, .string c.call.value, .int .u32 c.call.flags, .int .i64 c.call.exp, .int .u64 c.call.id, .int .u64 c.call.by', .int .i64 c.from', .int .i64 c.till, .int .u8 A.kind, .int .u64 A.number, .string A.item.key, .string A.item.value, .int .u32 A.item.flags, .int .u64 A.item.id, .int .i64 A.item.dies, .int .i64 A.item.gen, .int .u64 (c.epoch : Int), .int .i64 c.point], 42)]) => mapsFits_any (x := { c with ans := A }) hW.lv.map HM0.out.ep HEP.out HFC.out.key HFC.out.verb HFC.out.exp HFC.out.by' (by have := HM0.out.ids; have := HLI.out; omega) (HE1.out.below hW.lv.bel) (HP1.out.below hW.lv.bel)
            have HFM := Lib.hid hfm
            have hfr := fun (W : World) (v : Value) (hr : RMap W r v m) => rFits_any (x := { c with ans := A }) hr (Nat.le_trans HM0.out.len (by have := HLI.out; omega)) HM0.out.ep HEP.out HFC.out.key HFC.out.exp HFC.out.by' (by have := HM0.out.ids; have := HLI.out; omega) HM0.out.val
            have HFR := Lib.hid hfr
            have hmo := HM0.out.fits (c := c.call) HFC.out.value HEP.out (CalledD.ans { c with ans := A })
            obtain ⟨⟨fb, m2⟩, hf⟩ : ∃ y, y = fitsM m c.call c.epoch (CalledD.ans { c with ans := A }) := ⟨_, rfl⟩
            rw [← hf] at hmo
            have HMO := Lib.hid hmo
            have HFF := Lib.hid hf
            clear hfm hfr hmo hf
            go_upto_region 15 with fail
            have HD0 := Lib.hid (HPX.out.below (bdrew (Below.refl _ _)))
            refine wp_region_held_drew (S := PlK W1 p r [(q0, #[.int .i64 c.thread, .int .u8 c.call.verb, .string c.call.key, .string c.call.value, .int .u32 c.call.flags, .int .i64 c.call.exp, .int .u64 c.call.id, .int .u64 c.call.by', .int .i64 c.from', .int .i64 c.till, .int .u8 A.kind, .int .u64 A.number, .string A.item.key, .string A.item.value, .int .u32 A.item.flags, .int .u64 A.item.id, .int .i64 A.item.dies, .int .i64 A.item.gen, .int .u64 (c.epoch : Int), .int .i64 c.point], 42)]) (by kernel_rfl) HD0.out.k (fun hHeld => ?_)
            refine wpAnyH_take (i := 0) (v := ?_) rfl (by kernel_rfl) (by kernel_rfl) (by kernel_rfl) (fun _ _ _ h => h) (Or.inl ⟨by rfl, ?_⟩) (by assumption) ?_
            rotate_left 1
            · ((intro w hSw; (try dsimp only at hSw); go_simp) <;> with_reducible rfl)
            try simp only [Act.put, List.setIfInBounds_toArray, List.set_cons_zero, List.set_cons_succ, List.getElem_toArray, List.getElem_cons_zero]
            refine wpAnyH_take (i := 1) rfl (by kernel_rfl) (by kernel_rfl) (by kernel_rfl) (fun _ _ _ h => h) (yieldsIf_load_mid (by rfl) 42 (.tmp 6) (by rfl) q0 0 (by rfl) [.int .i64 c.thread, .int .u8 c.call.verb, .string c.call.key, .string c.call.value, .int .u32 c.call.flags, .int .i64 c.call.exp, .int .u64 c.call.id, .int .u64 c.call.by', .int .i64 c.from', .int .i64 c.till, .int .u8 A.kind, .int .u64 A.number, .string A.item.key, .string A.item.value, .int .u32 A.item.flags, .int .u64 A.item.id, .int .i64 A.item.dies, .int .i64 A.item.gen, .int .u64 (c.epoch : Int), .int .i64 c.point] _ (fun w hSw => range_block (PlK.at hSw (.head _))) Tryz.underlying42 rfl (by kernel_rfl)) (by assumption) ?_
            try simp only [Act.put, List.setIfInBounds_toArray, List.set_cons_zero, List.set_cons_succ, List.getElem_toArray, List.getElem_cons_zero, List.getElem_cons_succ]
            refine wpAnyH_take (i := 3) (v := ?_) rfl (by kernel_rfl) (by kernel_rfl) (by kernel_rfl) (fun _ _ _ h => h) (Or.inl ⟨by rfl, ?_⟩) (by assumption) ?_
            rotate_left 1
            · ((intro w hSw; (try dsimp only at hSw); go_simp) <;> with_reducible rfl)
            try simp only [Act.put, List.setIfInBounds_toArray, List.set_cons_zero, List.set_cons_succ, List.getElem_toArray, List.getElem_cons_zero, List.getElem_cons_succ]
            refine wpAnyH_take (i := 4) rfl (by kernel_rfl) (by kernel_rfl) (by kernel_rfl) (fun _ _ _ h => h) (yieldsIf_load_mid (by rfl) 42 (.tmp 6) (by rfl) q0 0 (by rfl) [.int .i64 c.thread, .int .u8 c.call.verb, .string c.call.key, .string c.call.value, .int .u32 c.call.flags, .int .i64 c.call.exp, .int .u64 c.call.id, .int .u64 c.call.by', .int .i64 c.from', .int .i64 c.till, .int .u8 A.kind, .int .u64 A.number, .string A.item.key, .string A.item.value, .int .u32 A.item.flags, .int .u64 A.item.id, .int .i64 A.item.dies, .int .i64 A.item.gen, .int .u64 (c.epoch : Int), .int .i64 c.point] _ (fun w hSw => range_block (PlK.at hSw (.head _))) Tryz.underlying42 rfl (by kernel_rfl)) (by assumption) ?_
            try simp only [Act.put, List.setIfInBounds_toArray, List.set_cons_zero, List.set_cons_succ, List.getElem_toArray, List.getElem_cons_zero, List.getElem_cons_succ]
            refine wpAnyH_ready (rs := [2]) (by kernel_rfl) (by simp) ?_
            refine (AllReadyH.cons rfl (fun K hK => ?_) AllReadyH.nil)
            go_simp
            go_at_call 14
            refine (HFM.out _ HD0.out).mono ?_
            rintro e V2 ⟨rfl, hm2, hc2⟩
            have hp2 := HD0.out.stepM hm2 hc2
            rw [show fitsM m (CalledD.call { c with ans := A }) (CalledD.epoch { c with ans := A }) (CalledD.ans { c with ans := A }) = (fb, m2) from HFF.out.symm] at hp2 ⊢
            simp only at hp2 ⊢
            have HD2 := Lib.hid hp2
            clear hm2 hc2 hp2
            refine hK.out _ _ HD2.out.k (fun hHeld2 => ?_)
            clear hK K
            try simp only [Act.put, List.setIfInBounds_toArray, List.set_cons_zero, List.set_cons_succ, List.getElem_toArray, List.getElem_cons_zero, List.getElem_cons_succ]
            refine wpAnyH_ready (rs := [5]) (by kernel_rfl) (by simp) ?_
            refine (AllReadyH.cons rfl (fun K hK => ?_) AllReadyH.nil)
            go_simp
            go_at_call 16
            refine (otherCall_any { c with ans := A } _).mono ?_
            rintro e V5 ⟨rfl, hb⟩
            have HD5 := Lib.hid (HD2.out.below hb)
            clear hb
            refine hK.out _ _ HD5.out.k (fun hHeld2 => ?_)
            clear hK K
            refine wpAnyH_ready (rs := [6]) (by kernel_rfl) (by simp) ?_
            refine (AllReadyH.cons rfl (fun K hK => ?_) AllReadyH.nil)
            go_simp
            go_at_call 15
            obtain ⟨v5, hv5⟩ := HD5.out.ref
            refine (HFR.out _ v5 hv5).mono ?_
            rintro e V6 ⟨rfl, hr6, hc6⟩
            have hp6 := HD5.out.stepR hr6 hc6
            rw [show fitsM m (CalledD.call { c with ans := A }) (CalledD.epoch { c with ans := A }) (CalledD.ans { c with ans := A }) = (fb, m2) from HFF.out.symm] at hp6 ⊢
            simp only at hp6 ⊢
            have HD6 := Lib.hid hp6
            clear hr6 hc6 hp6 hv5
            refine hK.out _ _ HD6.out.k (fun hHeld2 => ?_)
            clear hK K
            try simp only [Act.put, List.setIfInBounds_toArray, List.set_cons_zero, List.set_cons_succ, List.getElem_toArray, List.getElem_cons_zero, List.getElem_cons_succ]
            refine wpAnyH_take (i := 7) (v := ?_) rfl (by kernel_rfl) (by kernel_rfl) (by kernel_rfl) (fun _ _ _ h => h) (Or.inl ⟨by rfl, ?_⟩) (by assumption) ?_
            rotate_left 1
            · ((intro w hSw; (try dsimp only at hSw); go_simp) <;> with_reducible rfl)
            try simp only [Act.put, List.setIfInBounds_toArray, List.set_cons_zero, List.set_cons_succ, List.getElem_toArray, List.getElem_cons_zero, List.getElem_cons_succ]
            refine wpAnyH_done (by kernel_rfl) ?_ _
            clear hHeld hHeld2 HFM HFR HD0 HD2 HD5 HFF
            have HQ0 := Lib.hid (show V6.cell? ⟨q0, 2, none⟩ = some (.string c.call.key) from (cells_at (HD6.out.kept _ (.head _)).2.2 2).1)
            have HT0 := Lib.hid (show PlS W1 V6 p r m2 m2 [] from HD6.out.none)
            have hd1 : V6.cell? ⟨g, b + 21, none⟩ = some (.string d0.key) := HCW.out _ HD6.out.lv.bel 21 _ rfl
            have hc2 : V6.cell? ⟨q0, 2, none⟩ = some (.string c.call.key) := HQ0.out
            obtain ⟨u1, hu1⟩ : ∃ y, y = wasL m2.L d0.key := ⟨_, rfl⟩
            obtain ⟨b1, hb1⟩ : ∃ y, y = (atL m2.L d0.key).isSome := ⟨_, rfl⟩
            obtain ⟨u2, hu2⟩ : ∃ y, y = wasL m2.L c.call.key := ⟨_, rfl⟩
            obtain ⟨b2, hb2⟩ : ∃ y, y = (atL m2.L c.call.key).isSome := ⟨_, rfl⟩
            have HA1 := Lib.hid (fun (W : World) (hm : MapAt W p m2) => (show Calls Tryz.prog 17 #[.pointer (some ⟨p, 0, none⟩), .string d0.key] W fun e w' => e = .returned (.tuple #[.agg #[.string u1.key, .string u1.value, .int .u32 u1.flags, .int .u64 u1.id, .int .i64 u1.dies, .int .i64 u1.gen], .bool b1]) ∧ Below W.heap.size W w' from by rw [hu1, hb1]; exact mapsAt_any hm HDK.out))
            have HA2 := Lib.hid (fun (W : World) (v : Value) (hr : RMap W r v m2) => (show Calls Tryz.prog 11 #[.pointer (some ⟨r, 0, none⟩), .string d0.key] W fun e w' => e = .returned (.tuple #[.agg #[.string u1.key, .string u1.value, .int .u32 u1.flags, .int .u64 u1.id, .int .i64 u1.dies, .int .i64 u1.gen], .bool b1]) ∧ Below W.heap.size W w' from by rw [hu1, hb1]; exact rAtM_any hr))
            have HA3 := Lib.hid (fun (W : World) (hm : MapAt W p m2) => (show Calls Tryz.prog 17 #[.pointer (some ⟨p, 0, none⟩), .string c.call.key] W fun e w' => e = .returned (.tuple #[.agg #[.string u2.key, .string u2.value, .int .u32 u2.flags, .int .u64 u2.id, .int .i64 u2.dies, .int .i64 u2.gen], .bool b2]) ∧ Below W.heap.size W w' from by rw [hu2, hb2]; exact mapsAt_any hm HFC.out.key))
            have HA4 := Lib.hid (fun (W : World) (v : Value) (hr : RMap W r v m2) => (show Calls Tryz.prog 11 #[.pointer (some ⟨r, 0, none⟩), .string c.call.key] W fun e w' => e = .returned (.tuple #[.agg #[.string u2.key, .string u2.value, .int .u32 u2.flags, .int .u64 u2.id, .int .i64 u2.dies, .int .i64 u2.gen], .bool b2]) ∧ Below W.heap.size W w' from by rw [hu2, hb2]; exact rAtM_any hr))
            clear hu1 hb1 hu2 hb2
            go_upto_region 26 with fail
            go_wp2_with fail
            refine (HA1.out _ HT0.out.lv.map).mono ?_
            rintro e T0 ⟨rfl, hb⟩
            have HT0' := Lib.hid (HT0.out.below hb)
            have hd2 := (hb.cell (cell_lt hd1)).trans hd1
            have hc3 := (hb.cell (cell_lt hc2)).trans hc2
            clear hb hd1 hc2 HT0
            go_upto_region 27 with (first | ((with_reducible show wpList _ _ _ (⟨none, Op.store 38 _ _, _, _, _, _⟩ :: _) _ _); refine wpList_store_whole (by rfl) 38 (.tmp 13) (.tmp 130) (by rfl) T0.heap.size (by rfl) #[.string u1.key, .string u1.value, .int .u32 u1.flags, .int .u64 u1.id, .int .i64 u1.dies, .int .i64 u1.gen] (by rfl) _ 38 (heap_alloc_new _ _) (by rfl) (by kernel_rfl) (by simp [Value.oneCell']) ?_; intro w2 hr2 hg2 hs2; have HRI := Lib.hid hr2; have HGI := Lib.hid hg2; clear hr2 hg2 hs2) | fail)
            have hb3 : Below T0.heap.size T0 w2 := grown_below ((Below.refl _ _).alloc (Nat.le_refl _) _) (by rw [size_at]; omega) HGI.out (fun k hk => by cases hk; exact Nat.le_refl _)
            have hd1 := (hb3.cell (cell_lt hd2)).trans hd2
            have hc2 := (hb3.cell (cell_lt hc3)).trans hc3
            have hp2 := HT0'.out.put HRI.out HGI.out (by decide) (by decide)
            obtain ⟨s0, hq⟩ : ∃ q, q = T0.heap.size := ⟨_, rfl⟩
            rw [← hq] at hp2 ⊢
            have HU0 := Lib.hid hp2
            clear hp2 hq hb3 hd2 hc3 HRI HGI HT0'
            obtain ⟨s0W, rfl⟩ : ∃ Y, Y = w2 := ⟨_, rfl⟩
            go_wp2_with fail
            obtain ⟨vv1, hvv⟩ := HU0.out.ref
            refine (HA2.out _ vv1 hvv).mono ?_
            rintro e T1 ⟨rfl, hb⟩
            have HT1' := Lib.hid (HU0.out.below hb)
            have hd2 := (hb.cell (cell_lt hd1)).trans hd1
            have hc3 := (hb.cell (cell_lt hc2)).trans hc2
            clear hb hd1 hc2 HU0 hvv
            go_upto_region 28 with (first | ((with_reducible show wpList _ _ _ (⟨none, Op.store 38 _ _, _, _, _, _⟩ :: _) _ _); refine wpList_store_whole (by rfl) 38 (.tmp 15) (.tmp 141) (by rfl) T1.heap.size (by rfl) #[.string u1.key, .string u1.value, .int .u32 u1.flags, .int .u64 u1.id, .int .i64 u1.dies, .int .i64 u1.gen] (by rfl) _ 38 (heap_alloc_new _ _) (by rfl) (by kernel_rfl) (by simp [Value.oneCell']) ?_; intro w2 hr2 hg2 hs2; have HRI := Lib.hid hr2; have HGI := Lib.hid hg2; clear hr2 hg2 hs2) | fail)
            have hb3 : Below T1.heap.size T1 w2 := grown_below ((Below.refl _ _).alloc (Nat.le_refl _) _) (by rw [size_at]; omega) HGI.out (fun k hk => by cases hk; exact Nat.le_refl _)
            have hd1 := (hb3.cell (cell_lt hd2)).trans hd2
            have hc2 := (hb3.cell (cell_lt hc3)).trans hc3
            have hp2 := HT1'.out.put HRI.out HGI.out (by decide) (by decide)
            obtain ⟨s1, hq⟩ : ∃ q, q = T1.heap.size := ⟨_, rfl⟩
            rw [← hq] at hp2 ⊢
            have HU1 := Lib.hid hp2
            clear hp2 hq hb3 hd2 hc3 HRI HGI HT1'
            obtain ⟨s1W, rfl⟩ : ∃ Y, Y = w2 := ⟨_, rfl⟩
            go_wp2_with fail
            refine (HA3.out _ HU1.out.lv.map).mono ?_
            rintro e T2 ⟨rfl, hb⟩
            have HT2' := Lib.hid (HU1.out.below hb)
            have hd2 := (hb.cell (cell_lt hd1)).trans hd1
            have hc3 := (hb.cell (cell_lt hc2)).trans hc2
            clear hb hd1 hc2 HU1
            go_upto_region 29 with (first | ((with_reducible show wpList _ _ _ (⟨none, Op.store 38 _ _, _, _, _, _⟩ :: _) _ _); refine wpList_store_whole (by rfl) 38 (.tmp 17) (.tmp 149) (by rfl) T2.heap.size (by rfl) #[.string u2.key, .string u2.value, .int .u32 u2.flags, .int .u64 u2.id, .int .i64 u2.dies, .int .i64 u2.gen] (by rfl) _ 38 (heap_alloc_new _ _) (by rfl) (by kernel_rfl) (by simp [Value.oneCell']) ?_; intro w2 hr2 hg2 hs2; have HRI := Lib.hid hr2; have HGI := Lib.hid hg2; clear hr2 hg2 hs2) | fail)
            have hb3 : Below T2.heap.size T2 w2 := grown_below ((Below.refl _ _).alloc (Nat.le_refl _) _) (by rw [size_at]; omega) HGI.out (fun k hk => by cases hk; exact Nat.le_refl _)
            have hd1 := (hb3.cell (cell_lt hd2)).trans hd2
            have hc2 := (hb3.cell (cell_lt hc3)).trans hc3
            have hp2 := HT2'.out.put HRI.out HGI.out (by decide) (by decide)
            obtain ⟨s2, hq⟩ : ∃ q, q = T2.heap.size := ⟨_, rfl⟩
            rw [← hq] at hp2 ⊢
            have HU2 := Lib.hid hp2
            clear hp2 hq hb3 hd2 hc3 HRI HGI HT2'
            obtain ⟨s2W, rfl⟩ : ∃ Y, Y = w2 := ⟨_, rfl⟩
            go_wp2_with fail
            obtain ⟨vv3, hvv⟩ := HU2.out.ref
            refine (HA4.out _ vv3 hvv).mono ?_
            rintro e T3 ⟨rfl, hb⟩
            have HT3' := Lib.hid (HU2.out.below hb)
            have hd2 := (hb.cell (cell_lt hd1)).trans hd1
            have hc3 := (hb.cell (cell_lt hc2)).trans hc2
            clear hb hd1 hc2 HU2 hvv
            go_upto_region 30 with (first | ((with_reducible show wpList _ _ _ (⟨none, Op.store 38 _ _, _, _, _, _⟩ :: _) _ _); refine wpList_store_whole (by rfl) 38 (.tmp 19) (.tmp 157) (by rfl) T3.heap.size (by rfl) #[.string u2.key, .string u2.value, .int .u32 u2.flags, .int .u64 u2.id, .int .i64 u2.dies, .int .i64 u2.gen] (by rfl) _ 38 (heap_alloc_new _ _) (by rfl) (by kernel_rfl) (by simp [Value.oneCell']) ?_; intro w2 hr2 hg2 hs2; have HRI := Lib.hid hr2; have HGI := Lib.hid hg2; clear hr2 hg2 hs2) | fail)
            have hb3 : Below T3.heap.size T3 w2 := grown_below ((Below.refl _ _).alloc (Nat.le_refl _) _) (by rw [size_at]; omega) HGI.out (fun k hk => by cases hk; exact Nat.le_refl _)
            have hd1 := (hb3.cell (cell_lt hd2)).trans hd2
            have hc2 := (hb3.cell (cell_lt hc3)).trans hc3
            have hp2 := HT3'.out.put HRI.out HGI.out (by decide) (by decide)
            obtain ⟨s3, hq⟩ : ∃ q, q = T3.heap.size := ⟨_, rfl⟩
            rw [← hq] at hp2 ⊢
            have HU3 := Lib.hid hp2
            clear hp2 hq hb3 hd2 hc3 HRI HGI HT3'
            obtain ⟨s3W, rfl⟩ : ∃ Y, Y = w2 := ⟨_, rfl⟩
            clear hd1 hc2 HA1 HA2 HA3 HA4
            have qu1 : ∀ W : World, (binOp .neq 38 (.agg #[.string u1.key, .string u1.value, .int .u32 u1.flags, .int .u64 u1.id, .int .i64 u1.dies, .int .i64 u1.gen]) (.agg #[.string u1.key, .string u1.value, .int .u32 u1.flags, .int .u64 u1.id, .int .i64 u1.dies, .int .i64 u1.gen])).run Tryz.prog W = .ok (.bool false) W := fun W => by have h := run_item_ne u1 u1 W; rw [decide_eq_true rfl] at h; exact h
            have qu2 : ∀ W : World, (binOp .neq 38 (.agg #[.string u2.key, .string u2.value, .int .u32 u2.flags, .int .u64 u2.id, .int .i64 u2.dies, .int .i64 u2.gen]) (.agg #[.string u2.key, .string u2.value, .int .u32 u2.flags, .int .u64 u2.id, .int .i64 u2.dies, .int .i64 u2.gen])).run Tryz.prog W = .ok (.bool false) W := fun W => by have h := run_item_ne u2 u2 W; rw [decide_eq_true rfl] at h; exact h
            have e00 : s3W.cell? ⟨s0, 0, none⟩ = some (.string u1.key) := (cells_at (HU3.out.kept _ (.tail _ (.tail _ (.tail _ (.head _))))).2.2 0).1
            have e01 : s3W.cell? ⟨s0, 1, none⟩ = some (.string u1.value) := (cells_at (HU3.out.kept _ (.tail _ (.tail _ (.tail _ (.head _))))).2.2 1).1
            have e02 : s3W.cell? ⟨s0, 2, none⟩ = some (.int .u32 u1.flags) := (cells_at (HU3.out.kept _ (.tail _ (.tail _ (.tail _ (.head _))))).2.2 2).1
            have e03 : s3W.cell? ⟨s0, 3, none⟩ = some (.int .u64 u1.id) := (cells_at (HU3.out.kept _ (.tail _ (.tail _ (.tail _ (.head _))))).2.2 3).1
            have e04 : s3W.cell? ⟨s0, 4, none⟩ = some (.int .i64 u1.dies) := (cells_at (HU3.out.kept _ (.tail _ (.tail _ (.tail _ (.head _))))).2.2 4).1
            have e05 : s3W.cell? ⟨s0, 5, none⟩ = some (.int .i64 u1.gen) := (cells_at (HU3.out.kept _ (.tail _ (.tail _ (.tail _ (.head _))))).2.2 5).1
            have e10 : s3W.cell? ⟨s1, 0, none⟩ = some (.string u1.key) := (cells_at (HU3.out.kept _ (.tail _ (.tail _ (.head _)))).2.2 0).1
            have e11 : s3W.cell? ⟨s1, 1, none⟩ = some (.string u1.value) := (cells_at (HU3.out.kept _ (.tail _ (.tail _ (.head _)))).2.2 1).1
            have e12 : s3W.cell? ⟨s1, 2, none⟩ = some (.int .u32 u1.flags) := (cells_at (HU3.out.kept _ (.tail _ (.tail _ (.head _)))).2.2 2).1
            have e13 : s3W.cell? ⟨s1, 3, none⟩ = some (.int .u64 u1.id) := (cells_at (HU3.out.kept _ (.tail _ (.tail _ (.head _)))).2.2 3).1
            have e14 : s3W.cell? ⟨s1, 4, none⟩ = some (.int .i64 u1.dies) := (cells_at (HU3.out.kept _ (.tail _ (.tail _ (.head _)))).2.2 4).1
            have e15 : s3W.cell? ⟨s1, 5, none⟩ = some (.int .i64 u1.gen) := (cells_at (HU3.out.kept _ (.tail _ (.tail _ (.head _)))).2.2 5).1
            have e20 : s3W.cell? ⟨s2, 0, none⟩ = some (.string u2.key) := (cells_at (HU3.out.kept _ (.tail _ (.head _))).2.2 0).1
            have e21 : s3W.cell? ⟨s2, 1, none⟩ = some (.string u2.value) := (cells_at (HU3.out.kept _ (.tail _ (.head _))).2.2 1).1
            have e22 : s3W.cell? ⟨s2, 2, none⟩ = some (.int .u32 u2.flags) := (cells_at (HU3.out.kept _ (.tail _ (.head _))).2.2 2).1
            have e23 : s3W.cell? ⟨s2, 3, none⟩ = some (.int .u64 u2.id) := (cells_at (HU3.out.kept _ (.tail _ (.head _))).2.2 3).1
            have e24 : s3W.cell? ⟨s2, 4, none⟩ = some (.int .i64 u2.dies) := (cells_at (HU3.out.kept _ (.tail _ (.head _))).2.2 4).1
            have e25 : s3W.cell? ⟨s2, 5, none⟩ = some (.int .i64 u2.gen) := (cells_at (HU3.out.kept _ (.tail _ (.head _))).2.2 5).1
            have e30 : s3W.cell? ⟨s3, 0, none⟩ = some (.string u2.key) := (cells_at (HU3.out.kept _ (.head _)).2.2 0).1
            have e31 : s3W.cell? ⟨s3, 1, none⟩ = some (.string u2.value) := (cells_at (HU3.out.kept _ (.head _)).2.2 1).1
            have e32 : s3W.cell? ⟨s3, 2, none⟩ = some (.int .u32 u2.flags) := (cells_at (HU3.out.kept _ (.head _)).2.2 2).1
            have e33 : s3W.cell? ⟨s3, 3, none⟩ = some (.int .u64 u2.id) := (cells_at (HU3.out.kept _ (.head _)).2.2 3).1
            have e34 : s3W.cell? ⟨s3, 4, none⟩ = some (.int .i64 u2.dies) := (cells_at (HU3.out.kept _ (.head _)).2.2 4).1
            have e35 : s3W.cell? ⟨s3, 5, none⟩ = some (.int .i64 u2.gen) := (cells_at (HU3.out.kept _ (.head _)).2.2 5).1
            go_wp2_with fail
            obtain ⟨v9, hv9⟩ := HU3.out.ref
            refine (mapsSame_any HU3.out.lv.map hv9 (Nat.le_trans HMO.out.len (by have := HLI.out; omega))).mono ?_
            rintro e Y1 ⟨rfl, hb⟩
            have HU9 := Lib.hid (HU3.out.none.below hb)
            clear hb hv9
            go_wp2_with fail
            go_roundw
            case rel => exact ⟨i + 1, m2, by go_num, by have := HLI.out; omega, HU9, HMO⟩
            case measure => simp [intOf]; have := HLI.out; omega
      · clear HSX HC
        go_wp2_with fail
        refine (lives36 _ (HE1.out.below HP0.out.lv.bel) (HP1.out.below HP0.out.lv.bel)).mono ?_
        rintro e W4 ⟨rfl, hb⟩
        have HB := Lib.hid (HBW.out.trans ((HP0.out.lv.bel.trans (hb.mono HP0.out.lv.bel.size)).mono HBW.out.size))
        clear hb
        go_wp2_with fail
        go_ret
        exact ⟨rfl, HB.out⟩
  · go_wp2_with fail
    refine (lives36 _ HE1.out HP1.out).mono ?_
    rintro e W2 ⟨rfl, hb⟩
    have HB := Lib.hid (HBW.out.trans (hb.mono HBW.out.size))
    clear hb
    go_wp2_with fail
    go_ret
    exact ⟨rfl, HB.out⟩
end Go.Proofs.YtaooangnnlopcaaGreatDoor
