/- The law MapsKeeps, walked. Condition: the library's tables lie as they are laid. -/
import Derived.Test.YtaooangnnlopcaaDoorMapsKeep2
import Derived.Test.YtaooangnnlopcaaDoorMapsOne
namespace Go.Proofs.YtaooangnnlopcaaDoor
open Go.RowKit Go.ChangeMaps Go.MapKept
abbrev callA (c : CallD) : Array Value := #[.int .u8 c.verb, .string c.key, .string c.value, .int .u32 c.flags, .int .i64 c.exp, .int .u64 c.id, .int .u64 c.by']
/-- The record that was stored. -/
structure Kept (m : MapM) (ep : Nat) (K : ByteArray) (x : ItemD) (top : Nat) : Prop where
  ok : RunOk m ep
  at' : atL m.L K = some x
  ids : m.ids ≤ top
set_option maxRecDepth 100000 in
set_option maxHeartbeats 8000000 in
theorem mapsKeeps_walk {w : World} {lv : Value} {L : List StepD} {c : CallD} (hl : StepRow w lv L) (hc : CallFit c) (hE : HasErr w) (hP : HasPow w) : Calls Tryd.prog 3 #[.agg #[.int .u8 c.verb, .string c.key, .string c.value, .int .u32 c.flags, .int .i64 c.exp, .int .u64 c.id, .int .u64 c.by'], lv] w fun e w' => e = .returned (.bool true) ∧ Below w.heap.size w w' := by
  have HL := Lib.hid hl
  have HCF := Lib.hid hc
  have HE := Lib.hid hE
  have HP := Lib.hid hP
  have hmx := hl.1
  unfold maxLen at hmx
  obtain ⟨-, hsx, la, lc, rfl, hcell⟩ := hl
  have HSX := Lib.hid hsx
  have HC := Lib.hid (fun (j : Nat) (x : StepD) (hj : L[j]? = some x) => StepRow.at (c := lc) hcell hj)
  clear hE hP hc hsx hcell
  go_enter Tryd.func3, Tryd.ntmps3
  go_upto_region 1 with fail
  obtain ⟨W0, hW0⟩ : ∃ X, X = w.alloc (.cells #[.int .u8 c.verb, .string c.key, .string c.value, .int .u32 c.flags, .int .i64 c.exp, .int .u64 c.id, .int .u64 c.by'] 26) := ⟨_, rfl⟩
  have hb0 : Below w.heap.size w W0 := by rw [hW0]; exact (Below.refl _ _).alloc (Nat.le_refl _) _
  have hx0 : W0.heap[w.heap.size]? = some (.cells #[.int .u8 c.verb, .string c.key, .string c.value, .int .u32 c.flags, .int .i64 c.exp, .int .u64 c.id, .int .u64 c.by'] 26 (0, 0)) := by rw [hW0, heap_at, if_pos rfl]
  rw [← hW0]
  have HB0 := Lib.hid hb0
  have HX0 := Lib.hid hx0
  clear hW0 hb0 hx0
  obtain ⟨n0, hn0⟩ : ∃ n, n = w.heap.size := ⟨_, rfl⟩
  rw [← hn0] at HX0 ⊢
  have HN0 := Lib.hid hn0
  clear hn0
  go_cut [31] (fun s31 wx => MayGo s31 (L.length ≤ 100 ∧ okB (bs c.key) = true) ∧ Below W0.heap.size W0 wx)
  case first =>
    go_wp2_with fail
    refine (long_any (HL.out.below HB0.out)).mono ?_
    rintro e W1 ⟨⟨b, rfl, h100⟩, hb⟩
    have HB1 := Lib.hid hb
    have H100 := Lib.hid h100
    clear hb h100
    have hlt : n0 < W0.heap.size := (Array.getElem?_eq_some_iff.1 HX0.out).1
    have hx1 := (HB1.out.block n0 hlt).trans HX0.out
    have e0 : W1.cell? ⟨n0, 0, none⟩ = some (.int .u8 c.verb) := (cells_at hx1 0).1
    have e1 : W1.cell? ⟨n0, 1, none⟩ = some (.string c.key) := (cells_at hx1 1).1
    have e2 : W1.cell? ⟨n0, 2, none⟩ = some (.string c.value) := (cells_at hx1 2).1
    have e3 : W1.cell? ⟨n0, 3, none⟩ = some (.int .u32 c.flags) := (cells_at hx1 3).1
    have e4 : W1.cell? ⟨n0, 4, none⟩ = some (.int .i64 c.exp) := (cells_at hx1 4).1
    have e5 : W1.cell? ⟨n0, 5, none⟩ = some (.int .u64 c.id) := (cells_at hx1 5).1
    have e6 : W1.cell? ⟨n0, 6, none⟩ = some (.int .u64 c.by') := (cells_at hx1 6).1
    clear hlt hx1
    cases b
    · have h100 := Lib.hid (H100.out rfl)
      clear H100
      go_wp2_with fail
      refine (long_any (stepRow_one _ HCF.out)).mono ?_
      rintro e W2 ⟨⟨b, rfl, -⟩, hb⟩
      have hb2 : Below W1.heap.size W1 W2 := ((Below.refl _ _).alloc (Nat.le_refl _) _).trans (hb.mono (by rw [size_at]; omega))
      have y1 : W2.cell? ⟨n0, 1, none⟩ = some (.string c.key) := (hb2.cell (p := ⟨n0, 1, none⟩) (cell_lt e1)).trans e1
      have HB2 := Lib.hid (HB1.out.trans (hb2.mono HB1.out.size))
      clear hb hb2 e0 e1 e2 e3 e4 e5 e6 HB1
      cases b
      · go_wp2_with fail
        refine (ok_any c.key _ HCF.out.key).mono ?_
        rintro e W3 ⟨rfl, rfl⟩
        clear y1
        cases hok : okB (bs c.key)
        · go_wp2_with fail
          go_meet
          case rel => exact ⟨mayGo_yes, HB2.out⟩
        · go_wp2_with fail
          go_meet
          case rel => exact ⟨mayGo_no ⟨h100.out, hok⟩, HB2.out⟩
      · go_wp2_with fail
        go_meet
        case rel => exact ⟨mayGo_yes, HB2.out⟩
    · go_wp2_with fail
      go_meet
      case rel => exact ⟨mayGo_yes, HB1.out⟩
  case rest =>
    obtain ⟨⟨b, rfl, hgo⟩, hb⟩ := hcut
    obtain ⟨W1, rfl⟩ : ∃ X, X = wc := ⟨_, rfl⟩
    have hlt : n0 < W0.heap.size := (Array.getElem?_eq_some_iff.1 HX0.out).1
    have hx1 := (hb.block n0 hlt).trans HX0.out
    have hlt1 : n0 < W1.heap.size := Nat.lt_of_lt_of_le hlt hb.size
    have HBW := Lib.hid (HB0.out.trans (hb.mono HB0.out.size))
    have HGO := Lib.hid hgo
    have HX1 := Lib.hid hx1
    have HLT := Lib.hid hlt1
    clear hb hgo hx1 hlt hlt1 HB0 HX0
    cases b
    · have hgo := HGO.out rfl
      have HOK := Lib.hid hgo.2
      have H100 := Lib.hid hgo.1
      clear HGO hgo
      go_wp2_with fail
      refine (mapsNew_own _).mono ?_
      rintro e W2 ⟨rfl, hl⟩
      obtain ⟨p, hp⟩ : ∃ p, p = W1.heap.size := ⟨_, rfl⟩
      have hnp : n0 ≠ p := by have := HLT.out; omega
      have hbx := (hl.bel.block n0 HLT.out).trans HX1.out
      rw [← hp] at hl ⊢
      have hk : KpAt w W2 p newM [(n0, callA c, 26)] := (KpAt.mk (bs := []) (hl.base HBW.out) (fun x hx => by cases hx)).add hnp hbx
      have c0 : W2.cell? ⟨n0, 0, none⟩ = some (.int .u8 c.verb) := (cells_at hbx 0).1
      have f0 : W2.frozen? ⟨n0, 0, none⟩ = false := (cells_at hbx 0).2
      have HK := Lib.hid hk
      clear hl hp hnp hbx hk
      go_upto_region 4 with fail
      go_upto_region 5 with fail
      clear c0 f0
      have hk : KpAt w (W2.setCell ⟨n0, 0, none⟩ (.int .u8 3)) p newM [(n0, #[.int .u8 3, .string c.key, .string c.value, .int .u32 c.flags, .int .i64 c.exp, .int .u64 c.id, .int .u64 c.by'], 26)] := HK.out.set (bs := []) (by rw [HN0.out]; exact Nat.le_refl _) (fun x hx => by cases hx)
      obtain ⟨W3, hW3⟩ : ∃ X, X = W2.setCell ⟨n0, 0, none⟩ (.int .u8 3) := ⟨_, rfl⟩
      rw [← hW3] at hk ⊢
      have HK2 := Lib.hid hk
      clear hk hW3 HK
      have HK := HK2
      clear HK2
      obtain ⟨dd, hdd⟩ : ∃ d, d = diesE 0 c.exp := ⟨_, rfl⟩
      have hfit : CallFit ⟨3, c.key, c.value, c.flags, c.exp, c.id, c.by'⟩ := ⟨by show (0 : Int) ≤ 3 ∧ (3 : Int) ≤ 255; omega, HCF.out.key, HCF.out.value, HCF.out.flags, HCF.out.exp, HCF.out.id, HCF.out.by'⟩
      have hset := does_set (m := newM) (c := ⟨3, c.key, c.value, c.flags, c.exp, c.id, c.by'⟩) (ep := 0) rfl RunOk.new.comes HOK.out
      have hro := RunOk.new.does ⟨3, c.key, c.value, c.flags, c.exp, c.id, c.by'⟩
      obtain ⟨mA, hmA⟩ : ∃ m, m = (doesM newM ⟨3, c.key, c.value, c.flags, c.exp, c.id, c.by'⟩ 0).2 := ⟨_, rfl⟩
      have hkA : Kept mA 0 c.key ⟨c.key, c.value, c.flags, 1, dd, 0⟩ 1 ∧ mA.ids = 1 := by
        rw [hset] at hro hmA
        rw [← hmA] at hro
        rw [if_neg (by show ¬ (1 : Int) = 10; omega)] at hro
        rw [hmA, hdd]
        refine ⟨⟨hmA ▸ hro, at_put_self (L := []) (y := keepI ⟨3, c.key, c.value, c.flags, c.exp, c.id, c.by'⟩ 0 1), Nat.le_refl _⟩, rfl⟩
      have HKA := Lib.hid hkA
      clear hdd hro hkA
      go_wp2_with (first | ((with_reducible show wpList _ _ _ (⟨_, Op.load 26 _, _, _, _, _⟩ :: _) _ _); refine wpList_load_row (by rfl) 26 (.tmp 2) (by rfl) n0 (by rfl) 26 _ _ _ (HK.out.kept _ (.head _)).2 Tryd.underlying26 rfl (by kernel_rfl) ?_) | fail)
      refine (kp_do (c := ⟨3, c.key, c.value, c.flags, c.exp, c.id, c.by'⟩) (ep := 0) HK.out (by decide) (by decide) hfit (by decide) HE.out HP.out).mono ?_
      rintro e W4 ⟨rfl, hk⟩
      rw [← hmA] at hk
      rw [hset]
      rw [show (⟨1, ((newM.ids + 1 : Nat) : Int), noItem⟩ : AnsD).cells = #[.int .u8 1, .int .u64 1, .string ⟨#[]⟩, .string ⟨#[]⟩, .int .u32 0, .int .u64 0, .int .i64 0, .int .i64 0] from rfl]
      have HK2 := Lib.hid hk
      clear hk HK hset hmA hfit
      have HK := HK2
      clear HK2
      have qa : ∀ W : World, (binOp .neq 39 (.agg #[.int .u8 1, .int .u64 1, .string ⟨#[]⟩, .string ⟨#[]⟩, .int .u32 0, .int .u64 0, .int .i64 0, .int .i64 0]) (.agg #[.int .u8 1, .int .u64 1, .string ⟨#[]⟩, .string ⟨#[]⟩, .int .u32 0, .int .u64 0, .int .i64 0, .int .i64 0])).run Tryd.prog W = .ok (.bool false) W := fun W => by have h := run_ans_ne ⟨1, 1, noItem⟩ ⟨1, 1, noItem⟩ W; rw [decide_eq_true rfl] at h; exact h
      have qb : ∀ W : World, (Instr.build 39 #[(0, .int .u8 1), (1, .int .u64 1)]).run Tryd.prog W = .ok (.agg #[.int .u8 1, .int .u64 1, .string ⟨#[]⟩, .string ⟨#[]⟩, .int .u32 0, .int .u64 0, .int .i64 0, .int .i64 0]) W := fun W => by kernel_rfl
      go_upto_region 7 with fail
      clear qa qb
      have y1 : W4.cell? ⟨n0, 1, none⟩ = some (.string c.key) := (cells_at (HK.out.kept _ (.head _)).2 1).1
      go_wp2_with fail
      clear y1
      refine (mapsAt_any HK.out.lv.map HCF.out.key).mono ?_
      rintro e W5 ⟨rfl, hb⟩
      rw [(there_was (ep := 0) HKA.out.1.at').2, HKA.out.1.at']
      have HK2 := Lib.hid (HK.out.below hb)
      clear hb HK
      have HK := HK2
      clear HK2
      rw [show (some (⟨c.key, c.value, c.flags, 1, dd, 0⟩ : ItemD)).isSome = true from rfl]
      go_upto_region 8 with (first | ((with_reducible show wpList _ _ _ (⟨none, Op.store 37 _ _, _, _, _, _⟩ :: _) _ _); refine wpList_store_whole (by rfl) 37 (.tmp 6) (.tmp 45) (by rfl) W5.heap.size (by rfl) #[.string c.key, .string c.value, .int .u32 c.flags, .int .u64 1, .int .i64 dd, .int .i64 0] (by rfl) _ 37 (heap_alloc_new _ _) (by rfl) (by kernel_rfl) (by simp [Value.oneCell']) ?_; intro w2 hr2 hg2 hs2; have HG2 := Lib.hid hg2; have HR2 := Lib.hid hr2; clear hg2 hr2 hs2) | fail)
      have hk := HK.out.put HR2.out HG2.out
      obtain ⟨q, hq⟩ : ∃ q, q = W5.heap.size := ⟨_, rfl⟩
      rw [← hq] at hk ⊢
      have HK2 := Lib.hid hk
      have HQN := Lib.hid (show q ≠ n0 from by have := (Array.getElem?_eq_some_iff.1 (HK.out.kept _ (.head _)).2).1; simp only at this; omega)
      clear hk hq HG2 HR2 HK
      have HK := HK2
      clear HK2
      obtain ⟨W6, rfl⟩ : ∃ X, X = w2 := ⟨_, rfl⟩
      go_upto_region 11 with fail
      go_loopw [8, 9, 10] (fun s8 s9 s10 wr => ∃ (i : Nat) (m1 : MapM) (e1 : Nat), s10 = .int .i64 (i : Int) ∧ s8 = .int .u64 (e1 : Int) ∧ s9 = .int .u64 (m1.ids : Int) ∧ i ≤ L.length ∧ Hid (KpAt w wr p m1 [(q, #[.string c.key, .string c.value, .int .u32 c.flags, .int .u64 1, .int .i64 dd, .int .i64 0], 37), (n0, #[.int .u8 3, .string c.key, .string c.value, .int .u32 c.flags, .int .i64 c.exp, .int .u64 c.id, .int .u64 c.by'], 26)]) ∧ Hid (Kept m1 e1 c.key ⟨c.key, c.value, c.flags, 1, dd, 0⟩ (1 + i))) (fun _ _ s10 _ => L.length - (intOf s10).toNat)
      case atStart => exact ⟨0, mA, 0, rfl, rfl, by rw [HKA.out.2]; rfl, Nat.zero_le _, HK, Lib.hid HKA.out.1⟩
      case round =>
        obtain ⟨i, m1, e1, rfl, rfl, rfl, hi, HK1, HM1⟩ := hrel
        clear HK HKA
        by_cases hlt : i < L.length
        · obtain ⟨x, hx⟩ : ∃ x, L[i]? = some x := ⟨_, List.getElem?_eq_getElem hlt⟩
          obtain ⟨g, b, hix, hcw⟩ := HC.out i x hx
          have hsi := HSX.out x (List.mem_of_getElem? hx)
          have htl := hsi.ticks
          obtain ⟨t, ht⟩ : ∃ t, t = x.ticks := ⟨_, rfl⟩
          obtain ⟨r, hr⟩ : ∃ r, r = t % 5 := ⟨_, rfl⟩
          have q1 : (t : Int) % 5 = (r : Int) := by omega
          have q2 : (t : Int).tmod 5 = (r : Int) := by rw [Int.tmod_eq_emod_of_nonneg (by omega)]; exact q1
          have hr5 : r < 5 := by omega
          rw [← ht] at htl
          have HCW := Lib.hid hcw
          have HSI := Lib.hid hsi
          have HT := Lib.hid ht
          clear hcw hsi hx ht hr
          obtain ⟨id1, hid1⟩ : ∃ k, k = m1.ids := ⟨_, rfl⟩
          rw [← hid1]
          have HID1 := Lib.hid hid1
          clear hid1
          go_upto_region 14 with fail
          go_loopw [8, 11] (fun s8 s11 wk => ∃ k : Nat, s11 = .int .i64 (k : Int) ∧ s8 = .int .u64 (ticksN k e1 : Int) ∧ k ≤ r ∧ Hid (KpAt w wk p m1 [(q, #[.string c.key, .string c.value, .int .u32 c.flags, .int .u64 1, .int .i64 dd, .int .i64 0], 37), (n0, #[.int .u8 3, .string c.key, .string c.value, .int .u32 c.flags, .int .i64 c.exp, .int .u64 c.id, .int .u64 c.by'], 26)])) (fun _ s11 _ => 5 - (intOf s11).toNat)
          case atStart => exact ⟨0, rfl, rfl, Nat.zero_le _, HK1⟩
          case round =>
            obtain ⟨k, rfl, rfl, hkr, HKk⟩ := hrel
            have htk := HCW.out wr HKk.out.lv.bel 7 _ rfl
            rw [← HT.out] at htk
            have htl0 : (0 : Int) ≤ (t : Int) := by omega
            by_cases hk2 : k < r
            · go_upto_region 16 with fail
              go_wp2_with fail
              refine (tick_any (ticksN k e1) (ticksN_lt HM1.out.ok.he k) _).mono ?_
              rintro e W7 ⟨rfl, hb⟩
              have HK2 := Lib.hid (HKk.out.below hb)
              clear hb HKk htk
              go_wp2_with fail
              go_roundw
              case rel => exact ⟨k + 1, by go_num, rfl, by omega, HK2⟩
              case measure => simp [intOf]; omega
            · obtain rfl : k = r := by omega
              clear hk2 hkr HK1
              have hok := HM1.out.ok.ticks k
              obtain ⟨e2, he2⟩ : ∃ e, e = ticksN k e1 := ⟨_, rfl⟩
              rw [← he2] at hok ⊢
              have HOK2 := Lib.hid hok
              clear hok he2
              go_upto_region 17 with fail
              have x0 := HCW.out wr HKk.out.lv.bel 0 _ rfl
              have x1 := HCW.out wr HKk.out.lv.bel 1 _ rfl
              rw [Nat.add_zero] at x0
              have y1 : wr.cell? ⟨n0, 1, none⟩ = some (.string c.key) := (cells_at (HKk.out.kept _ (.tail _ (.head _))).2 1).1
              clear htk
              obtain ⟨XK, hXK⟩ : ∃ k, k = x.call.key := ⟨_, rfl⟩
              rw [← hXK] at x1
              obtain ⟨XV, hXV⟩ : ∃ k, k = x.call.verb := ⟨_, rfl⟩
              rw [← hXV] at x0
              obtain ⟨CK, hCK⟩ : ∃ k, k = c.key := ⟨_, rfl⟩
              rw [← hCK] at y1
              have HXK := Lib.hid hXK
              have HXV := Lib.hid hXV
              have HCK := Lib.hid hCK
              clear hXK hXV hCK
              by_cases hk : XK = CK
              · subst hk
                go_quiet (fail)
                go_wp2_with fail
                go_roundw
                case rel => exact ⟨i + 1, m1, e2, by go_num, rfl, by rw [HID1.out], by omega, Lib.hid (HKk.out.drewN _), Lib.hid ⟨HOK2.out, HM1.out.at', by have := HM1.out.ids; omega⟩⟩
                case measure => simp [intOf]; omega
              · have hk2 : ¬ XK.toList = CK.toList := fun e => hk (bytes_toList.1 e)
                have HNE := Lib.hid hk
                by_cases hv : XV = 11
                · subst hv
                  go_quiet (fail)
                  go_wp2_with fail
                  go_roundw
                  case rel => exact ⟨i + 1, m1, e2, by go_num, rfl, by rw [HID1.out], by omega, Lib.hid (HKk.out.drewN _), Lib.hid ⟨HOK2.out, HM1.out.at', by have := HM1.out.ids; omega⟩⟩
                  case measure => simp [intOf]; omega
                · have HNV := Lib.hid hv
                  have hv2 : (XV == 11) = false := beq_eq_false_iff_ne.2 hv
                  go_cut [83] (fun s83 wx => s83 = .bool false ∧ ∃ n, wx = wr.drewN n)
                  case first =>
                    go_quiet (fail)
                    go_wp2_with fail
                    go_meet
                    case rel => exact ⟨by simp_all, nq, rfl⟩
                  obtain ⟨rfl, n7, hW7⟩ := hcut
                  obtain ⟨W7, rfl⟩ : ∃ X, X = wc := ⟨_, rfl⟩
                  have hk7 := HKk.out.drewN n7
                  rw [← hW7] at hk7
                  have HK7 := Lib.hid hk7
                  clear hk7 hW7 HKk hv hv2 hk hk2 x0 x1 y1
                  go_upto_region 18 with fail
                  have x0 := HCW.out W7 HK7.out.lv.bel 0 _ rfl
                  have x1 := HCW.out W7 HK7.out.lv.bel 1 _ rfl
                  have x2 := HCW.out W7 HK7.out.lv.bel 2 _ rfl
                  have x3 := HCW.out W7 HK7.out.lv.bel 3 _ rfl
                  have x4 := HCW.out W7 HK7.out.lv.bel 4 _ rfl
                  have x5 := HCW.out W7 HK7.out.lv.bel 5 _ rfl
                  have x6 := HCW.out W7 HK7.out.lv.bel 6 _ rfl
                  rw [Nat.add_zero] at x0
                  go_wp2_with fail
                  have hsi := HSI.out.call
                  refine (kp_do (c := x.call) HK7.out HOK2.out.me HOK2.out.he hsi (by have := HM1.out.ids; have := H100.out; omega) HE.out HP.out).mono ?_
                  rintro e W8 ⟨rfl, hk⟩
                  have hids := does_ids m1 x.call e2
                  have hother := does_other (m := m1) (c := x.call) (ep := e2) (K := c.key) (by rw [← HXK.out, ← HCK.out]; exact HNE.out)
                  have hok := HOK2.out.does x.call
                  rcases does_epoch (c := x.call) HOK2.out.me HOK2.out.he HOK2.out.comes with ⟨-, hbad, -⟩ | ⟨hk10, -⟩
                  · exact absurd (HXV.out.trans hbad) HNV.out
                  rw [if_neg hk10] at hok
                  rw [HM1.out.at'] at hother
                  clear hk10 hsi x0 x1 x2 x3 x4 x5 x6 HK7
                  obtain ⟨⟨a, m2⟩, hr⟩ : ∃ r, r = doesM m1 x.call e2 := ⟨_, rfl⟩
                  rw [← hr] at hk hids hother hok ⊢
                  simp only at hk hids hother hok ⊢
                  have HK8 := Lib.hid hk
                  have HM2 := Lib.hid (show Kept m2 e2 c.key ⟨c.key, c.value, c.flags, 1, dd, 0⟩ (1 + (i + 1)) from ⟨hok, hother, by have := HM1.out.ids; rw [hids]; split <;> omega⟩)
                  have HIDS := Lib.hid hids
                  clear hk hids hother hok hr hix
                  unfold AnsD.cells
                  go_upto_region 19 with (first | ((with_reducible show wpList _ _ _ (⟨none, Op.store 39 _ _, _, _, _, _⟩ :: _) _ _); refine wpList_store_whole (by rfl) 39 (.tmp 12) (.tmp 91) (by rfl) W8.heap.size (by rfl) #[.int .u8 a.kind, .int .u64 a.number, .string a.item.key, .string a.item.value, .int .u32 a.item.flags, .int .u64 a.item.id, .int .i64 a.item.dies, .int .i64 a.item.gen] (by rfl) _ 39 (heap_alloc_new _ _) (by rfl) (by kernel_rfl) (by simp [Value.oneCell']) ?_; intro w2 hr2 hg2 hs2; have HG2 := Lib.hid hg2; have HR2 := Lib.hid hr2; clear hg2 hr2 hs2) | fail)
                  have hk := HK8.out.put HR2.out HG2.out
                  obtain ⟨qa, hq⟩ : ∃ q, q = W8.heap.size := ⟨_, rfl⟩
                  rw [← hq] at hk ⊢
                  have y0 : w2.cell? ⟨qa, 0, none⟩ = some (.int .u8 a.kind) := (cells_at (hk.kept _ (.head _)).2 0).1
                  have HK9 := Lib.hid hk.less
                  clear hk hq HG2 HR2 HK8
                  generalize a.kind = ak at *
                  obtain ⟨W9, rfl⟩ : ∃ X, X = w2 := ⟨_, rfl⟩
                  obtain ⟨id2, hid2⟩ : ∃ k, k = m2.ids := ⟨_, rfl⟩
                  have hids2 : id2 = if ak = 1 ∨ ak = 8 then id1 + 1 else id1 := by rw [hid2, HIDS.out, HID1.out]
                  have hidl : id1 ≤ 200 := by have := HM1.out.ids; have := HID1.out; have := H100.out; omega
                  have HID2 := Lib.hid hid2
                  have HIDS2 := Lib.hid hids2
                  clear hids2 hid2 HIDS HID1 HM1
                  rw [show ∀ (a : Act) (v : Value), a.put none v = a from fun _ _ => rfl]
                  go_cut [99] (fun s99 wx => s99 = .bool (decide (ak = 1 ∨ ak = 8)) ∧ wx = W9)
                  case first =>
                    by_cases h1 : ak = 1
                    · subst h1
                      go_wp2_with fail
                      go_meet
                      case rel => exact ⟨rfl, rfl⟩
                    · by_cases h8 : ak = 8
                      · subst h8
                        go_wp2_with fail
                        go_meet
                        case rel => exact ⟨rfl, rfl⟩
                      · have h1b : (ak == 1) = false := beq_eq_false_iff_ne.2 h1
                        have h8b : (ak == 8) = false := beq_eq_false_iff_ne.2 h8
                        have HD := Lib.hid (show decide (ak = 1 ∨ ak = 8) = false by rw [decide_eq_false_iff_not]; omega)
                        go_wp2_with fail
                        go_meet
                        case rel => exact ⟨by rw [HD.out], rfl⟩
                  case rest =>
                    obtain ⟨rfl, rfl⟩ := hcut
                    obtain ⟨W10, rfl⟩ : ∃ X, X = wc := ⟨_, rfl⟩
                    clear y0
                    go_upto_if 99 with fail
                    go_cut [9, 100, 101] (fun s9 _ _ wx => s9 = .int .u64 (id2 : Int) ∧ wx = W10)
                    case first =>
                      have hw1 : IntKind.u64.wrap ((id1 : Int) + 1) = ((id1 + 1 : Nat) : Int) := by rw [IntKind.wrap_u64]; omega
                      by_cases h18 : ak = 1 ∨ ak = 8
                      · have d1 : decide (ak = 1 ∨ ak = 8) = true := decide_eq_true h18
                        have h2 := HIDS2.out
                        rw [if_pos h18] at h2
                        have H2 := Lib.hid h2
                        clear h2 h18
                        rw [d1]
                        go_wp2_with fail
                        go_meet
                        case rel => exact ⟨by rw [H2.out]; first | rfl | exact congrArg _ hw1, rfl⟩
                      · have d1 : decide (ak = 1 ∨ ak = 8) = false := decide_eq_false h18
                        have h2 := HIDS2.out
                        rw [if_neg h18] at h2
                        have H2 := Lib.hid h2
                        clear h2 h18
                        rw [d1]
                        go_wp2_with fail
                        go_meet
                        case rel => exact ⟨by rw [H2.out], rfl⟩
                    case rest =>
                      obtain ⟨rfl, rfl⟩ := hcut
                      obtain ⟨W11, rfl⟩ : ∃ X, X = wc := ⟨_, rfl⟩
                      have y1 : W11.cell? ⟨n0, 1, none⟩ = some (.string c.key) := (cells_at (HK9.out.kept _ (.tail _ (.head _))).2 1).1
                      go_upto_region 21 with fail
                      go_wp2_with fail
                      clear y1
                      refine (mapsAt_any HK9.out.lv.map HCF.out.key).mono ?_
                      rintro e W12 ⟨rfl, hb⟩
                      rw [(there_was (ep := 0) HM2.out.at').2, HM2.out.at']
                      have HK10 := Lib.hid (HK9.out.below hb)
                      clear hb HK9
                      rw [show (some (⟨c.key, c.value, c.flags, 1, dd, 0⟩ : ItemD)).isSome = true from rfl]
                      go_upto_region 22 with (first | ((with_reducible show wpList _ _ _ (⟨none, Op.store 37 _ _, _, _, _, _⟩ :: _) _ _); refine wpList_store_whole (by rfl) 37 (.tmp 13) (.tmp 107) (by rfl) W12.heap.size (by rfl) #[.string c.key, .string c.value, .int .u32 c.flags, .int .u64 1, .int .i64 dd, .int .i64 0] (by rfl) _ 37 (heap_alloc_new _ _) (by rfl) (by kernel_rfl) (by simp [Value.oneCell']) ?_; intro w2 hr2 hg2 hs2; have HG2 := Lib.hid hg2; have HR2 := Lib.hid hr2; clear hg2 hr2 hs2) | fail)
                      have hk := HK10.out.put HR2.out HG2.out
                      obtain ⟨qb, hq⟩ : ∃ q, q = W12.heap.size := ⟨_, rfl⟩
                      rw [← hq] at hk ⊢
                      have HK11 := Lib.hid hk
                      clear hk hq HG2 HR2 HK10
                      obtain ⟨W13, rfl⟩ : ∃ X, X = w2 := ⟨_, rfl⟩
                      have qi : ∀ W : World, (binOp .neq 37 (.agg #[.string c.key, .string c.value, .int .u32 c.flags, .int .u64 1, .int .i64 dd, .int .i64 0]) (.agg #[.string c.key, .string c.value, .int .u32 c.flags, .int .u64 1, .int .i64 dd, .int .i64 0])).run Tryd.prog W = .ok (.bool false) W := fun W => by have h := run_item_ne ⟨c.key, c.value, c.flags, 1, dd, 0⟩ ⟨c.key, c.value, c.flags, 1, dd, 0⟩ W; rw [decide_eq_true rfl] at h; exact h
                      go_wp2_with (first | ((with_reducible show wpList _ _ _ (⟨some 109, Op.load 37 _, _, _, _, _⟩ :: _) _ _); refine wpList_load_row (by rfl) 37 (.tmp 13) (by rfl) qb (by rfl) 37 _ _ _ (HK11.out.kept _ (.head _)).2 Tryd.underlying37 rfl (by kernel_rfl) ?_) | ((with_reducible show wpList _ _ _ (⟨some 110, Op.load 37 _, _, _, _, _⟩ :: _) _ _); refine wpList_load_row (by rfl) 37 (.tmp 6) (by rfl) q (by rfl) 37 _ _ _ (HK11.out.kept _ (.tail _ (.head _))).2 Tryd.underlying37 rfl (by kernel_rfl) ?_) | fail)
                      refine (mapsIds_any HK11.out.lv.map).mono ?_
                      rintro e W14 ⟨rfl, rfl⟩
                      rw [← HID2.out]
                      go_wp2_with fail
                      go_roundw
                      case rel => exact ⟨i + 1, m2, e2, by go_num, rfl, by rw [HID2.out], by omega, Lib.hid HK11.out.less, HM2⟩
                      case measure => simp [intOf]; omega
        · have y1 : wr.cell? ⟨n0, 1, none⟩ = some (.string c.key) := (cells_at (HK1.out.kept _ (.tail _ (.head _))).2 1).1
          go_upto_region 24 with fail
          clear hlt
          go_wp2_with fail
          clear y1
          have hcf := fit_get HCF.out.key
          refine (mapsGives_any (c := getC c.key) (ep := e1) HK1.out.lv.map HM1.out.ok.me HM1.out.ok.he hcf.key hcf.verb hcf.exp hcf.by' (by have := HM1.out.ids; have := H100.out; omega) (HE.out.below HK1.out.lv.bel) (HP.out.below HK1.out.lv.bel)).mono ?_
          rintro e W7 ⟨rfl, hb⟩
          have HK2 := Lib.hid (HK1.out.below hb)
          have hget := isM_get HM1.out.ok.comes HOK.out
          rw [(there_was (ep := e1) HM1.out.at').1, (there_was (ep := e1) HM1.out.at').2] at hget
          have HAL := Lib.hid (fun W => alive_any ⟨c.key, c.value, c.flags, 1, dd, 0⟩ e1 HM1.out.ok.he W)
          obtain ⟨al, hal⟩ : ∃ b, b = aliveE ⟨c.key, c.value, c.flags, 1, dd, 0⟩ e1 := ⟨_, rfl⟩
          rw [← hal] at hget HAL
          rw [hget.1, hget.2]
          clear hb hcf hget hal HK1
          cases al
          · skip
            rw [show (if false = true then (⟨11, 0, ⟨c.key, c.value, c.flags, 1, dd, 0⟩⟩ : AnsD) else ⟨12, 0, noItem⟩) = ⟨12, 0, noItem⟩ from rfl]
            go_upto_region 25 with (first | ((with_reducible show wpList _ _ _ (⟨none, Op.store 39 _ _, _, _, _, _⟩ :: _) _ _); refine wpList_store_whole (by rfl) 39 (.tmp 15) (.tmp 129) (by rfl) W7.heap.size (by rfl) #[.int .u8 12, .int .u64 0, .string ⟨#[]⟩, .string ⟨#[]⟩, .int .u32 0, .int .u64 0, .int .i64 0, .int .i64 0] (by rfl) _ 39 (heap_alloc_new _ _) (by rfl) (by kernel_rfl) (by simp [Value.oneCell']) ?_; intro w2 hr2 hg2 hs2; have HG2 := Lib.hid hg2; have HR2 := Lib.hid hr2; clear hg2 hr2 hs2) | fail)
            have hk := HK2.out.put HR2.out HG2.out
            obtain ⟨qc, hq⟩ : ∃ q, q = W7.heap.size := ⟨_, rfl⟩
            rw [← hq] at hk ⊢
            have HK3 := Lib.hid hk
            clear hk HG2 HR2
            obtain ⟨qcW, rfl⟩ : ∃ X, X = w2 := ⟨_, rfl⟩
            have hlq : q < qc ∧ n0 < qc := by rw [hq]; exact ⟨(Array.getElem?_eq_some_iff.1 (HK2.out.kept _ (.head _)).2).1, (Array.getElem?_eq_some_iff.1 (HK2.out.kept _ (.tail _ (.head _))).2).1⟩
            have HLQ := Lib.hid hlq
            clear hlq hq HK2
            go_upto_region 26 with (first | ((with_reducible show wpList _ _ _ (⟨none, Op.store 39 _ _, _, _, _, _⟩ :: _) _ _); refine wpList_store_whole (by rfl) 39 (.tmp 17) (.tmp 131) (by rfl) qcW.heap.size (by rfl) #[.int .u8 12, .int .u64 0, .string ⟨#[]⟩, .string ⟨#[]⟩, .int .u32 0, .int .u64 0, .int .i64 0, .int .i64 0] (by rfl) _ 39 (heap_alloc_new _ _) (by rfl) (by kernel_rfl) (by simp [Value.oneCell']) ?_; intro w2 hr2 hg2 hs2; have HG2 := Lib.hid hg2; have HR2 := Lib.hid hr2; clear hg2 hr2 hs2) | fail)
            have hk := HK3.out.put HR2.out HG2.out
            obtain ⟨qd, hq⟩ : ∃ q, q = qcW.heap.size := ⟨_, rfl⟩
            rw [← hq] at hk ⊢
            have HK4 := Lib.hid hk
            clear hk HG2 HR2
            obtain ⟨qdW, rfl⟩ : ∃ X, X = w2 := ⟨_, rfl⟩
            have hlc : qc < qd := by rw [hq]; exact (Array.getElem?_eq_some_iff.1 (HK3.out.kept _ (.head _)).2).1
            have HLC := Lib.hid hlc
            clear hlc hq HK3
            go_wp2_with (first | ((with_reducible show wpList _ _ _ (⟨_, Op.load 37 _, _, _, _, _⟩ :: _) _ _); refine wpList_load_row (by rfl) 37 (.tmp 6) (by rfl) q (by rfl) 37 _ _ _ (HK4.out.kept _ (.tail _ (.tail _ (.head _)))).2 Tryd.underlying37 rfl (by kernel_rfl) ?_) | fail)
            refine (HAL.out _).mono ?_
            rintro e W9 ⟨rfl, hb⟩
            have HK5 := Lib.hid (HK4.out.below hb)
            clear hb HK4 HAL
            go_upto_region 28 with fail
            have y0 : W9.cell? ⟨qc, 0, none⟩ = some (.int .u8 12) := (cells_at (HK5.out.kept _ (.tail _ (.head _))).2 0).1
            have y1 : W9.cell? ⟨qc, 1, none⟩ = some (.int .u64 0) := (cells_at (HK5.out.kept _ (.tail _ (.head _))).2 1).1
            have y2 : W9.cell? ⟨qc, 2, none⟩ = some (.string ⟨#[]⟩) := (cells_at (HK5.out.kept _ (.tail _ (.head _))).2 2).1
            have y3 : W9.cell? ⟨qc, 3, none⟩ = some (.string ⟨#[]⟩) := (cells_at (HK5.out.kept _ (.tail _ (.head _))).2 3).1
            have y4 : W9.cell? ⟨qc, 4, none⟩ = some (.int .u32 0) := (cells_at (HK5.out.kept _ (.tail _ (.head _))).2 4).1
            have y5 : W9.cell? ⟨qc, 5, none⟩ = some (.int .u64 0) := (cells_at (HK5.out.kept _ (.tail _ (.head _))).2 5).1
            have y6 : W9.cell? ⟨qc, 6, none⟩ = some (.int .i64 0) := (cells_at (HK5.out.kept _ (.tail _ (.head _))).2 6).1
            have y7 : W9.cell? ⟨qc, 7, none⟩ = some (.int .i64 0) := (cells_at (HK5.out.kept _ (.tail _ (.head _))).2 7).1
            have z0 : W9.cell? ⟨qd, 0, none⟩ = some (.int .u8 12) := (cells_at (HK5.out.kept _ (.head _)).2 0).1
            have z1 : W9.cell? ⟨qd, 1, none⟩ = some (.int .u64 0) := (cells_at (HK5.out.kept _ (.head _)).2 1).1
            have z2 : W9.cell? ⟨qd, 2, none⟩ = some (.string ⟨#[]⟩) := (cells_at (HK5.out.kept _ (.head _)).2 2).1
            have z3 : W9.cell? ⟨qd, 3, none⟩ = some (.string ⟨#[]⟩) := (cells_at (HK5.out.kept _ (.head _)).2 3).1
            have z4 : W9.cell? ⟨qd, 4, none⟩ = some (.int .u32 0) := (cells_at (HK5.out.kept _ (.head _)).2 4).1
            have z5 : W9.cell? ⟨qd, 5, none⟩ = some (.int .u64 0) := (cells_at (HK5.out.kept _ (.head _)).2 5).1
            have z6 : W9.cell? ⟨qd, 6, none⟩ = some (.int .i64 0) := (cells_at (HK5.out.kept _ (.head _)).2 6).1
            have z7 : W9.cell? ⟨qd, 7, none⟩ = some (.int .i64 0) := (cells_at (HK5.out.kept _ (.head _)).2 7).1
            have u1 : W9.cell? ⟨q, 1, none⟩ = some (.string c.value) := (cells_at (HK5.out.kept _ (.tail _ (.tail _ (.head _)))).2 1).1
            have u2 : W9.cell? ⟨q, 2, none⟩ = some (.int .u32 c.flags) := (cells_at (HK5.out.kept _ (.tail _ (.tail _ (.head _)))).2 2).1
            have u3 : W9.cell? ⟨q, 3, none⟩ = some (.int .u64 1) := (cells_at (HK5.out.kept _ (.tail _ (.tail _ (.head _)))).2 3).1
            have v2 : W9.cell? ⟨n0, 2, none⟩ = some (.string c.value) := (cells_at (HK5.out.kept _ (.tail _ (.tail _ (.tail _ (.head _))))).2 2).1
            have v3 : W9.cell? ⟨n0, 3, none⟩ = some (.int .u32 c.flags) := (cells_at (HK5.out.kept _ (.tail _ (.tail _ (.tail _ (.head _))))).2 3).1
            have qe : ∀ W : World, (binOp .eql 39 (.agg #[.int .u8 12, .int .u64 0, .string ⟨#[]⟩, .string ⟨#[]⟩, .int .u32 0, .int .u64 0, .int .i64 0, .int .i64 0]) (.agg #[.int .u8 12, .int .u64 0, .string ⟨#[]⟩, .string ⟨#[]⟩, .int .u32 0, .int .u64 0, .int .i64 0, .int .i64 0])).run Tryd.prog W = .ok (.bool true) W := fun W => by have h := run_ans_eq ⟨12, 0, noItem⟩ ⟨12, 0, noItem⟩ W; rw [decide_eq_true rfl] at h; exact h
            have HLV := Lib.hid (lives36 W9 (HE.out.below HK5.out.lv.bel) (HP.out.below HK5.out.lv.bel))
            go_wp2_with fail
            refine HLV.out.mono ?_
            rintro e W11 ⟨rfl, hb⟩
            have HB := Lib.hid (HK5.out.lv.bel.trans (hb.mono HK5.out.lv.bel.size))
            clear hb
            go_wp2_with fail
            go_ret
            exact ⟨rfl, HB.out⟩
          · skip
            rw [show (if true = true then (⟨11, 0, ⟨c.key, c.value, c.flags, 1, dd, 0⟩⟩ : AnsD) else ⟨12, 0, noItem⟩) = ⟨11, 0, ⟨c.key, c.value, c.flags, 1, dd, 0⟩⟩ from rfl]
            go_upto_region 25 with (first | ((with_reducible show wpList _ _ _ (⟨none, Op.store 39 _ _, _, _, _, _⟩ :: _) _ _); refine wpList_store_whole (by rfl) 39 (.tmp 15) (.tmp 129) (by rfl) W7.heap.size (by rfl) #[.int .u8 11, .int .u64 0, .string c.key, .string c.value, .int .u32 c.flags, .int .u64 1, .int .i64 dd, .int .i64 0] (by rfl) _ 39 (heap_alloc_new _ _) (by rfl) (by kernel_rfl) (by simp [Value.oneCell']) ?_; intro w2 hr2 hg2 hs2; have HG2 := Lib.hid hg2; have HR2 := Lib.hid hr2; clear hg2 hr2 hs2) | fail)
            have hk := HK2.out.put HR2.out HG2.out
            obtain ⟨qc, hq⟩ : ∃ q, q = W7.heap.size := ⟨_, rfl⟩
            rw [← hq] at hk ⊢
            have HK3 := Lib.hid hk
            clear hk HG2 HR2
            obtain ⟨qcW, rfl⟩ : ∃ X, X = w2 := ⟨_, rfl⟩
            have hlq : q < qc ∧ n0 < qc := by rw [hq]; exact ⟨(Array.getElem?_eq_some_iff.1 (HK2.out.kept _ (.head _)).2).1, (Array.getElem?_eq_some_iff.1 (HK2.out.kept _ (.tail _ (.head _))).2).1⟩
            have HLQ := Lib.hid hlq
            clear hlq hq HK2
            go_upto_region 26 with (first | ((with_reducible show wpList _ _ _ (⟨none, Op.store 39 _ _, _, _, _, _⟩ :: _) _ _); refine wpList_store_whole (by rfl) 39 (.tmp 17) (.tmp 131) (by rfl) qcW.heap.size (by rfl) #[.int .u8 12, .int .u64 0, .string ⟨#[]⟩, .string ⟨#[]⟩, .int .u32 0, .int .u64 0, .int .i64 0, .int .i64 0] (by rfl) _ 39 (heap_alloc_new _ _) (by rfl) (by kernel_rfl) (by simp [Value.oneCell']) ?_; intro w2 hr2 hg2 hs2; have HG2 := Lib.hid hg2; have HR2 := Lib.hid hr2; clear hg2 hr2 hs2) | fail)
            have hk := HK3.out.put HR2.out HG2.out
            obtain ⟨qd, hq⟩ : ∃ q, q = qcW.heap.size := ⟨_, rfl⟩
            rw [← hq] at hk ⊢
            have HK4 := Lib.hid hk
            clear hk HG2 HR2
            obtain ⟨qdW, rfl⟩ : ∃ X, X = w2 := ⟨_, rfl⟩
            have hlc : qc < qd := by rw [hq]; exact (Array.getElem?_eq_some_iff.1 (HK3.out.kept _ (.head _)).2).1
            have HLC := Lib.hid hlc
            clear hlc hq HK3
            go_wp2_with (first | ((with_reducible show wpList _ _ _ (⟨_, Op.load 37 _, _, _, _, _⟩ :: _) _ _); refine wpList_load_row (by rfl) 37 (.tmp 6) (by rfl) q (by rfl) 37 _ _ _ (HK4.out.kept _ (.tail _ (.tail _ (.head _)))).2 Tryd.underlying37 rfl (by kernel_rfl) ?_) | fail)
            refine (HAL.out _).mono ?_
            rintro e W9 ⟨rfl, hb⟩
            have HK5 := Lib.hid (HK4.out.below hb)
            clear hb HK4 HAL
            go_upto_region 27 with fail
            have qb : ∀ W : World, (Instr.build 39 #[(0, .int .u8 11), (2, .agg #[.string c.key, .string c.value, .int .u32 c.flags, .int .u64 1, .int .i64 dd, .int .i64 0])]).run Tryd.prog W = .ok (.agg #[.int .u8 11, .int .u64 0, .string c.key, .string c.value, .int .u32 c.flags, .int .u64 1, .int .i64 dd, .int .i64 0]) W := fun W => by kernel_rfl
            go_upto_region 28 with (first | ((with_reducible show wpList _ _ _ (⟨_, Op.load 37 _, _, _, _, _⟩ :: _) _ _); refine wpList_load_row (by rfl) 37 (.tmp 6) (by rfl) q (by rfl) 37 _ _ _ (HK5.out.kept _ (.tail _ (.tail _ (.head _)))).2 Tryd.underlying37 rfl (by kernel_rfl) ?_) | ((with_reducible show wpList _ _ _ (⟨none, Op.store 39 _ _, _, _, _, _⟩ :: _) _ _); refine wpList_store_whole (by rfl) 39 (.tmp 17) (.tmp 136) (by rfl) qd (by rfl) #[.int .u8 11, .int .u64 0, .string c.key, .string c.value, .int .u32 c.flags, .int .u64 1, .int .i64 dd, .int .i64 0] (by rfl) _ 39 (HK5.out.kept _ (.head _)).2 (by rfl) (by kernel_rfl) (by simp [Value.oneCell']) ?_; intro w2 hr2 hg2 hs2; have HG2 := Lib.hid hg2; have HR2 := Lib.hid hr2; clear hg2 hr2 hs2) | fail)
            have hk := HK5.out.over (by have := HLQ.out; have := HLC.out; have := HN0.out; omega) (fun x hx => by
              have h1 := HLQ.out
              have h2 := HLC.out
              simp only [List.mem_cons, List.not_mem_nil, or_false] at hx
              rcases hx with rfl | rfl | rfl <;> (simp only; omega)) HR2.out HG2.out
            have HK6 := Lib.hid hk
            clear hk HG2 HR2 HK5 qb
            obtain ⟨W10, rfl⟩ : ∃ X, X = w2 := ⟨_, rfl⟩
            have y0 : W10.cell? ⟨qc, 0, none⟩ = some (.int .u8 11) := (cells_at (HK6.out.kept _ (.tail _ (.head _))).2 0).1
            have y1 : W10.cell? ⟨qc, 1, none⟩ = some (.int .u64 0) := (cells_at (HK6.out.kept _ (.tail _ (.head _))).2 1).1
            have y2 : W10.cell? ⟨qc, 2, none⟩ = some (.string c.key) := (cells_at (HK6.out.kept _ (.tail _ (.head _))).2 2).1
            have y3 : W10.cell? ⟨qc, 3, none⟩ = some (.string c.value) := (cells_at (HK6.out.kept _ (.tail _ (.head _))).2 3).1
            have y4 : W10.cell? ⟨qc, 4, none⟩ = some (.int .u32 c.flags) := (cells_at (HK6.out.kept _ (.tail _ (.head _))).2 4).1
            have y5 : W10.cell? ⟨qc, 5, none⟩ = some (.int .u64 1) := (cells_at (HK6.out.kept _ (.tail _ (.head _))).2 5).1
            have y6 : W10.cell? ⟨qc, 6, none⟩ = some (.int .i64 dd) := (cells_at (HK6.out.kept _ (.tail _ (.head _))).2 6).1
            have y7 : W10.cell? ⟨qc, 7, none⟩ = some (.int .i64 0) := (cells_at (HK6.out.kept _ (.tail _ (.head _))).2 7).1
            have z0 : W10.cell? ⟨qd, 0, none⟩ = some (.int .u8 11) := (cells_at (HK6.out.kept _ (.head _)).2 0).1
            have z1 : W10.cell? ⟨qd, 1, none⟩ = some (.int .u64 0) := (cells_at (HK6.out.kept _ (.head _)).2 1).1
            have z2 : W10.cell? ⟨qd, 2, none⟩ = some (.string c.key) := (cells_at (HK6.out.kept _ (.head _)).2 2).1
            have z3 : W10.cell? ⟨qd, 3, none⟩ = some (.string c.value) := (cells_at (HK6.out.kept _ (.head _)).2 3).1
            have z4 : W10.cell? ⟨qd, 4, none⟩ = some (.int .u32 c.flags) := (cells_at (HK6.out.kept _ (.head _)).2 4).1
            have z5 : W10.cell? ⟨qd, 5, none⟩ = some (.int .u64 1) := (cells_at (HK6.out.kept _ (.head _)).2 5).1
            have z6 : W10.cell? ⟨qd, 6, none⟩ = some (.int .i64 dd) := (cells_at (HK6.out.kept _ (.head _)).2 6).1
            have z7 : W10.cell? ⟨qd, 7, none⟩ = some (.int .i64 0) := (cells_at (HK6.out.kept _ (.head _)).2 7).1
            have u1 : W10.cell? ⟨q, 1, none⟩ = some (.string c.value) := (cells_at (HK6.out.kept _ (.tail _ (.tail _ (.head _)))).2 1).1
            have u2 : W10.cell? ⟨q, 2, none⟩ = some (.int .u32 c.flags) := (cells_at (HK6.out.kept _ (.tail _ (.tail _ (.head _)))).2 2).1
            have u3 : W10.cell? ⟨q, 3, none⟩ = some (.int .u64 1) := (cells_at (HK6.out.kept _ (.tail _ (.tail _ (.head _)))).2 3).1
            have v2 : W10.cell? ⟨n0, 2, none⟩ = some (.string c.value) := (cells_at (HK6.out.kept _ (.tail _ (.tail _ (.tail _ (.head _))))).2 2).1
            have v3 : W10.cell? ⟨n0, 3, none⟩ = some (.int .u32 c.flags) := (cells_at (HK6.out.kept _ (.tail _ (.tail _ (.tail _ (.head _))))).2 3).1
            have qe : ∀ W : World, (binOp .eql 39 (.agg #[.int .u8 11, .int .u64 0, .string c.key, .string c.value, .int .u32 c.flags, .int .u64 1, .int .i64 dd, .int .i64 0]) (.agg #[.int .u8 11, .int .u64 0, .string c.key, .string c.value, .int .u32 c.flags, .int .u64 1, .int .i64 dd, .int .i64 0])).run Tryd.prog W = .ok (.bool true) W := fun W => by have h := run_ans_eq ⟨11, 0, ⟨c.key, c.value, c.flags, 1, dd, 0⟩⟩ ⟨11, 0, ⟨c.key, c.value, c.flags, 1, dd, 0⟩⟩ W; rw [decide_eq_true rfl] at h; exact h
            have HLV := Lib.hid (lives36 W10 (HE.out.below HK6.out.lv.bel) (HP.out.below HK6.out.lv.bel))
            go_wp2_with fail
            refine HLV.out.mono ?_
            rintro e W11 ⟨rfl, hb⟩
            have HB := Lib.hid (HK6.out.lv.bel.trans (hb.mono HK6.out.lv.bel.size))
            clear hb
            go_wp2_with fail
            go_ret
            exact ⟨rfl, HB.out⟩
    · go_wp2_with fail
      refine (lives36 _ (HE.out.below HBW.out) (HP.out.below HBW.out)).mono ?_
      rintro e W2 ⟨rfl, hb⟩
      have HB := Lib.hid (HBW.out.trans (hb.mono HBW.out.size))
      clear hb
      go_wp2_with fail
      go_ret
      exact ⟨rfl, HB.out⟩
end Go.Proofs.YtaooangnnlopcaaDoor
