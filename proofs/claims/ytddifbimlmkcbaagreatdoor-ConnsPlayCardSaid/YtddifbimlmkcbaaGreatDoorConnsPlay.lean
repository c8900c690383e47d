/- The law ConnsPlay, walked: of whatever bytes, and whatever is answered, the calls and all that is told are the document's. Condition: the library's variables are as they are laid. -/
import Derived.Test.YtddifbimlmkcbaaGreatDoorCoI
import Derived.Test.YtddifbimlmkcbaaGreatDoorLowH
import Derived.Test.YtddifbimlmkcbaaGreatDoorLowA
namespace Go.Proofs.YtddifbimlmkcbaaGreatDoor
open Go.RowKit Go.ChangeMaps Go.MapKept
theorem range_blockC {w : World} {b : Nat} {cs : Array Value} {t : TypeId} {fr : Nat × Nat} (h : w.heap[b]? = some (.cells cs t fr)) : w.rangeAt b 0 cs.toList := fun j v hv => by
  rw [Nat.zero_add, cell_of_row w b j cs t fr h]
  simpa using hv
/-- The act that is under way, in its block. -/
structure ActAt (q : Nat) (x : PActD) (bv : Value) (W : World) (S R : Nat → Prop) : Prop where
  box : W.heap[q]? = some (.cells (pactCells x bv).toArray 67 (0, 0))
  fs : ¬ S q
  fr : ¬ R q
section
variable {q : Nat} {x : PActD} {bv : Value} {W W' : World} {S R S' R' : Nat → Prop}
theorem ActAt.lt (h : ActAt q x bv W S R) : q < W.heap.size := (Array.getElem?_eq_some_iff.1 h.box).1
theorem ActAt.kept {M : Nat → Prop} (h : ActAt q x bv W S R) (hc : Chg M W W') (hM : ¬ M q) : ActAt q x bv W' S R := ⟨hc.obj h.box hM, h.fs, h.fr⟩
theorem ActAt.stepC (h : ActAt q x bv W S R) (hc : Chg S W W') (hf : ∀ k, S' k → S k ∨ W.heap.size ≤ k) : ActAt q x bv W' S' R :=
  ⟨hc.obj h.box h.fs, fun e => (hf q e).elim h.fs (fun h2 => by have := h.lt; omega), h.fr⟩
theorem ActAt.stepR (h : ActAt q x bv W S R) (hc : Chg R W W') (hf : ∀ k, R' k → R k ∨ W.heap.size ≤ k) : ActAt q x bv W' S R' :=
  ⟨hc.obj h.box h.fr, h.fs, fun e => (hf q e).elim h.fr (fun h2 => by have := h.lt; omega)⟩
theorem ActAt.cell (h : ActAt q x bv W S R) {i : Nat} {u : Value} (hu : (pactCells x bv)[i]? = some u) : W.cell? ⟨q, i, none⟩ = some u := by
  rw [(block_cell h.box i).1, List.getElem?_toArray]
  exact hu
theorem ActAt.answer (h : ActAt q x bv W S R) : W.rangeAt q 2 [.int .u8 x.ans.kind, .int .u64 x.ans.number, .string x.ans.item.key, .string x.ans.item.value, .int .u32 x.ans.item.flags, .int .u64 x.ans.item.id, .int .i64 x.ans.item.dies, .int .i64 x.ans.item.gen] := fun i u hu => by
  have : (pactCells x bv)[2 + i]? = some u := by rw [Nat.add_comm]; exact hu
  exact h.cell this
end
set_option maxRecDepth 100000 in
set_option maxHeartbeats 16000000 in
theorem connsPlay_walk {w : World} {lv : Value} {L : List PActD} (hl : PActRow w lv L) (hE : EnvP w.heap.size w) : Calls Tryz.prog 4 #[lv] w fun e w' => e = .returned (.bool true) ∧ Below w.heap.size w w' := by
  obtain ⟨la, lc, rfl⟩ := hl.len
  have HL0 := Lib.hid hl
  have HE0 := Lib.hid (fun W (hb : Below w.heap.size w W) => (hE.chg (M := fun _ => False) (Chg.of_below hb) (fun _ e => e.elim)).mono hb.size)
  have HLIV := Lib.hid (fun W (hb : Below w.heap.size w W) => lives32 W (HE0.out W hb))
  clear hl hE
  go_enter Tryz.func4, Tryz.ntmps4
  go_wp2_with fail
  refine (great32_any HL0.out).mono ?_
  rintro e w0 ⟨⟨b, rfl, hgr⟩, hb0⟩
  have HB0 := Lib.hid hb0
  have HGR := Lib.hid hgr
  clear hb0 hgr
  cases b
  · obtain ⟨hn1, hs1⟩ := HGR.out rfl
    have HSUM := Lib.hid hs1
    clear hs1 HGR
    go_wp2_with fail
    refine (connNew_any w0).mono ?_
    rintro e W ⟨rfl, hc, hb⟩
    obtain ⟨S0, hj⟩ := CJ.new (HE0.out _ HB0.out) hc hb
    have HJ := Lib.hid hj
    obtain ⟨p, hp⟩ : ∃ p, p = w0.heap.size := ⟨_, rfl⟩
    rw [← hp] at HJ ⊢
    clear hp hc hb hj
    have hbr := build_rconn
    go_upto_region 5 with fail
    clear hbr
    obtain ⟨R0, hpl⟩ := PlH.new HJ.out
    obtain ⟨W1, hW1⟩ : ∃ z, z = W.alloc (.cells rconnZero 65) := ⟨_, rfl⟩
    obtain ⟨r, hr⟩ : ∃ z, z = W.heap.size := ⟨_, rfl⟩
    simp only [← hW1, ← hr] at hpl ⊢
    have HPL := Lib.hid hpl
    clear hW1 hr hpl HJ
    go_upto_region 6 with fail
    go_loopw [5] (fun s5 wr => ∃ (i : Nat) (m : ConnM) (s : RM) (S R : Nat → Prop), s5 = .int .i64 (i : Int) ∧ i ≤ L.length ∧ PlH w0 wr p r m s S R ∧ Twin m s (actSum (L.take i)) (4000000 * i)) (fun s5 _ => L.length - (intOf s5).toNat)
    case atStart => exact ⟨0, _, _, _, _, rfl, Nat.zero_le _, HPL.out, by simpa [actSum] using Twin.new⟩
    case round =>
      clear HPL W1
      obtain ⟨i, m, s, S, R, rfl, hi, hpj, htw⟩ := hrel
      by_cases hlt : i < L.length
      · obtain ⟨x, hx⟩ : ∃ x, L[i]? = some x := ⟨_, List.getElem?_eq_getElem hlt⟩
        obtain ⟨g, o, c', bv, hv, hg, -, ⟨ba, bc, rfl⟩, hrw⟩ := HL0.out.get hx
        obtain ⟨rfl, -, rfl⟩ := slice_inj hv
        have hIs : PActIs x := by obtain ⟨_, _, _, _, h2, _⟩ := HL0.out; exact h2 x (List.mem_of_getElem? hx)
        have hlow : ∀ W, Below w0.heap.size w0 W → Below w.heap.size w W := fun W hb => HB0.out.trans (hb.mono HB0.out.size)
        obtain ⟨hrr, -⟩ := hrw wr (hlow _ hpj.cj.low)
        have ix : ∀ W : World, (Instr.indexAt 54 (.slice (some ⟨g, o, none⟩) L.length lc) (.int .i64 (i : Int))).run Tryz.prog W = .ok (.pointer (some ⟨g, o + i * 10, none⟩)) W := fun W => idx_pact rfl hlt W
        obtain ⟨b, hb⟩ : ∃ b, b = o + i * 10 := ⟨_, rfl⟩
        rw [← hb] at ix hrr
        have hsn := actSum_snoc hx
        have htk := actSum_take L (i + 1)
        have h1s := HSUM.out
        have hol : oneSum x ≤ 6000 := by omega
        obtain ⟨kx, bl, a⟩ := x
        obtain ⟨hb1, hb2⟩ := oneSum_le hol
        obtain ⟨hk0, hk1⟩ := hIs.kind
        obtain ⟨kn, rfl⟩ : ∃ n : Nat, kx = n := ⟨kx.toNat, by have h : (0 : Int) ≤ kx := hk0; omega⟩
        have hkn : kn ≤ 255 := by have h : (kn : Int) ≤ 255 := hk1; omega
        have HTW := Lib.hid htw
        have HSM := Lib.hid (show actSum (L.take (i + 1)) ≤ 6000 by omega)
        have HSI := Lib.hid (show actSum (L.take i) ≤ 6000 by omega)
        have HLE := Lib.hid (show bl.length ≤ 6000 by have h : bl.length ≤ oneSum ⟨(kn : Int), bl, a⟩ := hb1; omega)
        have HS1 := Lib.hid (show actSum (L.take i) + bl.length ≤ actSum (L.take (i + 1)) by have h : bl.length ≤ oneSum ⟨(kn : Int), bl, a⟩ := hb1; omega)
        have HAO := Lib.hid (show a.Ok from hIs.ans)
        have HAS := Lib.hid (show a.item.key.size + a.item.value.size ≤ 1048576 by have h : a.item.key.size + a.item.value.size ≤ 6000 := hb2; omega)
        have HBW := Lib.hid (fun W (hb : Below w0.heap.size w0 W) => show BRow W (.slice ba bl.length bc) bl from (hrw W (hlow W hb)).2)
        have HRB := Lib.hid (show wr.rangeAt g b [.int .u8 (kn : Int), .slice ba bl.length bc, .int .u8 a.kind, .int .u64 a.number, .string a.item.key, .string a.item.value, .int .u32 a.item.flags, .int .u64 a.item.id, .int .i64 a.item.dies, .int .i64 a.item.gen] from hrr)
        have HP0 := Lib.hid hpj
        clear hb hx hv hrw hrr hg hIs hlow hsn htk h1s hol hb1 hb2 hk0 hk1 htw hpj
        go_upto_region 9 with (first
          | ((with_reducible show wpList _ _ _ (⟨_, Op.load 67 _, _, _, _, _⟩ :: _) _ _); refine wpList_load_mid (by rfl) 67 (.tmp 27) (by rfl) g b (by rfl) [.int .u8 (kn : Int), .slice ba bl.length bc, .int .u8 a.kind, .int .u64 a.number, .string a.item.key, .string a.item.value, .int .u32 a.item.flags, .int .u64 a.item.id, .int .i64 a.item.dies, .int .i64 a.item.gen] _ HRB.out Tryz.underlying67 rfl (by kernel_rfl) ?_)
          | fail)
        obtain ⟨w1, hww⟩ : ∃ z, z = wr.alloc (.cells #[.int .u8 (kn : Int), .slice ba bl.length bc, .int .u8 a.kind, .int .u64 a.number, .string a.item.key, .string a.item.value, .int .u32 a.item.flags, .int .u64 a.item.id, .int .i64 a.item.dies, .int .i64 a.item.gen] 67) := ⟨_, rfl⟩
        have hb1 : Below wr.heap.size wr w1 := by rw [hww]; exact (Below.refl _ _).alloc (Nat.le_refl _) _
        have hw1 : w1.heap[wr.heap.size]? = some (.cells #[.int .u8 (kn : Int), .slice ba bl.length bc, .int .u8 a.kind, .int .u64 a.number, .string a.item.key, .string a.item.value, .int .u32 a.item.flags, .int .u64 a.item.id, .int .i64 a.item.dies, .int .i64 a.item.gen] 67 (0, 0)) := by rw [hww, heap_at, if_pos rfl]
        rw [← hww]
        clear hww
        have hns : ¬ S wr.heap.size := fun e => by have := HP0.out.cj.is.far e; omega
        have hnr : ¬ R wr.heap.size := fun e => by have := HP0.out.ref.far e; omega
        have ha1 : ActAt wr.heap.size ⟨(kn : Int), bl, a⟩ (.slice ba bl.length bc) w1 S R := ⟨hw1, hns, hnr⟩
        have HP1 := Lib.hid (HP0.out.below hb1)
        have HWO := Lib.hid (show w0.heap.size ≤ w1.heap.size from Nat.le_trans HP0.out.cj.low.size hb1.size)
        obtain ⟨q, hq⟩ : ∃ z, z = wr.heap.size := ⟨_, rfl⟩
        rw [← hq] at ha1 ⊢
        have HA1 := Lib.hid ha1
        clear hw1 hns hnr ha1 hb1 hq HP0 HRB
        have x0 := HA1.out.cell (i := 0) rfl
        obtain ⟨t, ht⟩ : ∃ t, t = kn % 4 := ⟨_, rfl⟩
        have t1 : (kn : Int) % 4 = (t : Int) := by omega
        have t2 : (kn : Int).tmod 4 = (t : Int) := by rw [Int.tmod_eq_emod_of_nonneg (by omega)]; exact t1
        clear ht
        go_upto_region 14 with fail
        clear x0
        by_cases h0 : t = 0
        · subst h0
          have t3 : (kn : Int).tmod 4 = 0 := t2
          have t4 : (kn : Int) % 4 = 0 := t1
          clear t1 t2
          have x1 := HA1.out.cell (i := 1) rfl
          go_upto_region 15 with fail
          clear t3 t4
          go_wp2_with (first | (at_builtin; refine wpList_appB (l0 := []) (B := w1.heap.size) _ _ (by rfl) (by rfl) (by rfl) (by rfl) (Nat.le_refl _) (World.ownsRow_nil _ _ _ _) (HBW.out _ HP1.out.cj.low) (by show 0 + bl.length < _; have := HLE.out; omega) (fun v1 w2 hv2 hb2 => ?_)) | fail)
          rw [List.nil_append] at hv2
          have hp2 := HP1.out.below hb2
          have ha2 := HA1.out.kept (Chg.of_below (M := fun _ => False) hb2) (fun e => e)
          have hcp2 : ∀ k, v1.ownBlock = some k → w1.heap.size ≤ k ∧ k < w2.heap.size := fun k hk => hv2.lt k hk
          have hns : ∀ k, v1.ownBlock = some k → ¬ S k := fun k hk e => by have := HP1.out.cj.is.far e; have := (hcp2 k hk).1; omega
          have hnr : ∀ k, v1.ownBlock = some k → ¬ R k := fun k hk e => by have := HP1.out.ref.far e; have := (hcp2 k hk).1; omega
          have hng : ∀ k, v1.ownBlock = some k → k ≠ q := fun k hk e => by have := HA1.out.lt; have := (hcp2 k hk).1; omega
          obtain ⟨va, vc, rfl⟩ := row_slice hv2
          have hin := PlH.in1 hp2 HTW.out (by have := HLE.out; have := HSI.out; omega) (by omega) (Row.of_owns hv2).bytes (fun k hk => owns_tag hv2 hk) hns
          have HIN := Lib.hid hin
          have HV2 := Lib.hid hv2
          have HA2 := Lib.hid ha2
          have HNS := Lib.hid hns
          have HNR := Lib.hid hnr
          have HNG := Lib.hid hng
          have HCP := Lib.hid hcp2
          clear hin hv2 ha2 hns hnr hng hcp2 hp2 hb2 x1
          refine HIN.out.mono ?_
          rintro e w3 ⟨⟨v3, rfl⟩, S3, hp3, hc3, hf3⟩
          have hv3 := owns_grow HV2.out hc3 HNS.out
          have ha3 := HA2.out.stepC hc3 hf3
          have hns3 : ∀ k, (Value.slice va bl.length vc).ownBlock = some k → ¬ S3 k := fun k hk e => by
            rcases hf3 k e with h1 | h1
            · exact HNS.out k hk h1
            · have := (HCP.out k hk).2; omega
          have HP3 := Lib.hid hp3
          have HV3 := Lib.hid hv3
          have HA3 := Lib.hid ha3
          have HN3 := Lib.hid hns3
          clear hp3 hv3 ha3 hns3 hc3 hf3 HIN HV2 HA2 HNS HCP
          go_wp2_with fail
          obtain ⟨wo, hwo⟩ : ∃ z, z = w1.heap.size := ⟨_, rfl⟩
          rw [← hwo] at HV3
          have HWP := Lib.hid (show w0.heap.size ≤ wo by rw [hwo]; exact HWO.out)
          clear hwo HA1 HP1
          go_loopw [8] (fun s8 wi => ∃ (k : Nat) (xs : List UInt8), s8 = .int .i64 (k : Int) ∧ k ≤ bl.length ∧ PlH w0 wi p r (inM m bl) s S3 R ∧ ActAt q ⟨(kn : Int), bl, a⟩ (.slice ba bl.length bc) wi S3 R ∧ wi.ownsRow wo 5 1 (.slice va bl.length vc) bl.length (xs.map u8v)) (fun s8 _ => bl.length - (intOf s8).toNat)
          case atStart => exact ⟨0, bl, rfl, Nat.zero_le _, HP3.out, HA3.out, HV3.out⟩
          case round =>
            clear HP3 HA3 HV3
            obtain ⟨k, xs, rfl, hk, hpk, hak, hvk⟩ := hrel
            by_cases hlt2 : k < bl.length
            · obtain ⟨gv, cv, hgv, hgb, hgl2⟩ := hvk.form (by omega)
              obtain ⟨hva, -, hvc⟩ := slice_inj hgv
              subst hva
              clear hgv hvc
              have hxl : (xs.map u8v).length = bl.length := by have := hvk.1; omega
              rw [List.length_map] at hxl
              obtain ⟨y, hy⟩ : ∃ y, xs[k]? = some y := ⟨_, List.getElem?_eq_getElem (by omega)⟩
              have q1 := hvk.cellAt k (by omega)
              rw [List.getElem?_map, hy] at q1
              have q1' : wr.cell? ⟨gv, k, none⟩ = some (u8v y) := q1
              have q2 := hvk.frozenAt k
              have i1 : ∀ W : World, (Instr.indexAt 22 (.slice (some ⟨gv, 0, none⟩) bl.length vc) (.int .i64 (k : Int))).run Tryz.prog W = .ok (.pointer (some ⟨gv, k, none⟩)) W := fun W => by
                have := idx_byte30 (a := some ⟨gv, 0, none⟩) (c := vc) rfl hlt2 W
                rwa [Nat.zero_add] at this
              have hs : Chg (fun j => j = gv) wr (wr.setCell ⟨gv, k, none⟩ (u8v 122)) := Chg.set (M := fun j => j = gv) (Chg.refl _ _) (fun _ => rfl) _
              have hgt : Tag wr gv 5 := owns_tag hvk rfl
              have hpn := hpk.kept hs (fun j hj => by
                subst hj
                refine ⟨HN3.out j rfl, HNR.out j rfl, fun e => absurd (hgt.one e) (by decide), ?_⟩
                have := HWP.out
                omega)
              have han := hak.kept hs (fun e => HNG.out gv rfl e.symm)
              have hvn := (hvk.stored k (u8v 122)).1
              rw [← List.map_set] at hvn
              have HPN := Lib.hid hpn
              have HAN := Lib.hid han
              have HVN := Lib.hid hvn
              clear hpk hak hvk hgb hgl2 hxl hy q1 hs hgt hpn han hvn
              have hle := HLE.out
              go_wp2_with fail
              go_roundw
              case rel => exact ⟨k + 1, _, by go_num, by omega, HPN.out, HAN.out, HVN.out⟩
              case measure => simp [intOf]; omega
            · have HPK := Lib.hid hpk
              have HAK := Lib.hid hak
              have x1 := hak.cell (i := 1) rfl
              have hin2 := PlH.in2 hpk HTW.out (by have := HLE.out; have := HSI.out; omega) (by omega) (HBW.out _ hpk.cj.low)
              have HIN2 := Lib.hid hin2
              clear hpk hak hvk hin2 HN3 HNR HNG
              go_wp2_with fail
              refine HIN2.out.mono ?_
              rintro e w5 ⟨⟨v5, rfl⟩, R5, hp5, -, -⟩
              have HP5 := Lib.hid hp5
              have HT5 := Lib.hid ((HTW.out.in bl).mono (B' := actSum (L.take (i + 1))) (K' := 4000000 * (i + 1)) HS1.out (by have := HLE.out; have := HSI.out; omega))
              clear hp5 HIN2 HPK HAK x1
              go_wp2_with fail
              refine (csame_any HP5.out HT5.out.sm HT5.out.fit (by have := HSM.out; omega)).mono ?_
              rintro e V9 ⟨rfl, hb9⟩
              have HP9 := Lib.hid (HP5.out.below hb9)
              clear hb9
              go_wp2_with fail
              go_roundw
              case rel => exact ⟨i + 1, _, _, _, _, by go_num, by omega, HP9.out, HT5.out⟩
              case measure => simp [intOf]; omega
        · by_cases h1 : t = 1
          · subst h1
            have t3 : (kn : Int).tmod 4 = 1 := t2
            have t4 : (kn : Int) % 4 = 1 := t1
            clear t1 t2
            go_upto_region 23 with fail
            clear t3 t4
            have HPd := Lib.hid (HP1.out.below ((Below.refl _ _).drew))
            have HAd := Lib.hid (HA1.out.kept (Chg.of_below (M := fun _ => False) ((Below.refl _ _).drew)) (fun e => e))
            have hran := HAd.out.answer
            have hd1 := PlH.done1 HPd.out HTW.out (by have := HSI.out; omega) (by omega) HAO.out HAS.out
            have HD1 := Lib.hid hd1
            obtain ⟨zz, hzz⟩ : ∃ zz, zz = doneZ m := ⟨_, rfl⟩
            clear hd1 HP1 HA1
            refine wp_region_held_drew (S := fun V => V.rangeAt q 2 [.int .u8 a.kind, .int .u64 a.number, .string a.item.key, .string a.item.value, .int .u32 a.item.flags, .int .u64 a.item.id, .int .i64 a.item.dies, .int .i64 a.item.gen]) (by kernel_rfl) hran (fun hHeld => ?_)
            refine tkq (i := 0) (v := ?_) rfl (by kernel_rfl) (fun _ _ _ h => h) (by rfl) ?_ (by assumption) ?_
            rotate_left 1
            · ((intro w hSw; (try dsimp only at hSw); go_simp) <;> with_reducible rfl)
            try simp only [Act.put, tzA, tzB, tzC, tzD, tzE]
            refine tkq (i := 1) (v := ?_) rfl (by kernel_rfl) (fun _ _ _ h => h) (by rfl) ?_ (by assumption) ?_
            rotate_left 1
            · ((intro w hSw; (try dsimp only at hSw); go_simp) <;> with_reducible rfl)
            try simp only [Act.put, tzA, tzB, tzC, tzD, tzE, tzF]
            refine wpAnyH_take (i := 2) rfl (by kernel_rfl) (by kernel_rfl) (by kernel_rfl) (fun _ _ _ h => h) (yieldsIf_load_mid (by rfl) 52 (.tmp 74) (by rfl) q 2 (by rfl) [.int .u8 a.kind, .int .u64 a.number, .string a.item.key, .string a.item.value, .int .u32 a.item.flags, .int .u64 a.item.id, .int .i64 a.item.dies, .int .i64 a.item.gen] _ (fun w hSw => hSw) Tryz.underlying52 rfl (by kernel_rfl)) (by assumption) ?_
            try simp only [Act.put, tzA, tzB, tzC, tzD, tzE, tzF]
            refine tkq (i := 4) (v := ?_) rfl (by kernel_rfl) (fun _ _ _ h => h) (by rfl) ?_ (by assumption) ?_
            rotate_left 1
            · ((intro w hSw; (try dsimp only at hSw); go_simp) <;> with_reducible rfl)
            try simp only [Act.put, tzA, tzB, tzC, tzD, tzE, tzF]
            refine tkq (i := 5) (v := ?_) rfl (by kernel_rfl) (fun _ _ _ h => h) (by rfl) ?_ (by assumption) ?_
            rotate_left 1
            · ((intro w hSw; (try dsimp only at hSw); go_simp) <;> with_reducible rfl)
            try simp only [Act.put, tzA, tzB, tzC, tzD, tzE, tzF]
            refine wpAnyH_take (i := 6) rfl (by kernel_rfl) (by kernel_rfl) (by kernel_rfl) (fun _ _ _ h => h) (yieldsIf_load_mid (by rfl) 52 (.tmp 78) (by rfl) q 2 (by rfl) [.int .u8 a.kind, .int .u64 a.number, .string a.item.key, .string a.item.value, .int .u32 a.item.flags, .int .u64 a.item.id, .int .i64 a.item.dies, .int .i64 a.item.gen] _ (fun w hSw => hSw) Tryz.underlying52 rfl (by kernel_rfl)) (by assumption) ?_
            try simp only [Act.put, tzA, tzB, tzC, tzD, tzE, tzF]
            refine wpAnyH_ready (rs := [3]) (by kernel_rfl) (by simp) ?_
            refine (AllReadyH.cons rfl (fun K hK => ?_) AllReadyH.nil)
            go_simp
            go_at_call 24
            refine (HD1.out).mono ?_
            rintro e V3 ⟨rfl, S3, hp3, hc3, hf3⟩
            have HP3 := Lib.hid hp3
            have HA3 := Lib.hid (HAd.out.stepC hc3 hf3)
            have hd2 := PlH.done2 hp3 HTW.out (by have := HSI.out; omega) (by omega) HAO.out HAS.out
            have HD2 := Lib.hid hd2
            clear hp3 hc3 hf3 hd2 HD1
            refine hK.out _ _ (HA3.out.answer) (fun hHeld2 => ?_)
            clear hK K
            try simp only [Act.put, tzA, tzB, tzC, tzD, tzE, tzF]
            refine wpAnyH_ready (rs := [7]) (by kernel_rfl) (by simp) ?_
            refine (AllReadyH.cons rfl (fun K hK => ?_) AllReadyH.nil)
            go_simp
            go_at_call 25
            refine (HD2.out).mono ?_
            rintro e V7 ⟨rfl, R7, hp7, hc7, hf7⟩
            have HP7 := Lib.hid hp7
            refine hK.out _ _ ((HA3.out.stepR hc7 hf7).answer) (fun hHeld2 => ?_)
            clear hK K
            try simp only [Act.put, tzA, tzB, tzC, tzD, tzE, tzF]
            clear hp7 hc7 hf7 HD2 HP3 HA3
            refine tkq (i := 8) (v := ?_) rfl (by kernel_rfl) (fun _ _ _ h => h) (by rfl) ?_ (by assumption) ?_
            rotate_left 1
            · ((intro w hSw; (try dsimp only at hSw); go_simp) <;> with_reducible rfl)
            try simp only [Act.put, tzA, tzB, tzC, tzD, tzE, tzF]
            refine wpAnyH_done (by kernel_rfl) ?_ _
            clear hHeld hHeld2 hran HPd HAd
            have HT7 := Lib.hid ((HTW.out.after HAO.out HAS.out).mono (B' := actSum (L.take (i + 1))) (K' := 4000000 * (i + 1)) (by have := HS1.out; omega) (by have := HSI.out; omega))
            rw [← hzz]
            clear hzz
            go_wp2_with fail
            refine (csame_any HP7.out HT7.out.sm HT7.out.fit (by have := HSM.out; omega)).mono ?_
            rintro e V9 ⟨rfl, hb9⟩
            have HP9 := Lib.hid (HP7.out.below hb9)
            clear hb9
            go_wp2_with fail
            go_roundw
            case rel => exact ⟨i + 1, _, _, _, _, by go_num, by omega, HP9.out, HT7.out⟩
            case measure => simp [intOf]; omega
          · have t3 : (kn : Int).tmod 4 = (t : Int) := t2
            have t4 : (kn : Int) % 4 = (t : Int) := t1
            have t5 : ¬ (t : Int) = 0 := by omega
            have t6 : ¬ (t : Int) = 1 := by omega
            have t7 : ((t : Int) == 0) = false := by simp; omega
            have t8 : ((t : Int) == 1) = false := by simp; omega
            clear t1 t2
            go_upto_region 10 with fail
            clear t3 t4 t5 t6 t7 t8
            have hn1 := PlH.next1 HP1.out HTW.out
            obtain ⟨c, hc⟩ : ∃ c, c = nextC m := ⟨_, rfl⟩
            obtain ⟨cb, hcb⟩ : ∃ c, c = (nextM m).isSome := ⟨_, rfl⟩
            rw [← hc, ← hcb] at hn1
            have HC := Lib.hid hc
            have HCB := Lib.hid hcb
            have HN1 := Lib.hid hn1
            clear hn1 hc hcb HA1
            go_wp2_with fail
            refine HN1.out.mono ?_
            rintro e w3 ⟨rfl, S3, hp3, -, -⟩
            have HP3 := Lib.hid hp3
            clear hp3 HN1 HP1
            go_upto_region 11 with fail
            have hb4 : Below w3.heap.size w3 (w3.alloc (.cells (callCells c).toArray 39)) := (Below.refl _ _).alloc (Nat.le_refl _) _
            have hp4 := HP3.out.below hb4
            obtain ⟨qa, hqa⟩ : ∃ z, z = w3.heap.size := ⟨_, rfl⟩
            have hx4 : (w3.alloc (.cells (callCells c).toArray 39)).heap[qa]? = some (.cells (callCells c).toArray 39 (0, 0)) := by rw [heap_at, hqa, if_pos rfl]
            rw [← hqa]
            obtain ⟨w4, hw4⟩ : ∃ z, z = w3.alloc (.cells (callCells c).toArray 39) := ⟨_, rfl⟩
            simp only [← hw4] at hp4 hx4 ⊢
            have hns : ¬ S3 qa := fun e => by have := HP3.out.cj.is.far e; omega
            have hnr : ¬ R qa := fun e => by have := HP3.out.ref.far e; omega
            clear hb4 hqa hw4 HP3
            have hn2 := PlH.next2 hp4 HTW.out
            rw [← HC.out, ← HCB.out] at hn2
            have HN2 := Lib.hid hn2
            have HX4 := Lib.hid hx4
            have HNR := Lib.hid hnr
            clear hn2 hp4 hx4 hns hnr
            go_wp2_with fail
            refine HN2.out.mono ?_
            rintro e w5 ⟨rfl, R5, hp5, hc5, -⟩
            have hx5 := hc5.obj HX4.out HNR.out
            have HP5 := Lib.hid hp5
            have HX5 := Lib.hid hx5
            clear hp5 hx5 hc5 HN2 HX4 HNR
            go_upto_region 12 with fail
            have hp6 := HP5.out.below (W' := w5.alloc (.cells #[.int .u8 (c.cverb : Int), .string ⟨c.key.toArray⟩, .string ⟨c.value.toArray⟩, .int .u32 (c.flags : Int), .int .i64 c.exp, .int .u64 (c.id : Int), .int .u64 (c.by' : Int)] 39)) ((Below.refl _ _).alloc (Nat.le_refl _) _)
            have ha6 : (w5.alloc (.cells #[.int .u8 (c.cverb : Int), .string ⟨c.key.toArray⟩, .string ⟨c.value.toArray⟩, .int .u32 (c.flags : Int), .int .i64 c.exp, .int .u64 (c.id : Int), .int .u64 (c.by' : Int)] 39)).rangeAt qa 0 [.int .u8 (c.cverb : Int), .string ⟨c.key.toArray⟩, .string ⟨c.value.toArray⟩, .int .u32 (c.flags : Int), .int .i64 c.exp, .int .u64 (c.id : Int), .int .u64 (c.by' : Int)] := range_blockC ((Chg.of_below (M := fun _ => False) ((Below.refl _ _).alloc (Nat.le_refl _) (.cells #[.int .u8 (c.cverb : Int), .string ⟨c.key.toArray⟩, .string ⟨c.value.toArray⟩, .int .u32 (c.flags : Int), .int .i64 c.exp, .int .u64 (c.id : Int), .int .u64 (c.by' : Int)] 39))).obj HX5.out (fun e => e))
            have hb6 : (w5.alloc (.cells #[.int .u8 (c.cverb : Int), .string ⟨c.key.toArray⟩, .string ⟨c.value.toArray⟩, .int .u32 (c.flags : Int), .int .i64 c.exp, .int .u64 (c.id : Int), .int .u64 (c.by' : Int)] 39)).rangeAt w5.heap.size 0 [.int .u8 (c.cverb : Int), .string ⟨c.key.toArray⟩, .string ⟨c.value.toArray⟩, .int .u32 (c.flags : Int), .int .i64 c.exp, .int .u64 (c.id : Int), .int .u64 (c.by' : Int)] := range_blockC (by rw [heap_at, if_pos rfl])
            obtain ⟨qb, hqb⟩ : ∃ z, z = w5.heap.size := ⟨_, rfl⟩
            rw [← hqb] at hb6 ⊢
            obtain ⟨w6, hw6⟩ : ∃ z, z = w5.alloc (.cells #[.int .u8 (c.cverb : Int), .string ⟨c.key.toArray⟩, .string ⟨c.value.toArray⟩, .int .u32 (c.flags : Int), .int .i64 c.exp, .int .u64 (c.id : Int), .int .u64 (c.by' : Int)] 39) := ⟨_, rfl⟩
            rw [← hw6] at hp6 ha6 hb6 ⊢
            have HP6 := Lib.hid hp6
            have HRA := Lib.hid ha6
            have HRB := Lib.hid hb6
            clear hqb hw6 hp6 ha6 hb6 HP5 HX5
            have qn := run_call_ne c
            go_upto_region 25 with (first
              | ((with_reducible show wpList _ _ _ (⟨some 42, Op.load 39 _, _, _, _, _⟩ :: _) _ _); refine wpList_load_mid (by rfl) 39 (.tmp 9) (by rfl) qa 0 (by rfl) [.int .u8 (c.cverb : Int), .string ⟨c.key.toArray⟩, .string ⟨c.value.toArray⟩, .int .u32 (c.flags : Int), .int .i64 c.exp, .int .u64 (c.id : Int), .int .u64 (c.by' : Int)] _ HRA.out Tryz.underlying39 rfl (by kernel_rfl) ?_)
              | ((with_reducible show wpList _ _ _ (⟨some 43, Op.load 39 _, _, _, _, _⟩ :: _) _ _); refine wpList_load_mid (by rfl) 39 (.tmp 11) (by rfl) qb 0 (by rfl) [.int .u8 (c.cverb : Int), .string ⟨c.key.toArray⟩, .string ⟨c.value.toArray⟩, .int .u32 (c.flags : Int), .int .i64 c.exp, .int .u64 (c.id : Int), .int .u64 (c.by' : Int)] _ HRB.out Tryz.underlying39 rfl (by kernel_rfl) ?_)
              | fail)
            clear qn
            have HT6 := Lib.hid (HTW.out.took.mono (B' := actSum (L.take (i + 1))) (K' := 4000000 * (i + 1)) (by have := HS1.out; omega) (by omega))
            go_wp2_with fail
            refine (csame_any HP6.out HT6.out.sm HT6.out.fit (by have := HSM.out; omega)).mono ?_
            rintro e V9 ⟨rfl, hb9⟩
            have HP9 := Lib.hid (HP6.out.below hb9)
            clear hb9
            go_wp2_with fail
            go_roundw
            case rel => exact ⟨i + 1, _, _, _, _, by go_num, by omega, HP9.out, HT6.out⟩
            case measure => simp [intOf]; omega
      · have HLO := Lib.hid (HB0.out.trans (hpj.cj.low.mono HB0.out.size))
        clear hpj htw
        go_wp2_with fail
        refine (HLIV.out _ HLO.out).mono ?_
        rintro e w' ⟨rfl, hb⟩
        have HB := Lib.hid (HLO.out.trans (hb.mono HLO.out.size))
        clear hb
        go_wp2_with fail
        go_ret
        exact ⟨rfl, HB.out⟩
  · clear HGR
    go_wp2_with fail
    refine (HLIV.out _ HB0.out).mono ?_
    rintro e w' ⟨rfl, hb⟩
    have HB := Lib.hid (HB0.out.trans (hb.mono HB0.out.size))
    clear hb
    go_wp2_with fail
    go_ret
    exact ⟨rfl, HB.out⟩
end Go.Proofs.YtddifbimlmkcbaaGreatDoor
