/- The law FeedsBack, walked: commands that are written one behind the other come back in their order. Condition: the library's variables MaxLen and ErrRange, and the table of powers, are as they are laid. -/
import Derived.Test.YtahpjhnbjkjkiaaDoorFeedBack
namespace Go.Proofs.YtahpjhnbjkjkiaaDoor
open Go.RowKit Go.ChangeMaps Go.MapKept

def strLen (v : Value) : Nat := match v with | .string b => b.size | _ => 0
abbrev badL : List UInt8 := [110, 111, 32, 115, 117, 99, 104, 32, 118, 101, 114, 98, 13, 10]
set_option maxRecDepth 100000 in
set_option maxHeartbeats 16000000 in
theorem feedsBack_walk {w : World} {lv : Value} {L : List SentD} {bad size : Nat} (hl : SentRow w lv L) (hbad : bad < 256) (hsize : size < 65536) (hL : HasLen w) (hE : HasErr w) (hP : HasPow w) :
    Calls Tryd.prog 5 #[lv, .int .u8 (bad : Int), .int .u16 (size : Int)] w fun e w' => e = .returned (.bool true) ∧ Below w.heap.size w w' := by
  have hmx := hl.1
  unfold maxLen at hmx
  have HR := Lib.hid hl
  obtain ⟨-, hsx, la, lc, rfl, hcell⟩ := hl
  have hlv : ∀ W, Below w.heap.size w W → Calls Tryd.prog 8 #[] W fun e w' => e = .returned (.bool true) ∧ Below W.heap.size W w' := fun W hb => lives30 W (hL.below hb) (hE.below hb)
  have HLV := Lib.hid hlv
  have HSX := Lib.hid hsx
  have HC := Lib.hid hcell
  have HP := Lib.hid hP
  have HENV := Lib.hid (Env.of hL hE)
  clear hlv hsx hcell hP hL hE
  by_cases h1 : 20 < L.length
  · have d1 : decide ((20 : Int) < (L.length : Int)) = true := by rw [decide_eq_true_eq]; omega
    go_enter Tryd.func5, Tryd.ntmps5
    go_wp2_with fail
    refine (HLV.out _ (Below.refl _ _)).mono ?_
    rintro e w' ⟨rfl, hb⟩
    have HB := Lib.hid hb
    clear hb
    go_wp2_with fail
    go_ret
    exact ⟨rfl, HB.out⟩
  · have d1 : decide ((20 : Int) < (L.length : Int)) = false := by rw [decide_eq_false_iff_not]; omega
    go_enter Tryd.func5, Tryd.ntmps5
    go_wp2_with fail
    go_loopw [7, 8] (fun s7 s8 wr => ∃ (i : Nat) (T : List UInt8), s8 = .int .i64 (i : Int) ∧ s7 = sv T ∧ i ≤ L.length ∧ T.length ≤ 1600 * i ∧ Hid (T = backText bad (L.take i) 0) ∧ Hid (∀ x ∈ L.take i, SentOk x) ∧ Below w.heap.size w wr) (fun _ s8 _ => L.length - (intOf s8).toNat)
    case atStart => exact ⟨0, [], rfl, rfl, Nat.zero_le _, Nat.zero_le _, Lib.hid rfl, Lib.hid (by simp), Below.refl _ _⟩
    case round =>
      obtain ⟨i, T, rfl, rfl, hi, hT, HT, HOK, hlow⟩ := hrel
      have HLOW := Lib.hid hlow
      by_cases hlt : i < L.length
      · obtain ⟨x, hx⟩ : ∃ x, L[i]? = some x := ⟨_, List.getElem?_eq_getElem hlt⟩
        obtain ⟨g, o, ha, hg, hc⟩ := HC.out i x hx
        obtain ⟨b, hb⟩ : ∃ b, b = o + i * 7 := ⟨_, rfl⟩
        have hix : ∀ W : World, (Instr.indexAt 47 (.slice la L.length lc) (.int .i64 (i : Int))).run Tryd.prog W = .ok (.pointer (some ⟨g, b, none⟩)) W := fun W => by rw [hb]; exact idx_sent ha hlt W
        have hcw : ∀ (j : Nat) (u : Value), (sentCells x)[j]? = some u → wr.cell? ⟨g, o + (i * 7 + j), none⟩ = some u := fun j u hu => (hlow.cell (p := ⟨g, o + (i * 7 + j), none⟩) hg).trans (hc j u hu)
        have x0 : wr.cell? ⟨g, b, none⟩ = some (.int .u8 (x.kind : Int)) := by
          have h := hcw 0 _ rfl
          rwa [show o + (i * 7 + 0) = b from by omega] at h
        have x1 : wr.cell? ⟨g, b + 1, none⟩ = some (sv x.key) := by
          have h := hcw 1 _ rfl
          rwa [show o + (i * 7 + 1) = b + 1 from by omega] at h
        have x2 : wr.cell? ⟨g, b + 2, none⟩ = some (sv x.data) := by
          have h := hcw 2 _ rfl
          rwa [show o + (i * 7 + 2) = b + 2 from by omega] at h
        have x3 : wr.cell? ⟨g, b + 3, none⟩ = some (.int .u32 (x.flags : Int)) := by
          have h := hcw 3 _ rfl
          rwa [show o + (i * 7 + 3) = b + 3 from by omega] at h
        have x4 : wr.cell? ⟨g, b + 4, none⟩ = some (.int .i32 x.exp) := by
          have h := hcw 4 _ rfl
          rwa [show o + (i * 7 + 4) = b + 4 from by omega] at h
        have x5 : wr.cell? ⟨g, b + 5, none⟩ = some (.bool x.quiet) := by
          have h := hcw 5 _ rfl
          rwa [show o + (i * 7 + 5) = b + 5 from by omega] at h
        have x6 : wr.cell? ⟨g, b + 6, none⟩ = some (.bool x.cr) := by
          have h := hcw 6 _ rfl
          rwa [show o + (i * 7 + 6) = b + 6 from by omega] at h
        have hsi := HSX.out x (List.mem_of_getElem? hx)
        have hkm := hsi.key
        have hdm := hsi.data
        unfold maxLen at hdm
        have hok := ok_str x.key wr hkm
        have HOKC := Lib.hid hok
        have HSI := Lib.hid hsi
        have HX := Lib.hid hx
        have hkind := hsi.kind
        have hexp0 := hsi.exp0
        have hexp1 := hsi.exp1
        have hfl := hsi.flags
        clear hok hsi hx hc hcw ha hb hlow hkm
        cases hkb : okB x.key with
        | false =>
          rw [hkb] at HOKC
          go_wp2_with fail
          refine HOKC.out.mono ?_
          rintro e w' ⟨rfl, rfl⟩
          go_wp2_with fail
          refine (HLV.out _ HLOW.out).mono ?_
          rintro e w' ⟨rfl, hb⟩
          have HB := Lib.hid hb
          clear hb
          go_wp2_with fail
          go_ret
          exact ⟨rfl, HLOW.out.trans (HB.out.mono HLOW.out.size)⟩
        | true =>
          rw [hkb] at HOKC
          by_cases hd : 1024 < x.data.length
          · have d2 : decide ((1024 : Int) < (x.data.length : Int)) = true := by rw [decide_eq_true_eq]; omega
            go_wp2_with fail
            refine HOKC.out.mono ?_
            rintro e w' ⟨rfl, rfl⟩
            go_wp2_with fail
            refine (HLV.out _ HLOW.out).mono ?_
            rintro e w' ⟨rfl, hb⟩
            have HB := Lib.hid hb
            clear hb
            go_wp2_with fail
            go_ret
            exact ⟨rfl, HLOW.out.trans (HB.out.mono HLOW.out.size)⟩
          · have d2 : decide ((1024 : Int) < (x.data.length : Int)) = false := by rw [decide_eq_false_iff_not]; omega
            have hso : SentOk x := ⟨hkb, by omega, hfl, hexp0, hexp1⟩
            have htl := sentText_len hso
            have htx := sentText_any (sent_num HSI.out hso) wr (HP.out.below HLOW.out)
            have hsn := backText_snoc bad (L.take i) 0 x
            have htk : L.take (i + 1) = L.take i ++ [x] := by
              obtain ⟨hi', he⟩ := List.getElem?_eq_some_iff.1 HX.out
              rw [List.take_succ_eq_append_getElem hi', he]
            rw [List.length_take, Nat.min_eq_left hi, ← htk, ← HT.out, Nat.zero_add] at hsn
            have hok2 : ∀ y ∈ L.take (i + 1), SentOk y := fun y hy => by
              rw [htk] at hy
              rcases List.mem_append.1 hy with hy | hy
              · exact HOK.out y hy
              · obtain rfl : y = x := by simpa using hy
                exact hso
            generalize sentText x = S at *
            have HTX := Lib.hid htx
            have HSN := Lib.hid hsn
            have HOK2 := Lib.hid hok2
            clear htx hsn hok2 hso htk HT HOK
            by_cases hbi : i = bad
            · have q1 : ((i : Int) == (bad : Int)) = true := by rw [beq_iff_eq]; omega
              obtain ⟨T1, h1'⟩ : ∃ T1 : List UInt8, T1 = T ++ badL := ⟨_, rfl⟩
              have l1 := cat_len _ _ _ _ 14 h1' hT (by simp)
              have e1 := fun W => cat_op _ T badL h1' (by simp only [List.length_cons, List.length_nil] at *; omega) W
              obtain ⟨T2, h2'⟩ : ∃ T2 : List UInt8, T2 = T1 ++ S := ⟨_, rfl⟩
              have l2 := cat_len _ _ _ _ 1500 h2' l1 htl
              have e2 := fun W => cat_op _ T1 S h2' (by omega) W
              have HF := Lib.hid (show T2 = backText bad (L.take (i + 1)) 0 by rw [HSN.out, if_pos hbi, h2', h1']; simp [senseless])
              clear h1' h2' HSN hbi
              go_wp2_with fail
              refine HOKC.out.mono ?_
              rintro e w' ⟨rfl, rfl⟩
              go_wp2_with fail
              refine HTX.out.mono ?_
              rintro e w2 ⟨rfl, hb2⟩
              have HB2 := Lib.hid hb2
              clear hb2
              go_wp2_with fail
              go_roundw
              case rel => exact ⟨i + 1, T2, by go_num, rfl, by omega, by omega, HF, HOK2, HLOW.out.trans (HB2.out.mono HLOW.out.size)⟩
              case measure => simp [intOf]; omega
            · have q1 : ((i : Int) == (bad : Int)) = false := by rw [beq_eq_false_iff_ne]; omega
              obtain ⟨T2, h2'⟩ : ∃ T2 : List UInt8, T2 = T ++ S := ⟨_, rfl⟩
              have l2 := cat_len _ _ _ _ 1500 h2' hT htl
              have e2 := fun W => cat_op _ T S h2' (by omega) W
              have HF := Lib.hid (show T2 = backText bad (L.take (i + 1)) 0 by rw [HSN.out, if_neg hbi, h2']; simp)
              clear h2' HSN hbi
              go_wp2_with fail
              refine HOKC.out.mono ?_
              rintro e w' ⟨rfl, rfl⟩
              go_wp2_with fail
              refine HTX.out.mono ?_
              rintro e w2 ⟨rfl, hb2⟩
              have HB2 := Lib.hid hb2
              clear hb2
              go_wp2_with fail
              go_roundw
              case rel => exact ⟨i + 1, T2, by go_num, rfl, by omega, by omega, HF, HOK2, HLOW.out.trans (HB2.out.mono HLOW.out.size)⟩
              case measure => simp [intOf]; omega
      · obtain rfl : i = L.length := by omega
        rw [List.take_of_length_le (Nat.le_refl _)] at HT HOK
        obtain ⟨stE, hrunE, hbgE⟩ := back_run bad L 0 fNew HOK.out begin_new
        rw [← HT.out] at hrunE
        have HRUN := Lib.hid hrunE
        have HBG := Lib.hid hbgE
        have HOKS := Lib.hid HOK.out
        have HE0 := Lib.hid (HENV.out.chg (M := fun k => w.heap.size ≤ k) ⟨hlow.os, hlow.tape, hlow.output, hlow.size, fun k hk _ => hlow.block k hk⟩ (fun _ e => e))
        have h0 := feed_new (n₀ := w.heap.size) wr hlow.size
        have hst : BackJ w T 0 wr.heap.size (wr.alloc (.cells feedZero 65)) (.slice none 0 0) (.slice none 0 0) (.slice none 0 0) [] := {
          f := h0
          parts := ⟨World.ownsRow_nil _ _ _ _, fun x hx => by cases hx⟩
          evs := rfl
          env := HE0.out.chg (M := fun _ => False) ((Chg.refl _ _).alloc _) (fun _ e => e.elim)
          low := hlow.alloc hlow.size _ }
        have HST := Lib.hid hst
        obtain ⟨i0, hi0, hz0, hz1, hz2⟩ := info_parts infoEv
        have Hi := Lib.hid hi0
        have Hz := Lib.hid (And.intro hz0 (And.intro hz1 hz2))
        have hTl : T.length ≤ 32000 := by omega
        clear hst h0 hrunE hbgE hlow hi0 hz0 hz1 hz2 HT HOK hT
        go_wp2_with fail
        refine (new_any _).mono ?_
        rintro e w0 ⟨rfl, rfl⟩
        generalize wr.alloc (.cells feedZero 65) = W0 at *
        obtain ⟨p, hp⟩ : ∃ p, p = wr.heap.size := ⟨_, rfl⟩
        rw [← hp] at HST ⊢
        clear hp HLOW HE0
        clear wr
        go_wp2_with fail
        go_loopw [7, 10] (fun s7 s10 wr => ∃ (c : Nat) (pv hv ks : Value) (Lp : List (Value × Ev)), s7 = sv (T.drop c) ∧ s10 = pv ∧ c ≤ T.length ∧ BackJ w T c p wr pv hv ks Lp) (fun s7 _ _ => strLen s7)
        case atStart => exact ⟨0, _, _, _, [], rfl, rfl, Nat.zero_le _, HST.out⟩
        case round =>
          obtain ⟨c, pv, hv, ks, Lp, rfl, rfl, hc, hj⟩ := hrel
          clear HST W0
          obtain ⟨pa, pc, rfl⟩ := row_slice hj.parts.row
          have hLp : Lp.length ≤ 32000 := by
            have := run_few (T.take c) fNew
            rw [← hj.evs, List.length_map, List.length_take] at this
            omega
          have hgd : GoodF (runF fNew (T.take c)).1 := goodF_run _ _ goodF_new
          have hheld : (runF fNew (T.take c)).1.held.length ≤ c := by
            have := heldF_run (T.take c) fNew
            rw [List.length_take] at this
            have h0 : fNew.held.length = 0 := rfl
            omega
          have hrl : (T.drop c).length = T.length - c := List.length_drop
          obtain ⟨R, hR⟩ : ∃ R, R = T.drop c := ⟨_, rfl⟩
          have HJ := Lib.hid hj
          rw [← hR] at hrl ⊢
          have HR := Lib.hid hR
          have hrl1 : R.length + c ≤ T.length := by omega
          have hrl2 : T.length ≤ R.length + c := by omega
          clear hR hj hrl
          by_cases hr0 : 0 < R.length
          · have d2 : decide ((0 : Int) < (R.length : Int)) = true := by rw [decide_eq_true_eq]; omega
            obtain ⟨k, hk⟩ : ∃ k, k = min (1 + size) R.length := ⟨_, rfl⟩
            have hmin : min (1 + (size : Int)) (R.length : Int) = (k : Int) := by omega
            have hk1 : 1 ≤ k := by omega
            have hkr : k ≤ R.length := by omega
            have hk3 : k ≤ 65536 := by omega
            have hs1 := fun W => slice_to R k hkr W
            have hs2 := fun W => slice_from R (k : Int) (by omega) (by omega) W
            rw [Int.toNat_natCast] at hs2
            have hql : (R.take k).length = k := by rw [List.length_take]; omega
            obtain ⟨cc, ob, hcv, hbr, htg⟩ := conv_text wr (R.take k) (by omega)
            have hbW : Below wr.heap.size wr (wr.drew.alloc ob) := ((Below.refl _ _).drew).alloc (by simp) _
            have hJ' := HJ.out.below hbW
            have hin := in_any hJ'.f hJ'.env hJ'.low.size hgd (by rw [hql]; omega) hbr (fun hne g hg => .inr (by
              obtain rfl : wr.heap.size = g := by simpa [Value.ownBlock] using hg
              exact htg)) (fun hne g hg e => by
              obtain rfl : wr.heap.size = g := by simpa [Value.ownBlock] using hg
              have := (HJ.out.f.held.lt _ e).2
              omega) ⟨by decide, by decide, by decide⟩ (by decide)
            rw [hql] at hin hcv
            have HIN := Lib.hid hin
            have HJ' := Lib.hid hJ'
            clear hin hJ' hbW hbr htg hk hgd hheld hql
            go_wp2_with fail
            refine HIN.out.mono ?_
            rintro e w1 ⟨hv', ks', ov, M, rfl, hf1, hc1, hfr1, hev1, hcut1, hkM⟩
            have hM : M.length ≤ 65536 := by
              have := run_few (R.take k) (runF fNew (T.take c)).1
              rw [← hev1, List.length_map, List.length_take] at this
              omega
            rw [HR.out] at hev1 hf1
            have HK := Lib.hid (HJ'.out.fed hc1)
            have HF1 := Lib.hid hf1
            have HEV1 := Lib.hid hev1
            have HCUT := Lib.hid hcut1
            have HKM := Lib.hid hkM
            clear hf1 hc1 hev1 hcut1 hkM hfr1
            obtain ⟨ma, hma⟩ := HCUT.out.1
            subst hma
            have hdd : R.drop k = T.drop (c + k) := by rw [HR.out, List.drop_drop]
            have HDD := Lib.hid hdd
            clear hdd
            cases ma with
            | some A =>
              go_wp2_with (first | (at_builtin; refine wpList_append_own_at _ (by rfl) _ _ 27 (by rfl) w.heap.size 42 i0 (.agg evZero) 13 144 Tryd.underlying27 Hi.out Hz.out.1 Hz.out.2.1 Hz.out.2.2 rfl (by omega) (.slice pa Lp.length pc) Lp.length (evsCells Lp) (by rfl) HK.out.parts.row A M.length M.length (evsCells M) (by rfl) (evsCells_len M) (row_news HCUT.out.2.1) (evs_one HKM.out) (by unfold maxLen; omega) (by omega) HK.out.low.size ?_; intro pv' w2 hown2 hg2 _ hat2) | fail)
              obtain ⟨hp2, hc2⟩ := HK.out.parts.push HKM.out hown2 hg2
              have hj2 := HJ'.out.pushed HK.out HF1.out HEV1.out hp2 hc2
              go_roundw
              case rel => exact ⟨c + k, _, _, _, _, by rw [HDD.out], rfl, by omega, hj2⟩
              case measure =>
                show (⟨(R.drop k).toArray⟩ : ByteArray).size < (⟨R.toArray⟩ : ByteArray).size
                rw [sv_size, sv_size, List.length_drop]; omega
            | none =>
              have hM0 : M = [] := by
                have h0 := HCUT.out.2.1
                obtain ⟨_, a, c', he, h1, _, h3, _⟩ := h0
                obtain ⟨h4, h5, h6⟩ := slice_inj he
                have := h3 h4.symm
                exact List.eq_nil_of_length_eq_zero (by omega)
              subst hM0
              go_wp2_with (first | (at_builtin; refine wpList_append_own_none (by rfl) _ _ 27 (by rfl) w.heap.size 42 i0 13 Tryd.underlying27 Hi.out (.slice pa Lp.length pc) Lp.length (evsCells Lp) (by rfl) HK.out.parts.row (by rfl) ?_) | fail)
              have hp2 : Parts w (.slice pa Lp.length pc) (Lp ++ []) w1 := by rw [List.append_nil]; exact HK.out.parts
              have hc2 : Chg (fun j => (Value.slice pa Lp.length pc).ownBlock = some j) w1 w1 := Chg.refl _ _
              have hj2 := HJ'.out.pushed HK.out HF1.out HEV1.out hp2 hc2
              go_roundw
              case rel => exact ⟨c + k, _, _, _, _, by rw [HDD.out], rfl, by omega, hj2⟩
              case measure =>
                show (⟨(R.drop k).toArray⟩ : ByteArray).size < (⟨R.toArray⟩ : ByteArray).size
                rw [sv_size, sv_size, List.length_drop]; omega
          · have d2 : decide ((0 : Int) < (R.length : Int)) = false := by rw [decide_eq_false_iff_not]; omega
            have htk : T.take c = T := List.take_of_length_le (by omega)
            have hev : Lp.map (·.2) = backEvs bad L 0 := by rw [HJ.out.evs, htk, HRUN.out]
            have hfd : FeedAt w.heap.size wr p 65 [] hv ks stE := by
              have := HJ.out.f
              rwa [htk, HRUN.out] at this
            have hrow : EvRow wr (.slice pa Lp.length pc) Lp := ⟨Row.of_owns HJ.out.parts.row, HJ.out.parts.keys⟩
            have HEV := Lib.hid hev
            have HFD := Lib.hid hfd
            have HROW := Lib.hid hrow
            have HENW := Lib.hid HJ.out.env
            have HLOW := Lib.hid HJ.out.low
            have hLpl : Lp.length = (backEvs bad L 0).length := by rw [← hev, List.length_map]
            have HLP := Lib.hid hLpl
            clear hev hfd hrow hgd hheld htk hLpl HJ HRUN HR
            go_wp2_with fail
            obtain ⟨W1, rfl⟩ : ∃ W1 : World, W1 = wr := ⟨_, rfl⟩
            go_loopw [13, 14] (fun s13 s14 wr => ∃ i : Nat, s14 = .int .i64 (i : Int) ∧ s13 = .int .i64 ((atN bad L.length i : Nat) : Int) ∧ i ≤ Lp.length ∧ Below W1.heap.size W1 wr) (fun _ s14 _ => Lp.length - (intOf s14).toNat)
            case atStart => exact ⟨0, rfl, by unfold atN; rw [if_neg (by omega)]; rfl, Nat.zero_le _, Below.refl _ _⟩
            case round =>
              obtain ⟨i, rfl, rfl, hi, hb1⟩ := hrel
              have HB1 := Lib.hid hb1
              by_cases hlt : i < Lp.length
              · obtain ⟨⟨ke, ev⟩, hx1⟩ : ∃ x, Lp[i]? = some x := ⟨_, List.getElem?_eq_getElem hlt⟩
                have hevi : (backEvs bad L 0)[i]? = some ev := by rw [← HEV.out, List.getElem?_map, hx1]; rfl
                obtain ⟨g1, o1, c1, hs1, hcell1, hk1⟩ := (HROW.out.below hb1).at hx1
                obtain ⟨ka, kc, rfl⟩ := hk1.len
                obtain ⟨rfl, -, -⟩ := slice_inj hs1
                obtain ⟨b1, hbb1⟩ : ∃ b, b = o1 + i * 13 := ⟨_, rfl⟩
                have ix1 : ∀ W : World, (Instr.indexAt 27 (.slice (some ⟨g1, o1, none⟩) Lp.length pc) (.int .i64 (i : Int))).run Tryd.prog W = .ok (.pointer (some ⟨g1, b1, none⟩)) W := fun W => by rw [hbb1]; exact idx_ev rfl hlt W
                have y0 : wr.cell? ⟨g1, b1, none⟩ = some (.int .u8 (ev.cmd.verb : Int)) := by
                  have h := hcell1 0 _ rfl
                  rwa [show o1 + (i * 13 + 0) = b1 from by omega] at h
                have y1 : wr.cell? ⟨g1, b1 + 1, none⟩ = some (.slice ka ev.cmd.keys.length kc) := by
                  have h := hcell1 1 _ rfl
                  rwa [show o1 + (i * 13 + 1) = b1 + 1 from by omega] at h
                have y2 : wr.cell? ⟨g1, b1 + 2, none⟩ = some (.int .u8 (ev.cmd.cverb : Int)) := by
                  have h := hcell1 2 _ rfl
                  rwa [show o1 + (i * 13 + 2) = b1 + 2 from by omega] at h
                have y3 : wr.cell? ⟨g1, b1 + 3, none⟩ = some (sv ev.cmd.key) := by
                  have h := hcell1 3 _ rfl
                  rwa [show o1 + (i * 13 + 3) = b1 + 3 from by omega] at h
                have y4 : wr.cell? ⟨g1, b1 + 4, none⟩ = some (sv ev.cmd.value) := by
                  have h := hcell1 4 _ rfl
                  rwa [show o1 + (i * 13 + 4) = b1 + 4 from by omega] at h
                have y5 : wr.cell? ⟨g1, b1 + 5, none⟩ = some (.int .u32 (ev.cmd.flags : Int)) := by
                  have h := hcell1 5 _ rfl
                  rwa [show o1 + (i * 13 + 5) = b1 + 5 from by omega] at h
                have y6 : wr.cell? ⟨g1, b1 + 6, none⟩ = some (.int .i64 ev.cmd.exp) := by
                  have h := hcell1 6 _ rfl
                  rwa [show o1 + (i * 13 + 6) = b1 + 6 from by omega] at h
                have y7 : wr.cell? ⟨g1, b1 + 7, none⟩ = some (.int .u64 (ev.cmd.id : Int)) := by
                  have h := hcell1 7 _ rfl
                  rwa [show o1 + (i * 13 + 7) = b1 + 7 from by omega] at h
                have y8 : wr.cell? ⟨g1, b1 + 8, none⟩ = some (.int .u64 (ev.cmd.by' : Int)) := by
                  have h := hcell1 8 _ rfl
                  rwa [show o1 + (i * 13 + 8) = b1 + 8 from by omega] at h
                have y9 : wr.cell? ⟨g1, b1 + 9, none⟩ = some (.int .i64 ev.cmd.bytes) := by
                  have h := hcell1 9 _ rfl
                  rwa [show o1 + (i * 13 + 9) = b1 + 9 from by omega] at h
                have y10 : wr.cell? ⟨g1, b1 + 10, none⟩ = some (.bool ev.cmd.quiet) := by
                  have h := hcell1 10 _ rfl
                  rwa [show o1 + (i * 13 + 10) = b1 + 10 from by omega] at h
                have y11 : wr.cell? ⟨g1, b1 + 11, none⟩ = some (sv ev.data) := by
                  have h := hcell1 11 _ rfl
                  rwa [show o1 + (i * 13 + 11) = b1 + 11 from by omega] at h
                have y12 : wr.cell? ⟨g1, b1 + 12, none⟩ = some (.int .u8 (ev.told : Int)) := by
                  have h := hcell1 12 _ rfl
                  rwa [show o1 + (i * 13 + 12) = b1 + 12 from by omega] at h
                obtain ⟨a, haa⟩ : ∃ a, a = atN bad L.length i := ⟨_, rfl⟩
                have HK1 := Lib.hid hk1
                rcases back_at (bad := bad) (L := L) (i := i) (by rw [← HLP.out]; exact hlt) with ⟨hib, hbl, ha1, ha2, he⟩ | ⟨hib, ha2, x, hx, he⟩
                · have hT1 : ev = toldE 1 := by rw [he] at hevi; exact (Option.some.inj hevi).symm
                  have y12' : wr.cell? ⟨g1, b1 + 12, none⟩ = some (.int .u8 1) := by rw [y12, hT1]; rfl
                  have HA2 := Lib.hid ha2
                  rw [ha1]
                  have q1 : ((i : Int) == (bad : Int)) = true := by rw [beq_iff_eq]; omega
                  have q2 : i < L.length := by omega
                  clear y0 y1 y2 y3 y4 y5 y6 y7 y8 y9 y10 y11 y12 hT1 he hevi ha2 ha1 haa hbb1 hs1 hcell1 hx1 hk1 hib
                  go_wp2_with fail
                  go_roundw
                  case rel => exact ⟨i + 1, by go_num, by rw [HA2.out], by omega, HB1.out⟩
                  case measure => simp [intOf]; omega
                · have hT1 : ev = sentEv x := by rw [he] at hevi; exact (Option.some.inj hevi).symm
                  obtain ⟨g, o, ha, hg, hc⟩ := HC.out a x (by rw [haa]; exact hx)
                  have hal : a < L.length := by rw [haa]; exact (List.getElem?_eq_some_iff.1 hx).1
                  obtain ⟨b, hb⟩ : ∃ b, b = o + a * 7 := ⟨_, rfl⟩
                  have hix : ∀ W : World, (Instr.indexAt 47 (.slice la L.length lc) (.int .i64 (a : Int))).run Tryd.prog W = .ok (.pointer (some ⟨g, b, none⟩)) W := fun W => by rw [hb]; exact idx_sent ha hal W
                  have hcw : ∀ (j : Nat) (u : Value), (sentCells x)[j]? = some u → wr.cell? ⟨g, o + (a * 7 + j), none⟩ = some u := fun j u hu => ((HLOW.out.trans (hb1.mono HLOW.out.size)).cell (p := ⟨g, o + (a * 7 + j), none⟩) hg).trans (hc j u hu)
                  have x0 : wr.cell? ⟨g, b, none⟩ = some (.int .u8 (x.kind : Int)) := by
                    have h := hcw 0 _ rfl
                    rwa [show o + (a * 7 + 0) = b from by omega] at h
                  have x1 : wr.cell? ⟨g, b + 1, none⟩ = some (sv x.key) := by
                    have h := hcw 1 _ rfl
                    rwa [show o + (a * 7 + 1) = b + 1 from by omega] at h
                  have x2 : wr.cell? ⟨g, b + 2, none⟩ = some (sv x.data) := by
                    have h := hcw 2 _ rfl
                    rwa [show o + (a * 7 + 2) = b + 2 from by omega] at h
                  have x3 : wr.cell? ⟨g, b + 3, none⟩ = some (.int .u32 (x.flags : Int)) := by
                    have h := hcw 3 _ rfl
                    rwa [show o + (a * 7 + 3) = b + 3 from by omega] at h
                  have x4 : wr.cell? ⟨g, b + 4, none⟩ = some (.int .i32 x.exp) := by
                    have h := hcw 4 _ rfl
                    rwa [show o + (a * 7 + 4) = b + 4 from by omega] at h
                  have x5 : wr.cell? ⟨g, b + 5, none⟩ = some (.bool x.quiet) := by
                    have h := hcw 5 _ rfl
                    rwa [show o + (a * 7 + 5) = b + 5 from by omega] at h
                  have x6 : wr.cell? ⟨g, b + 6, none⟩ = some (.bool x.cr) := by
                    have h := hcw 6 _ rfl
                    rwa [show o + (a * 7 + 6) = b + 6 from by omega] at h
                  have hsi := HSX.out x (List.mem_of_getElem? hx)
                  have hright := fun W (hkw : KeysAt W (.slice ka ev.cmd.keys.length kc) ev.cmd.keys) => (show Calls Tryd.prog 16 #[sentV x, evV (.slice ka ev.cmd.keys.length kc) ev] W fun e w' => e = .returned (.bool true) ∧ Below W.heap.size W w' by
                    have hn : SentNum x := sent_num hsi (HOKS.out x (List.mem_of_getElem? hx))
                    rw [hT1] at hkw ⊢
                    exact sentRight_any hn hkw)
                  have HRT := Lib.hid hright
                  have HA2 := Lib.hid (show atN bad L.length (i + 1) = a + 1 by rw [ha2, haa])
                  rw [← haa]
                  have q1 : ((i : Int) == (bad : Int)) = false := by rw [beq_eq_false_iff_ne]; omega
                  have q2 : decide ((L.length : Int) ≤ (a : Int)) = false := by rw [decide_eq_false_iff_not]; omega
                  clear hT1 he hevi ha2 haa hbb1 hs1 hcell1 hx1 hk1 hib hright hsi hcw hb hc ha hx hb1
                  go_wp2_with fail
                  go_still_tail 13, (by kernel_rfl)
                  all_goals go_wp2_with fail
                  refine (HRT.out _ (HK1.out.below (Below.refl _ _).drew)).mono ?_
                  rintro e w2 ⟨rfl, hb2⟩
                  have hb2' : Below wr.heap.size wr w2 := ⟨hb2.os, hb2.tape, hb2.output, hb2.size, hb2.block⟩
                  have HB2 := Lib.hid (HB1.out.trans (hb2'.mono HB1.out.size))
                  clear hb2 hb2'
                  go_wp2_with fail
                  go_roundw
                  case rel => exact ⟨i + 1, by go_num, by rw [HA2.out]; go_num, by omega, HB2.out⟩
                  case measure => simp [intOf]; omega
              · obtain rfl : i = Lp.length := by omega
                have hend : atN bad L.length Lp.length = L.length := by rw [HLP.out]; exact back_end
                rw [hend]
                have hfd := HFD.out.below hb1
                have hleft : Calls Tryd.prog 11 #[.pointer (some ⟨p, 0, none⟩)] wr fun e w' => e = .returned (.int .i64 0) ∧ wr = w' := by
                  have hbx := hfd.box
                  obtain ⟨ah, ch, hah⟩ := row_slice hfd.held
                  rw [hah] at hbx
                  have h := left_any hbx (by rw [HBG.out.2]; simp)
                  rw [if_neg (by rw [HBG.out.1]; omega), HBG.out.2] at h
                  exact h
                have HLEFT := Lib.hid hleft
                have HLW := Lib.hid (HLOW.out.trans (hb1.mono HLOW.out.size))
                clear hleft hfd hend hb1
                go_wp2_with fail
                refine HLEFT.out.mono ?_
                rintro e w2 ⟨rfl, rfl⟩
                go_wp2_with fail
                refine (HLV.out _ HLW.out).mono ?_
                rintro e w' ⟨rfl, hb⟩
                have HB := Lib.hid hb
                clear hb
                go_wp2_with fail
                go_ret
                exact ⟨rfl, HLW.out.trans (HB.out.mono HLW.out.size)⟩
end Go.Proofs.YtahpjhnbjkjkiaaDoor
