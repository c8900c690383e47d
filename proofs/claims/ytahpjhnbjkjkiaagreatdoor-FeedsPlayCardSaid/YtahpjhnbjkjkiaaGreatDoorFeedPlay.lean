/- The law FeedsPlay, walked: of bytes in chunks the events, and how many bytes are left, are the document's; what is handed in is not kept. Condition: the library's variables MaxLen and ErrRange are as they are laid. -/
import Derived.Test.YtahpjhnbjkjkiaaGreatDoorFeedSame
import Derived.Test.YtahpjhnbjkjkiaaGreatDoorFeedLives
import Derived.Test.YtahpjhnbjkjkiaaGreatDoorLowI
import Derived.Laws.OwnMore
namespace Go.Proofs.YtahpjhnbjkjkiaaGreatDoor
open Go.RowKit Go.ChangeMaps Go.MapKept

/-- Both feeds: bytes bf came to the program's, br to the document's. -/
structure PlayJ (w : World) (bf br : List UInt8) (r : Nat) (W : World) (hv ks bv : Value) : Prop where
  f : FeedAt w.heap.size W w.heap.size 46 [] hv ks (runF fNew bf).1
  rd : RFeed W r bv br
  rq : r = w.heap.size + 1
  apart : br ≠ [] → ∀ g, bv.ownBlock = some g → w.heap.size + 2 ≤ g ∧ hv.ownBlock ≠ some g
  env : Env w.heap.size W
  low : Below w.heap.size w W
  big : w.heap.size + 2 ≤ W.heap.size
section
variable {w W W' : World} {bf br b : List UInt8} {r : Nat} {hv ks bv hv' ks' bv' : Value}
theorem PlayJ.chg (h : PlayJ w bf br r W hv ks bv) {M : Nat → Prop} (hc : Chg M W W') (hM : ∀ k, M k → w.heap.size + 2 ≤ k ∧ hv.ownBlock ≠ some k ∧ (br ≠ [] → bv.ownBlock ≠ some k) ∧ ¬ Tag W k 9) : PlayJ w bf br r W' hv ks bv := {
  f := h.f.kept hc (fun k hk => ⟨fun e => by
    obtain ⟨h1, h2, h3, h4⟩ := hM k hk
    rcases e with e | e
    · omega
    · exact h2 e, (hM k hk).2.2.2⟩)
  rd := ⟨hc.obj h.rd.1 (fun e => by have := (hM _ e).1; have := h.rq; omega), h.rd.2.kept hc (fun hne g hg e => (hM g e).2.2.1 hne hg)⟩
  rq := h.rq
  apart := h.apart
  env := h.env.chg hc (fun k hk => by have := (hM k hk).1; omega)
  low := h.low.trans (hc.below (fun k hk => ⟨Nat.lt_of_lt_of_le hk h.low.size, fun e => by have := (hM k e).1; omega⟩))
  big := Nat.le_trans h.big hc.size }
theorem PlayJ.below (h : PlayJ w bf br r W hv ks bv) (hb : Below W.heap.size W W') : PlayJ w bf br r W' hv ks bv := h.chg (M := fun _ => False) (Chg.of_below hb) (fun _ e => e.elim)
theorem PlayJ.fed (h : PlayJ w bf br r W hv ks bv) (hf : FeedAt w.heap.size W' w.heap.size 46 [] hv' ks' (runF (runF fNew bf).1 b).1) (hc : Chg (FM w.heap.size hv) W W')
    (hfr : ∀ g, hv'.ownBlock = some g → hv.ownBlock = some g ∨ W.heap.size ≤ g) : PlayJ w (bf ++ b) br r W' hv' ks' bv := by
  have hM : ∀ k, FM w.heap.size hv k → k ≠ r := fun k hk e => by
    subst e
    rcases (h.f.fm hk).2 with h1 | h1
    · exact absurd (h1.one (Tag.of h.rd.1)) (by decide)
    · exact absurd (h1.one (Tag.of h.rd.1)) (by decide)
  exact {
    f := by rw [runF_append]; exact hf
    rd := ⟨hc.obj h.rd.1 (fun e => hM _ e rfl), h.rd.2.kept hc (fun hne g hg e => by
      have ha := h.apart hne g hg
      rcases e with e | e
      · omega
      · exact ha.2 e)⟩
    rq := h.rq
    apart := fun hne g hg => ⟨(h.apart hne g hg).1, fun e => by
      rcases hfr g e with h1 | h1
      · exact (h.apart hne g hg).2 h1
      · have := h.rd.2.blk hne hg; omega⟩
    env := h.env.chg hc h.f.lowM
    low := h.low.trans (hc.below (fun k hk => ⟨Nat.lt_of_lt_of_le hk h.low.size, fun e => by have := h.f.lowM k e; omega⟩))
    big := Nat.le_trans h.big hc.size }
theorem PlayJ.rin (h : PlayJ w bf br r W hv ks bv) (hr : RFeed W' r bv' (br ++ b)) (hfr : ∀ g, bv'.ownBlock = some g → W.heap.size ≤ g) (hc : Chg (fun k => k = r) W W') : PlayJ w bf (br ++ b) r W' hv ks bv' := {
  f := h.f.kept hc (fun k hk => by
    subst hk
    have ht := Tag.of h.rd.1
    refine ⟨fun e => ?_, fun e => absurd (ht.one e) (by decide)⟩
    rcases (h.f.fm e).2 with h1 | h1 <;> exact absurd (h1.one ht) (by decide))
  rd := hr
  rq := h.rq
  apart := fun _ g hg => ⟨by have := hfr g hg; have := h.big; omega, fun e => by have := (h.f.held.lt g e).2; have := hfr g hg; omega⟩
  env := h.env.chg hc (fun k hk => by have := h.rq; omega)
  low := h.low.trans (hc.below (fun k hk => ⟨Nat.lt_of_lt_of_le hk h.low.size, fun e => by have := h.rq; omega⟩))
  big := Nat.le_trans h.big hc.size }
theorem PlayJ.tags (h : PlayJ w bf br r W hv ks bv) : ¬ (fun k => k = r) w.heap.size := fun e => by have := h.rq; have e' : w.heap.size = r := e; omega
end
/-- What the copy of a chunk is. -/
structure CopyJ (w : World) (B : Nat) (W : World) (hv bv : Value) (br : List UInt8) (g : Option Addr) (n c : Nat) (xs : List UInt8) : Prop where
  row : W.ownsRow B 5 1 (.slice g n c) n (xs.map u8v)
  big : w.heap.size + 2 ≤ B
  apart : ∀ k, (Value.slice g n c).ownBlock = some k → hv.ownBlock ≠ some k ∧ (br ≠ [] → bv.ownBlock ≠ some k)
theorem play_set {w W : World} {bf br : List UInt8} {r B : Nat} {hv ks bv : Value} {g n c k : Nat} {xs : List UInt8} (h : PlayJ w bf br r W hv ks bv) (hj : CopyJ w B W hv bv br (some ⟨g, 0, none⟩) n c xs) (_hk : k < n) (x : UInt8) :
    PlayJ w bf br r (W.setCell ⟨g, k, none⟩ (u8v x)) hv ks bv ∧ CopyJ w B (W.setCell ⟨g, k, none⟩ (u8v x)) hv bv br (some ⟨g, 0, none⟩) n c (xs.set k x) := by
  have hg := hj.row.lt g rfl
  have hs : Chg (fun j => j = g) W (W.setCell ⟨g, k, none⟩ (u8v x)) := Chg.set (M := fun j => j = g) (Chg.refl _ _) (fun _ => rfl) _
  refine ⟨h.chg hs (fun j hm => by
    subst hm
    have ha := hj.apart j rfl
    exact ⟨by have := hj.big; omega, ha.1, ha.2, fun e => absurd ((owns_tag hj.row rfl).one e) (by decide)⟩), ?_, hj.big, hj.apart⟩
  have := (hj.row.stored k (u8v x)).1
  rw [List.map_set]
  exact this
set_option maxRecDepth 100000 in
set_option maxHeartbeats 16000000 in
theorem feedsPlay_walk {w : World} {lv : Value} {L : List (List UInt8)} (hl : BRows w lv L) (hL : HasLen w) (hE : HasErr w) :
    Calls Tryz.prog 3 #[lv] w fun e w' => e = .returned (.bool true) ∧ Below w.heap.size w w' := by
  obtain ⟨la, lc, rfl⟩ := hl.len
  have hmx := hl.max
  unfold maxLen at hmx
  have hlives := lives30 w hL hE
  have HLV := Lib.hid hlives
  have HL := Lib.hid hl
  have HENV := Lib.hid (Env.of hL hE)
  clear hlives hl hL hE
  go_enter Tryz.func3, Tryz.ntmps3
  go_wp2_with fail
  go_loop [3, 4] (fun s3 s4 => ∃ i n : Nat, i ≤ L.length ∧ s4 = .int .i64 (i : Int) ∧ s3 = .int .i64 (n : Int) ∧ n ≤ 18001 ∧ Hid (n = capSum 9001 (L.take i))) (fun _ s4 => L.length - (intOf s4).toNat)
  case atStart => exact ⟨0, 0, Nat.zero_le _, rfl, rfl, by omega, Lib.hid (by simp [capSum])⟩
  case round =>
    obtain ⟨i, n, hi, rfl, rfl, hn, HN⟩ := hrel
    by_cases hlt : i < L.length
    · by_cases hnl : n ≤ 9000
      · obtain ⟨bl, hx⟩ : ∃ x, L[i]? = some x := ⟨_, List.getElem?_eq_getElem hlt⟩
        obtain ⟨g, o, c', x, he, hgl, hcx, hbx⟩ := HL.out.at hx
        obtain ⟨xa, xc, rfl⟩ := hbx.len
        have hix := fun W => idx_rows (c := lc) (slice_inj he).1 hlt W
        have hbm := hbx.cap
        unfold maxLen at hbm
        obtain ⟨m, hm⟩ : ∃ m, m = min bl.length 9001 := ⟨_, rfl⟩
        have hmin : min (bl.length : Int) (9001 : Int) = (m : Int) := by omega
        have hm2 : m ≤ 9001 := by omega
        have HX := Lib.hid hx
        have HM := Lib.hid hm
        clear he hx hm hbx
        go_wp2_with fail
        go_round
        case rel => exact ⟨i + 1, n + m, by omega, by go_num, by go_num, by omega, Lib.hid (by rw [capSum_snoc 9001 HX.out, ← HN.out, HM.out])⟩
        case measure => simp [intOf]; omega
      · have t1 : decide ((9000 : Int) < (n : Int)) = true := by rw [decide_eq_true_eq]; omega
        have t2 : decide ((n : Int) ≤ 9000) = false := by rw [decide_eq_false_iff_not]; omega
        by_cases hbig : 40 < L.length
        · have t3 : decide ((40 : Int) < (L.length : Int)) = true := by rw [decide_eq_true_eq]; omega
          go_wp2_with fail
          refine HLV.out.mono ?_
          rintro e w' ⟨rfl, hb⟩
          have HB := Lib.hid hb
          clear hb
          go_wp2_with fail
          go_ret
          exact ⟨rfl, HB.out⟩
        · have t3 : decide ((40 : Int) < (L.length : Int)) = false := by rw [decide_eq_false_iff_not]; omega
          go_wp2_with fail
          refine HLV.out.mono ?_
          rintro e w' ⟨rfl, hb⟩
          have HB := Lib.hid hb
          clear hb
          go_wp2_with fail
          go_ret
          exact ⟨rfl, HB.out⟩
    · obtain rfl : i = L.length := by omega
      by_cases hbig : 40 < L.length
      · have t3 : decide ((40 : Int) < (L.length : Int)) = true := by rw [decide_eq_true_eq]; omega
        go_wp2_with fail
        refine HLV.out.mono ?_
        rintro e w' ⟨rfl, hb⟩
        have HB := Lib.hid hb
        clear hb
        go_wp2_with fail
        go_ret
        exact ⟨rfl, HB.out⟩
      · have t3 : decide ((40 : Int) < (L.length : Int)) = false := by rw [decide_eq_false_iff_not]; omega
        by_cases hnl : 9000 < n
        · have t1 : decide ((9000 : Int) < (n : Int)) = true := by rw [decide_eq_true_eq]; omega
          go_wp2_with fail
          refine HLV.out.mono ?_
          rintro e w' ⟨rfl, hb⟩
          have HB := Lib.hid hb
          clear hb
          go_wp2_with fail
          go_ret
          exact ⟨rfl, HB.out⟩
        · have t1 : decide ((9000 : Int) < (n : Int)) = false := by rw [decide_eq_false_iff_not]; omega
          have hsum : L.flatten.length ≤ 9000 := by
            refine capSum_flat (m := 9001) (by omega) ?_
            have := HN.out
            rw [List.take_of_length_le (Nat.le_refl _)] at this
            omega
          go_wp2_with fail
          refine (new_any w).mono ?_
          rintro e w0 ⟨rfl, rfl⟩
          have ha := Chg.alloc (M := fun _ => False) (Chg.alloc (Chg.refl _ w) (.cells feedZero 46)) (.cells #[.slice none 0 0, .int .i64 0] 29)
          have hb0 : Below w.heap.size w ((w.alloc (.cells feedZero 46)).alloc (.cells #[.slice none 0 0, .int .i64 0] 29)) := ((Below.refl _ _).alloc (Nat.le_refl _) _).alloc (by simp) _
          have hst : PlayJ w [] [] (w.heap.size + 1) ((w.alloc (.cells feedZero 46)).alloc (.cells #[.slice none 0 0, .int .i64 0] 29)) (.slice none 0 0) (.slice none 0 0) (.slice none 0 0) := {
            f := (feed_new (n₀ := w.heap.size) w (Nat.le_refl _)).alloc _
            rd := ⟨by rw [refEv_nil, heap_at, if_pos (by simp)]; rfl, ⟨none, 0, rfl, Nat.le_refl _, by unfold maxLen; omega, fun _ => rfl, .inl rfl⟩⟩
            rq := rfl
            apart := fun h => absurd rfl h
            env := HENV.out.chg ha (fun _ e => e.elim)
            low := hb0
            big := by simp }
          have HST := Lib.hid hst
          clear ha hb0 hst
          go_wp2_with fail
          generalize (w.alloc (.cells feedZero 46)).alloc (.cells #[.slice none 0 0, .int .i64 0] 29) = W0 at *
          obtain ⟨r, hr⟩ : ∃ r, r = w.heap.size + 1 := ⟨_, rfl⟩
          rw [← hr] at HST ⊢
          have HR := Lib.hid hr
          clear hr
          go_loopw [7] (fun s7 wr => ∃ (i : Nat) (hv ks bv : Value), s7 = .int .i64 (i : Int) ∧ i ≤ L.length ∧ PlayJ w (L.take i).flatten (L.take i).flatten r wr hv ks bv) (fun s7 _ => L.length - (intOf s7).toNat)
          case atStart => exact ⟨0, _, _, _, rfl, Nat.zero_le _, HST.out⟩
          case round =>
            obtain ⟨i, hv, ks, bv, rfl, hi, hj⟩ := hrel
            clear HST W0
            by_cases hlt : i < L.length
            · obtain ⟨bl, hx⟩ : ∃ x, L[i]? = some x := ⟨_, List.getElem?_eq_getElem hlt⟩
              obtain ⟨g, o, c', x, he, hgl, hcx, hbx⟩ := HL.out.at hx
              obtain ⟨xa, xc, rfl⟩ := hbx.len
              have hix := fun W => idx_rows (c := lc) (slice_inj he).1 hlt W
              have hfl := flat_snoc hx
              have htot : (L.take i).flatten.length + bl.length ≤ 9000 := by
                have h1 := flat_le L (i + 1)
                rw [hfl, List.length_append] at h1
                omega
              rw [List.length_append.symm] at htot
              generalize (L.take i).flatten = b0 at *
              have hb0n : b0.length ≤ 9000 := by rw [List.length_append] at htot; omega
              have hbln : bl.length ≤ 9000 := by rw [List.length_append] at htot; omega
              have hcw : ∀ W : World, Below w.heap.size w W → W.cell? ⟨g, o + i, none⟩ = some (.slice xa bl.length xc) := fun W hb => (hb.cell (p := ⟨g, o + i, none⟩) hgl).trans hcx
              have hc0 := hcw _ hj.low
              have hbw : ∀ W : World, Below w.heap.size w W → BRow W (.slice xa bl.length xc) bl := fun W hb => hbx.kept (M := fun k => w.heap.size ≤ k) ⟨hb.os, hb.tape, hb.output, hb.size, fun k hk _ => hb.block k hk⟩ (fun hne g hg e => by have := hbx.blk hne hg; omega)
              have HJ := Lib.hid hj
              have HFL := Lib.hid hfl
              have HCW := Lib.hid hcw
              have HBW := Lib.hid hbw
              have HT := Lib.hid htot
              clear hj hfl hcw hbw htot he hx hcx hbx
              go_wp2_with (first | (at_builtin; refine wpList_appB (l0 := []) (B := wr.heap.size) _ _ (by rfl) (by rfl) (by rfl) (by rfl) (Nat.le_refl _) (World.ownsRow_nil _ _ _ _) (HBW.out _ HJ.out.low) (by show 0 + bl.length < _; omega) (fun v1 w1 hv1 hb1 => ?_)) | fail)
              rw [List.nil_append] at hv1
              have hb1 : Below wr.heap.size wr w1.drew := hb1.drew
              have hv1 := hv1.drew
              have hj1 := HJ.out.below hb1
              have hcp1 : ∀ k, v1.ownBlock = some k → wr.heap.size ≤ k ∧ k < w1.drew.heap.size := fun k hk => hv1.lt k hk
              obtain ⟨va, vc, rfl⟩ := row_slice hv1
              have hc1 := HCW.out _ hj1.low
              have hgd : GoodF (runF fNew b0).1 := goodF_run _ _ goodF_new
              have hheld : (runF fNew b0).1.held.length ≤ b0.length := by
                have := heldF_run b0 fNew
                have h0 : fNew.held.length = 0 := rfl
                omega
              have hin := in_any hj1.f hj1.env hj1.low.size hgd (by omega) (Row.of_owns hv1).bytes (fun hne k hk => .inr (owns_tag hv1 hk)) (fun hne k hk e => by
                have h1 := (hcp1 k hk).1
                have h2 := (HJ.out.f.held.lt k e).2
                omega) ⟨by decide, by decide, by decide⟩ (by decide)
              have HJ1 := Lib.hid hj1
              have HV1 := Lib.hid hv1
              have HCP := Lib.hid hcp1
              have HIN := Lib.hid hin
              have HB1 := Lib.hid hb1
              clear hj1 hv1 hcp1 hin hgd hheld hb1 hc0
              refine wp_region_held_drew (S := fun W => W.cell? ⟨g, o + i, none⟩ = some (.slice xa bl.length xc)) (by kernel_rfl) (by simpa using hc1) (fun hHeld => ?_)
              refine wpAnyH_take (i := 0) (v := ?_) rfl (by kernel_rfl) (by kernel_rfl) (by kernel_rfl) (fun _ _ _ h => h) (Or.inl ⟨by rfl, ?_⟩) (by assumption) ?_
              rotate_left 1
              · ((intro w hSw; (try dsimp only at hSw); go_simp) <;> with_reducible rfl)
              try simp only [Act.put, List.setIfInBounds_toArray, List.set_cons_zero, List.set_cons_succ, List.getElem_toArray, List.getElem_cons_zero]
              refine wpAnyH_take (i := 1) (v := ?_) rfl (by kernel_rfl) (by kernel_rfl) (by kernel_rfl) (fun _ _ _ h => h) (Or.inl ⟨by rfl, ?_⟩) (by assumption) ?_
              rotate_left 1
              · ((intro w hSw; (try dsimp only at hSw); go_simp) <;> with_reducible rfl)
              try simp only [Act.put, List.setIfInBounds_toArray, List.set_cons_zero, List.set_cons_succ, List.getElem_toArray, List.getElem_cons_zero, List.getElem_cons_succ]
              refine wpAnyH_take (i := 3) (v := ?_) rfl (by kernel_rfl) (by kernel_rfl) (by kernel_rfl) (fun _ _ _ h => h) (Or.inl ⟨by rfl, ?_⟩) (by assumption) ?_
              rotate_left 1
              · ((intro w hSw; (try dsimp only at hSw); go_simp) <;> with_reducible rfl)
              try simp only [Act.put, List.setIfInBounds_toArray, List.set_cons_zero, List.set_cons_succ, List.getElem_toArray, List.getElem_cons_zero, List.getElem_cons_succ]
              refine wpAnyH_take (i := 4) (v := ?_) rfl (by kernel_rfl) (by kernel_rfl) (by kernel_rfl) (fun _ _ _ h => h) (Or.inl ⟨by rfl, ?_⟩) (by assumption) ?_
              rotate_left 1
              · ((intro w hSw; (try dsimp only at hSw); go_simp) <;> with_reducible rfl)
              try simp only [Act.put, List.setIfInBounds_toArray, List.set_cons_zero, List.set_cons_succ, List.getElem_toArray, List.getElem_cons_zero, List.getElem_cons_succ]
              refine wpAnyH_take (i := 5) (v := ?_) rfl (by kernel_rfl) (by kernel_rfl) (by kernel_rfl) (fun _ _ _ h => h) (Or.inl ⟨by rfl, ?_⟩) (by assumption) ?_
              rotate_left 1
              · ((intro w hSw; (try dsimp only at hSw); go_simp) <;> with_reducible rfl)
              try simp only [Act.put, List.setIfInBounds_toArray, List.set_cons_zero, List.set_cons_succ, List.getElem_toArray, List.getElem_cons_zero, List.getElem_cons_succ]
              refine wpAnyH_take (i := 6) (v := ?_) rfl (by kernel_rfl) (by kernel_rfl) (by kernel_rfl) (fun _ _ _ h => h) (Or.inl ⟨by rfl, ?_⟩) (by assumption) ?_
              rotate_left 1
              · ((intro w hSw; (try dsimp only at hSw); go_simp) <;> with_reducible rfl)
              try simp only [Act.put, List.setIfInBounds_toArray, List.set_cons_zero, List.set_cons_succ, List.getElem_toArray, List.getElem_cons_zero, List.getElem_cons_succ]
              refine wpAnyH_take (i := 7) (v := ?_) rfl (by kernel_rfl) (by kernel_rfl) (by kernel_rfl) (fun _ _ _ h => h) (Or.inl ⟨by rfl, ?_⟩) (by assumption) ?_
              rotate_left 1
              · ((intro w hSw; (try dsimp only at hSw); go_simp) <;> with_reducible rfl)
              try simp only [Act.put, List.setIfInBounds_toArray, List.set_cons_zero, List.set_cons_succ, List.getElem_toArray, List.getElem_cons_zero, List.getElem_cons_succ]
              refine wpAnyH_ready (rs := [2]) (by kernel_rfl) (by simp) ?_
              refine AllReadyH.cons rfl (fun K hK => ?_) AllReadyH.nil
              go_split_ands
              go_simp
              go_at_call 15
              refine (HIN.out).mono ?_
              rintro e w2 ⟨hv2, ks2, ov2, L2, rfl, hf2, hch2, hfr2, hev2, hcut2, hkw2⟩
              have hj2 := HJ1.out.fed hf2 hch2 hfr2
              have hrow2 : EvRow w2 ov2 L2 := ⟨hcut2.2.1, hkw2⟩
              obtain ⟨a2, rfl⟩ : ∃ a, ov2 = .slice a L2.length L2.length := hcut2.1
              have hv2r : w2.ownsRow wr.heap.size 5 1 (.slice va bl.length vc) bl.length (bl.map u8v) := owns_grow HV1.out hch2 (fun k hk e => by
                have h1 := (HCP.out k hk).1
                rcases e with e | e
                · have := HJ.out.big; omega
                · have := (HJ.out.f.held.lt k e).2; omega)
              have hap2 : ∀ k, (Value.slice va bl.length vc).ownBlock = some k → hv2.ownBlock ≠ some k := fun k hk e => by
                rcases hfr2 k e with h1 | h1
                · have := (HJ.out.f.held.lt k h1).2; have := (HCP.out k hk).1; omega
                · have := (HCP.out k hk).2; omega
              have hc2 := HCW.out _ hj2.low
              have hrin := refIn_any hj2.rd (HBW.out _ hj2.low) (by omega)
              have HJ2 := Lib.hid hj2
              have HW2 := Lib.hid hrow2
              have HV2 := Lib.hid hv2r
              have HA2 := Lib.hid hap2
              have HE2 := Lib.hid hev2
              have HRIN := Lib.hid hrin
              have HSZ2 := Lib.hid hch2.size
              clear hf2 hch2 hfr2 hev2 hcut2 hkw2 hj2 hrow2 hv2r hap2 hrin HJ1 HV1 HIN
              refine hK.out _ _ hc2 (fun hHeld2 => ?_)
              clear hK K
              try simp only [Act.put, List.setIfInBounds_toArray, List.set_cons_zero, List.set_cons_succ, List.getElem_toArray, List.getElem_cons_zero, List.getElem_cons_succ]
              refine wpAnyH_ready (rs := [8]) (by kernel_rfl) (by simp) ?_
              refine AllReadyH.cons rfl (fun K hK => ?_) AllReadyH.nil
              go_split_ands
              go_simp
              go_at_call 16
              refine (HRIN.out).mono ?_
              rintro e w3 ⟨v3, L3, b3, rfl, hrow3, hev3, hrf3, hfr3, hch3⟩
              have hj3 := HJ2.out.rin hrf3 hfr3 hch3
              have hM3 : ∀ k, k = r → ∀ t, t ≠ 29 → ¬ Tag w2 k t := fun k hk t ht h => by subst hk; exact ht (h.one (Tag.of HJ2.out.rd.1))
              have hw3 := HW2.out.kept hch3 (fun k hk => ⟨hM3 k hk _ (by decide), hM3 k hk _ (by decide)⟩)
              have hv3r := owns_grow HV2.out hch3 (fun k hk e => absurd (owns_tag HV2.out hk) (hM3 k e _ (by decide)))
              have hap3 : ∀ k, (Value.slice va bl.length vc).ownBlock = some k → b3.ownBlock ≠ some k := fun k hk e => by have := hfr3 k e; have := (HV2.out.lt k hk).2; omega
              have hmore := feed_more b0 bl
              have hm : L2.map (·.2) = L3.map (·.2) := by rw [HE2.out, hev3, hmore.1, List.drop_left]
              have hsame := same30_any hw3 hrow3 hm (by rw [HE2.out]; exact run_none bl _)
              have hc3 := HCW.out _ hj3.low
              have HJ3 := Lib.hid hj3
              have HV3 := Lib.hid hv3r
              have HA3 := Lib.hid hap3
              have HS := Lib.hid hsame
              clear hrow3 hev3 hrf3 hfr3 hch3 hj3 hM3 hw3 hv3r hap3 hmore hm hsame HRIN HJ2 HW2 HV2 HE2
              refine hK.out _ _ hc3 (fun hHeld2 => ?_)
              clear hK K
              try simp only [Act.put, List.setIfInBounds_toArray, List.set_cons_zero, List.set_cons_succ, List.getElem_toArray, List.getElem_cons_zero, List.getElem_cons_succ]
              refine wpAnyH_ready (rs := [9]) (by kernel_rfl) (by simp) ?_
              refine AllReadyH.cons rfl (fun K hK => ?_) AllReadyH.nil
              go_split_ands
              go_simp
              go_at_call 14
              refine (HS.out).mono ?_
              rintro e w4 ⟨rfl, hb4⟩
              have hj4 := HJ3.out.below hb4
              have hv4 := owns_grow HV3.out (Chg.of_below (M := fun _ => False) hb4) (fun _ _ e => e)
              obtain ⟨N, hN⟩ : ∃ N : Int, N = (((refEv (b0 ++ bl)).2 : Nat) : Int) := ⟨_, rfl⟩
              have hsmall : (runF fNew (b0 ++ bl)).1.held.length ≤ 9000 := by
                have := heldF_run (b0 ++ bl) fNew
                have h0 : fNew.held.length = 0 := rfl
                have := HT.out
                omega
              have hleft : Calls Tryz.prog 17 #[.pointer (some ⟨w.heap.size, 0, none⟩)] w4 fun e w' => e = .returned (.int .i64 N) ∧ w4 = w' := by
                have hb := hj4.f.box
                obtain ⟨ah, ch, hah⟩ := row_slice hj4.f.held
                rw [hah] at hb
                have h := left_any hb (by omega)
                rw [hN, ← (feed_all (b0 ++ bl)).2]
                exact h
              have hrl := refLeft_any hj4.rd (by have := HT.out; omega)
              rw [← hN] at hrl
              have hc4 := HCW.out _ hj4.low
              have HJ4 := Lib.hid hj4
              have HV4 := Lib.hid hv4
              have HLF := Lib.hid hleft
              have HRL := Lib.hid hrl
              clear hj4 hv4 hN hsmall hleft hrl hb4 HS HJ3 HV3
              refine hK.out _ _ hc4 (fun hHeld2 => ?_)
              clear hK K
              try simp only [Act.put, List.setIfInBounds_toArray, List.set_cons_zero, List.set_cons_succ, List.getElem_toArray, List.getElem_cons_zero, List.getElem_cons_succ]
              refine wpAnyH_take (i := 10) (v := ?_) rfl (by kernel_rfl) (by kernel_rfl) (by kernel_rfl) (fun _ _ _ h => h) (Or.inl ⟨by rfl, ?_⟩) (by assumption) ?_
              rotate_left 1
              · ((intro w hSw; (try dsimp only at hSw); go_simp) <;> with_reducible rfl)
              try simp only [Act.put, List.setIfInBounds_toArray, List.set_cons_zero, List.set_cons_succ, List.getElem_toArray, List.getElem_cons_zero, List.getElem_cons_succ]
              refine wpAnyH_take (i := 11) (v := ?_) rfl (by kernel_rfl) (by kernel_rfl) (by kernel_rfl) (fun _ _ _ h => h) (Or.inl ⟨by rfl, ?_⟩) (by assumption) ?_
              rotate_left 1
              · ((intro w hSw; (try dsimp only at hSw); go_simp) <;> with_reducible rfl)
              try simp only [Act.put, List.setIfInBounds_toArray, List.set_cons_zero, List.set_cons_succ, List.getElem_toArray, List.getElem_cons_zero, List.getElem_cons_succ]
              refine wpAnyH_take (i := 12) (v := ?_) rfl (by kernel_rfl) (by kernel_rfl) (by kernel_rfl) (fun _ _ _ h => h) (Or.inl ⟨by rfl, ?_⟩) (by assumption) ?_
              rotate_left 1
              · ((intro w hSw; (try dsimp only at hSw); go_simp) <;> with_reducible rfl)
              try simp only [Act.put, List.setIfInBounds_toArray, List.set_cons_zero, List.set_cons_succ, List.getElem_toArray, List.getElem_cons_zero, List.getElem_cons_succ]
              refine wpAnyH_take (i := 14) (v := ?_) rfl (by kernel_rfl) (by kernel_rfl) (by kernel_rfl) (fun _ _ _ h => h) (Or.inl ⟨by rfl, ?_⟩) (by assumption) ?_
              rotate_left 1
              · ((intro w hSw; (try dsimp only at hSw); go_simp) <;> with_reducible rfl)
              try simp only [Act.put, List.setIfInBounds_toArray, List.set_cons_zero, List.set_cons_succ, List.getElem_toArray, List.getElem_cons_zero, List.getElem_cons_succ]
              refine wpAnyH_ready (rs := [13]) (by kernel_rfl) (by simp) ?_
              refine AllReadyH.cons rfl (fun K hK => ?_) AllReadyH.nil
              go_split_ands
              go_simp
              go_at_call 17
              refine (HLF.out).mono ?_
              rintro e w4' ⟨rfl, rfl⟩
              refine hK.out _ _ hc4 (fun hHeld2 => ?_)
              clear hK K
              try simp only [Act.put, List.setIfInBounds_toArray, List.set_cons_zero, List.set_cons_succ, List.getElem_toArray, List.getElem_cons_zero, List.getElem_cons_succ]
              refine wpAnyH_ready (rs := [15]) (by kernel_rfl) (by simp) ?_
              refine AllReadyH.cons rfl (fun K hK => ?_) AllReadyH.nil
              go_split_ands
              go_simp
              go_at_call 18
              refine (HRL.out).mono ?_
              rintro e w5 ⟨rfl, hb5⟩
              have hj5 := HJ4.out.below hb5
              have hv5 := owns_grow HV4.out (Chg.of_below (M := fun _ => False) hb5) (fun _ _ e => e)
              have hc5 := HCW.out _ hj5.low
              have HJ5 := Lib.hid hj5
              have HV5 := Lib.hid hv5
              clear hj5 hv5 hb5 HJ4 HV4 HLF HRL
              refine hK.out _ _ hc5 (fun hHeld2 => ?_)
              clear hK K
              try simp only [Act.put, List.setIfInBounds_toArray, List.set_cons_zero, List.set_cons_succ, List.getElem_toArray, List.getElem_cons_zero, List.getElem_cons_succ]
              refine wpAnyH_take (i := 16) (v := ?_) rfl (by kernel_rfl) (by kernel_rfl) (by kernel_rfl) (fun _ _ _ h => h) (Or.inl ⟨by rfl, ?_⟩) (by assumption) ?_
              rotate_left 1
              · ((intro w hSw; (try dsimp only at hSw); go_simp) <;> with_reducible rfl)
              try simp only [Act.put, List.setIfInBounds_toArray, List.set_cons_zero, List.set_cons_succ, List.getElem_toArray, List.getElem_cons_zero, List.getElem_cons_succ]
              refine wpAnyH_take (i := 17) (v := ?_) rfl (by kernel_rfl) (by kernel_rfl) (by kernel_rfl) (fun _ _ _ h => h) (Or.inl ⟨by rfl, ?_⟩) (by assumption) ?_
              rotate_left 1
              · ((intro w hSw; (try dsimp only at hSw); go_simp) <;> with_reducible rfl)
              try simp only [Act.put, List.setIfInBounds_toArray, List.set_cons_zero, List.set_cons_succ, List.getElem_toArray, List.getElem_cons_zero, List.getElem_cons_succ]
              refine wpAnyH_done (by kernel_rfl) ?_ _
              go_split_ands
              go_wp2_with fail
              have hcj5 : CopyJ w wr.heap.size w5 hv2 b3 (b0 ++ bl) va bl.length vc bl := ⟨HV5.out, HJ.out.big, fun k hk => ⟨HA2.out k hk, fun _ => HA3.out k hk⟩⟩
              have HCJ5 := Lib.hid hcj5
              clear hcj5 hc5 hHeld2 HA2 HA3 HV5
              obtain ⟨wo, rfl⟩ : ∃ wo : World, wo = wr := ⟨_, rfl⟩
              go_loopw [9] (fun s9 wi => ∃ (k : Nat) (xs : List UInt8), s9 = .int .i64 (k : Int) ∧ k ≤ bl.length ∧ PlayJ w (b0 ++ bl) (b0 ++ bl) r wi hv2 ks2 b3 ∧ CopyJ w wo.heap.size wi hv2 b3 (b0 ++ bl) va bl.length vc xs ∧ xs.length = bl.length ∧ ∀ j, k ≤ j → xs[j]? = bl[j]?) (fun s9 _ => bl.length - (intOf s9).toNat)
              case atStart => exact ⟨0, bl, rfl, Nat.zero_le _, HJ5.out, HCJ5.out, rfl, fun _ _ => rfl⟩
              case round =>
                obtain ⟨k, xs, rfl, hk, hjk, hck, hxl, hxs⟩ := hrel
                by_cases hlt2 : k < bl.length
                · obtain ⟨x, hx⟩ : ∃ x, bl[k]? = some x := ⟨_, List.getElem?_eq_getElem hlt2⟩
                  have hxk : xs[k]? = some x := by rw [hxs k (Nat.le_refl _)]; exact hx
                  obtain ⟨gv, cv, hgv, hgb, hgl2⟩ := hck.row.form (by omega)
                  obtain ⟨hva, -, hvc⟩ := slice_inj hgv
                  subst hva
                  clear hgv hvc
                  have q1 := hck.row.cellAt k (by omega)
                  rw [List.getElem?_map, hxk] at q1
                  have q1' : wr.cell? ⟨gv, k, none⟩ = some (u8v x) := q1
                  have q2 := hck.row.frozenAt k
                  obtain ⟨g2, o2, c2, hs2, -, q3⟩ := (HBW.out _ hjk.low).at hx
                  have i2 := fun W => idx_byte30 (c := xc) (slice_inj hs2).1 hlt2 W
                  have i1 : ∀ W : World, (Instr.indexAt 23 (.slice (some ⟨gv, 0, none⟩) bl.length vc) (.int .i64 (k : Int))).run Tryz.prog W = .ok (.pointer (some ⟨gv, k, none⟩)) W := fun W => by
                    have := idx_byte30 (a := some ⟨gv, 0, none⟩) (c := vc) rfl hlt2 W
                    rwa [Nat.zero_add] at this
                  have q4 := HCW.out _ hjk.low
                  have HSET := Lib.hid (play_set hjk hck hlt2 10)
                  have HXS := Lib.hid hxs
                  have HXL := Lib.hid hxl
                  clear hxs hxk hx hjk hck hs2 hxl q1 hgb hgl2
                  go_wp2_with fail
                  go_quiet (fail)
                  go_wp2_with fail
                  go_roundw
                  case rel => exact ⟨k + 1, xs.set k 10, by go_num, by omega, HSET.out.1.chg (M := fun _ => False) ((Chg.refl _ _).drewN _) (fun _ e => e.elim), ⟨HSET.out.2.row, HSET.out.2.big, HSET.out.2.apart⟩, by rw [List.length_set]; exact HXL.out, fun j hj => by rw [List.getElem?_set_ne (by omega)]; exact HXS.out j (by omega)⟩
                  case measure => simp [intOf]; omega
                · go_wp2_with fail
                  go_roundw
                  case rel => exact ⟨i + 1, _, _, _, by go_num, by omega, by rw [HFL.out]; exact hjk⟩
                  case measure => simp [intOf]; omega
            · have hlv := lives30 wr hj.env.len hj.env.err
              have HLV2 := Lib.hid hlv
              have HLO := Lib.hid hj.low
              clear hlv hj
              go_wp2_with fail
              refine HLV2.out.mono ?_
              rintro e w' ⟨rfl, hb⟩
              have HB := Lib.hid (HLO.out.trans (hb.mono HLO.out.size))
              clear hb
              go_wp2_with fail
              go_ret
              exact ⟨rfl, HB.out⟩
end Go.Proofs.YtahpjhnbjkjkiaaGreatDoor
