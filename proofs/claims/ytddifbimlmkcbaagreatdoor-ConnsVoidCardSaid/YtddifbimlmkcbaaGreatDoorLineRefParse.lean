/- The reference's Parse of a line. Condition: a line of at most 2^20 bytes. -/
import Derived.Test.YtddifbimlmkcbaaGreatDoorLowJ
namespace Go.Proofs.YtddifbimlmkcbaaGreatDoor
open Go.RowKit Go.ChangeMaps Go.MapKept

/-- What the reference's Parse answers. -/
def RefParseOk (l : List UInt8) (w : World) (e : Ending) (w' : World) : Prop :=
  ∃ ks, e = .returned (.tuple #[cmdV ks (parseL l).1, .int .i64 ((parseL l).2 : Int)]) ∧ OwnT w' w.heap.size 9 ks ((parseL l).1.keys.map sv) ∧ Below w.heap.size w w'
theorem refOk_zero {l : List UInt8} {w w' : World} {t : Nat} (h : parseL l = (noCmd, t)) (hb : Below w.heap.size w w') : RefParseOk l w (.returned (.tuple #[zeroV, .int .i64 (t : Int)])) w' :=
  ⟨.slice none 0 0, by rw [h]; rfl, by rw [h]; exact ⟨Own.nil _ _, fun g hg => by simp [Value.ownBlock] at hg⟩, hb⟩

set_option maxRecDepth 100000 in
set_option maxHeartbeats 3200000 in
theorem refParse_long (s : ByteArray) (w : World) (h : 2048 < s.size) (hs : s.size ≤ 1048576) : Calls Tryz.prog 74 #[.string s] w (RefParseOk (bs s) w) := by
  have hp : parseL (bs s) = (noCmd, 3) := by unfold parseL; rw [if_pos (by rw [bs_length]; exact h)]
  have HP := Lib.hid hp
  clear hp
  go_enter Tryz.func74, Tryz.ntmps74
  go_wp2_with fail
  exact bodyPost_ret (v := .tuple #[zeroV, .int .i64 3]) (by simp [results, Tryz.results74, go_sem]) rfl (refOk_zero HP.out ((Below.refl _ _).alloc (Nat.le_refl _) _))

set_option maxRecDepth 100000 in
set_option maxHeartbeats 3200000 in
theorem refParse_none (s : ByteArray) (w : World) (h : s.size ≤ 2048) (hl : words (bs s) = []) : Calls Tryz.prog 74 #[.string s] w (RefParseOk (bs s) w) := by
  have hp : parseL (bs s) = (noCmd, 1) := by unfold parseL; rw [if_neg (by rw [bs_length]; omega), hl]
  have hsz : decide ((2048 : Int) < (s.size : Int)) = false := by rw [decide_eq_false_iff_not]; omega
  have HP := Lib.hid hp
  have HW := Lib.hid hl
  clear hp hl
  go_enter Tryz.func74, Tryz.ntmps74
  go_wp2_with fail
  refine (refWords_any s _ (by omega)).mono ?_
  rintro e w1 ⟨vw, rfl, hw, hb1⟩
  rw [HW.out] at hw
  obtain ⟨a, c, hv⟩ := Own.len hw
  have hz := hb1.size
  have HV := Lib.hid hw
  have HB1 := Lib.hid hb1
  clear hw hb1
  rw [List.map_nil, List.length_nil] at hv
  have hR1 : w1.heap[w.heap.size]? = some (.cells zeroA 61 (0, 0)) := (HB1.out.block w.heap.size (by simp)).trans (heap_alloc_new _ _)
  rw [hv]
  go_wp2_with (first | ((with_reducible show wpList _ _ _ (⟨none, Op.store _ _ _, _, _, _, _⟩ :: _) _ _); refine wpList_store_whole (by rfl) 61 (.tmp 2) (.tmp 23) (by rfl) w.heap.size (by rfl) _ (by rfl) _ 61 hR1 (by rfl) (by kernel_rfl) (by simp [Value.oneCell']) ?_; intro w2 hr2 hg2 hs2) | ((with_reducible show bodyPost _ _ _ Exit.ret _ _); exact bodyPost_ret (v := .tuple #[zeroV, .int .i64 1]) (results_row_tmp rfl _ _ w.heap.size _ _ _ _ (by rfl) hr2 Tryz.underlying61 rfl (by kernel_rfl) _ (by rfl)) rfl (refOk_zero HP.out (below_then (((Below.refl _ _).alloc (Nat.le_refl _) _).trans (HB1.out.mono (by simp))) (by simp at hz ⊢; omega) hg2 (Nat.le_refl _)))))

/-- 's[k:]' of a slice of strings. -/
theorem strs_from (g o n c M : Nat) (h : M ≤ n) (hc : n ≤ c) (hm : c ≤ maxLen) : ∃ o', (∀ W : World, (Instr.slice 35 (.slice (some ⟨g, o, none⟩) n c) (some (.int .i64 (M : Int))) none none).run Tryz.prog W = .ok (.slice (some ⟨g, o', none⟩) (n - M) (c - M)) W) ∧ (M < n → o' = o + M) := by
  have h2 := Tryz.underlying35
  unfold maxLen at hm
  have i1 : (0 : Int) ≤ (M : Int) := by omega
  have i2 : (M : Int) ≤ (n : Int) := by omega
  have i3 : (n : Int) ≤ (c : Int) := by omega
  by_cases hMc : M = c
  · subst hMc
    obtain rfl : M = n := by omega
    refine ⟨o, fun W => ?_, fun h => by omega⟩
    go_simp
  · refine ⟨o + M, fun W => ?_, fun _ => rfl⟩
    have i4 : ¬ (M = c) := hMc
    go_simp
    intro h5; omega

theorem quiet_is : ∀ v : Nat, v ≠ 0 → v < 14 → quietOf v = (!keysOf v && !(v == 12) && !(v == 13)) := by
  intro v h0 hv
  have : ∀ v < 14, v ≠ 0 → quietOf v = (!keysOf v && !(v == 12) && !(v == 13)) := by decide
  exact this v hv h0
theorem bare_many : ∀ v : Nat, v ≠ 0 → v < 14 → ∀ l : List (List UInt8), manyOf v l = if bareOf v then 0 else if keysOf v then l.length else 1 := by
  intro v h0 hv l
  have h1 : ∀ v < 14, v ≠ 0 → keysOf v = false → min (leastOf v) 1 = if bareOf v then 0 else 1 := by decide
  have h2 : ∀ v < 14, keysOf v = true → bareOf v = false := by decide
  unfold manyOf
  cases hk : keysOf v
  · have := h1 v hv h0 hk
    simp only [Bool.false_eq_true, if_false]
    exact this
  · rw [h2 v hv hk]; simp
set_option maxHeartbeats 400000 in
theorem refOk_any (x : List UInt8) (w : World) (hs : x.length ≤ maxLen) :
    Calls Tryz.prog 89 #[sv x] w fun e w' => e = .returned (.bool (okB x)) ∧ w = w' := by
  have h := refLook_any ⟨x.toArray⟩ w (by rw [sv_size]; exact hs)
  rw [show bs ⟨x.toArray⟩ = x from rfl] at h
  rw [← okB_is]
  generalize (look x).1 = f at h ⊢
  generalize (look x).2 = p at h
  have H := Lib.hid h
  clear h
  go_enter Tryz.func89, Tryz.ntmps89
  go_wp2_with fail
  refine H.out.mono ?_
  rintro e w' ⟨rfl, rfl⟩
  go_wp2_with fail
  go_ret
  exact ⟨rfl, rfl⟩
/-- What the reference's first loop holds behind k keys. -/
def RKeys (q v : Nat) (b : Bool) (l : List (List UInt8)) (B : Nat) (W6 : World) (k : Nat) (wr : World) : Prop :=
  ∃ ks, CAt wr q ks (cmdK v b (l.take k)) ∧ wr.ownsRow B 9 1 ks (l.take k).length ((l.take k).map sv) ∧ W6.grownBy wr (some q) ∧ (l.take k).any badKey = false
theorem undrew {w w' : World} {r : Option Nat} (h : w.drew.grownBy w' r) : w.grownBy w' r := ⟨h.os, h.tape, h.output, h.size, h.block⟩
theorem rkeys_step {q v k gg cp : Nat} {b : Bool} {W1 wr w3 : World} {ks : Value} {l : List (List UInt8)} {x : List UInt8} (hx : l[k]? = some x) (hok : badKey x = false) (hqB : q < W1.heap.size)
    (hc : CAt wr q ks (cmdK v b (l.take k))) (hgk : W1.grownBy wr (some q)) (hnb : (l.take k).any badKey = false) (hown : wr.ownsRow W1.heap.size 9 1 ks (l.take k).length ((l.take k).map sv))
    {wa : World} (hgrow : wa.grownBy w3 ks.ownBlock) (hwa : wr.grownBy wa none)
    (hown3 : w3.ownsRow W1.heap.size 9 1 (.slice (some ⟨gg, 0, none⟩) ((l.take k).length + 1) cp) ((l.take k).length + 1) ((l.take k).map sv ++ [sv x])) :
    RKeys q v b l W1.heap.size W1 (k + 1) (w3.setCell ⟨q, 1, none⟩ (.slice (some ⟨gg, 0, none⟩) ((l.take k).length + 1) cp)) := by
  have hap := own_apart hown hqB
  have ht : l.take (k + 1) = l.take k ++ [x] := by rw [List.take_add_one, hx]; rfl
  have hc3 : CAt w3 q ks (cmdK v b (l.take k)) := (hc.grown hwa (by simp)).grown hgrow (Ne.symm hap)
  refine ⟨.slice (some ⟨gg, 0, none⟩) ((l.take k).length + 1) cp, ?_, ?_, ?_, ?_⟩
  · refine hc3.set 1 _ ?_
    rw [ht]
    simp [cmdCells]
  · rw [ht, List.length_append, List.map_append]
    exact ownsRow_setCell_below hown3 (a := ⟨q, 1, none⟩) hqB _
  · refine grown_trans ?_ (grown_set _ _ _ _)
    have h2 : W1.grownBy wa (some q) := ⟨hwa.os.trans hgk.os, hwa.tape.trans hgk.tape, hwa.output.trans hgk.output, Nat.le_trans hgk.size hwa.size, fun j hj hjp => (hwa.block j (Nat.lt_of_lt_of_le hj hgk.size) (by simp)).trans (hgk.block j hj hjp)⟩
    refine ⟨hgrow.os.trans h2.os, hgrow.tape.trans h2.tape, hgrow.output.trans h2.output, Nat.le_trans h2.size hgrow.size, fun j hj hjp => (hgrow.block j (Nat.lt_of_lt_of_le hj h2.size) ?_).trans (h2.block j hj hjp)⟩
    intro he
    have := own_at hown j he.symm
    omega
  · rw [ht, List.any_append, hnb]; simp [hok]
/-- What the reference's second loop holds behind i words. -/
def RRead (q v : Nat) (b : Bool) (K D : List (List UInt8)) (ks : Value) (W7 : World) (i : Nat) (wr : World) : Prop :=
  ∃ c, CAt wr q ks c ∧ W7.grownBy wr (some q) ∧ c.keys = K ∧ readAll (cmd0 v b K) (restOf v) D = readAll c ((restOf v).drop i) (D.drop i)
theorem index_sv {l : List UInt8} {k : Nat} {c : UInt8} (h : l[k]? = some c) (W : World) : (Instr.index 9 (sv l) (.int .i64 (k : Int))).run Tryz.prog W = .ok (.int .u8 (c.toNat : Int)) W := by
  obtain ⟨hk, hc⟩ := List.getElem?_eq_some_iff.1 h
  rw [run_index_string W 9 _ .i64 (k : Int) Tryz.underlying9, dif_pos ⟨by omega, by rw [sv_size]; omega⟩]
  subst hc
  rfl
/-- What stands ahead of the reference's reading: the command in block q, the words l left from place o of block g on. -/
def RSt (w W : World) (q g o v : Nat) (b : Bool) (l : List (List UInt8)) : Prop :=
  CAt W q (.slice none 0 0) (cmdK v b []) ∧ W.heap[w.heap.size]? = some (.cells zeroA 61 (0, 0)) ∧ Below w.heap.size w W ∧ (∀ j x, l[j]? = some x → W.cell? ⟨g, o + j, none⟩ = some (sv x)) ∧ g < W.heap.size

set_option maxRecDepth 100000 in
set_option maxHeartbeats 6400000 in
theorem refParse_some (s : ByteArray) (name : List UInt8) (l : List (List UInt8)) (w : World) (h : s.size ≤ 2048) (hl : words (bs s) = name :: l) : Calls Tryz.prog 74 #[.string s] w (RefParseOk (bs s) w) := by
  have hsz : decide ((2048 : Int) < (s.size : Int)) = false := by rw [decide_eq_false_iff_not]; omega
  have hll : (name :: l).length ≤ 2048 := by rw [← hl]; have := words_length (bs s); rw [bs_length] at this; omega
  have hxl : ∀ x ∈ name :: l, x.length ≤ 2048 := fun x hx => by rw [← hl] at hx; have := words_short (bs s) x hx; rw [bs_length] at this; omega
  have HX := Lib.hid hxl
  have HW := Lib.hid hl
  clear hl hxl
  rw [List.length_cons] at hll
  have hne : (((l.length : Int) + 1) == 0) = false := by rw [beq_eq_false_iff_ne]; omega
  obtain ⟨i0, hi, hz0, hz1, hz2⟩ := info_parts infoStr
  have Hi := Lib.hid hi
  have Hz := Lib.hid (And.intro hz0 (And.intro hz1 hz2))
  clear hi hz0 hz1 hz2
  go_enter Tryz.func74, Tryz.ntmps74
  go_wp2_with fail
  refine (refWords_any s _ (by omega)).mono ?_
  rintro e w1 ⟨vw, rfl, hw, hb1⟩
  rw [HW.out] at hw
  obtain ⟨g, o, c, hv, hgB, hgl, hnc, hcm, hcells⟩ := Own.some hw (by simp)
  rw [List.length_map, List.length_cons] at hv hnc
  have hz := hb1.size
  have hR1 : w1.heap[w.heap.size]? = some (.cells zeroA 61 (0, 0)) := (hb1.block w.heap.size (by simp)).trans (heap_alloc_new _ _)
  have hc0 : w1.cell? ⟨g, o, none⟩ = some (sv name) := (hcells 0 (sv name) rfl).1
  have hcl : ∀ j x, l[j]? = some x → w1.cell? ⟨g, o + 1 + j, none⟩ = some (sv x) := fun j x hx => by
    have := (hcells (j + 1) (sv x) (by simp [hx])).1
    rwa [show o + (j + 1) = o + 1 + j from by omega] at this
  have hwr1 : w.heap.size < w1.heap.size := lt_of_block hR1
  have hgR : w.heap.size < g := by simp at hgB; omega
  have HB1 := Lib.hid (((Below.refl _ _).alloc (Nat.le_refl _) _).trans (hb1.mono (by simp)))
  have HR1 := Lib.hid hR1
  have HCL := Lib.hid hcl
  clear hw hb1 hR1 hcells hcl hz hgB
  rw [hv]
  go_wp2_with fail
  refine (refVerb_any name w1).mono ?_
  rintro e w2 ⟨rfl, hb2⟩
  have hR2 : w2.heap[w.heap.size]? = some (.cells zeroA 61 (0, 0)) := (hb2.block _ (lt_of_block HR1.out)).trans HR1.out
  have hB2 : Below w.heap.size w w2 := HB1.out.trans (hb2.mono (by omega))
  have hgl2 : g < w2.heap.size := by have := hb2.size; omega
  have HCL2 := Lib.hid (fun j x hx => (hb2.cell (p := ⟨g, o + 1 + j, none⟩) hgl).trans (HCL.out j x hx))
  have hv14 := verb_lt name
  have hbl : (bs s).length ≤ 2048 := by rw [bs_length]; omega
  have hpb := fun hb => parseL_bad hbl HW.out hb
  have hpg := fun hb => parseL_good hbl HW.out hb
  generalize hV : verbOf name = v at *
  have HPB := Lib.hid hpb
  have HPG := Lib.hid hpg
  clear hpb hpg hV hb2 HR1 HCL hv hc0 HB1
  cases hv0 : (v == 0)
  · have hv0' : ((v : Int) == 0) = false := by rw [beq_eq_false_iff_ne] at *; omega
    have hvn : v ≠ 0 := by rw [beq_eq_false_iff_ne] at hv0; exact hv0
    obtain ⟨o1, hsl, ho1⟩ := strs_from g o (l.length + 1) c 1 (by omega) hnc hcm
    have hsl' : ∀ W : World, (Instr.slice 35 (.slice (some ⟨g, o, none⟩) (l.length + 1) c) (some (.int .i64 1)) none none).run Tryz.prog W = .ok (.slice (some ⟨g, o1, none⟩) l.length (c - 1)) W := hsl
    have HB2 := Lib.hid hB2
    have HR2 := Lib.hid hR2
    have HVN := Lib.hid hvn
    clear hB2 hR2 hvn hsl hv0
    go_wp2_with fail
    refine (refBounds_any v HVN.out hv14 w2).mono ?_
    rintro e w' ⟨rfl, rfl⟩
    have hQ3 : CAt (w2.alloc (.cells #[.int .u8 (v : Int), .slice none 0 0, .int .u8 (v : Int), .string ⟨#[]⟩, .string ⟨#[]⟩, .int .u32 0, .int .i64 0, .int .u64 0, .int .u64 0, .int .i64 (-1), .bool false] 61)) w2.heap.size (.slice none 0 0) (cmdK v false []) := heap_alloc_new _ _
    have hg3 := World.grownBy_alloc w2 (.cells #[.int .u8 (v : Int), .slice none 0 0, .int .u8 (v : Int), .string ⟨#[]⟩, .string ⟨#[]⟩, .int .u32 0, .int .i64 0, .int .u64 0, .int .u64 0, .int .i64 (-1), .bool false] 61) (some w2.heap.size)
    go_upto_region 12 with fail
    have hst : RSt w (w2.alloc (.cells #[.int .u8 (v : Int), .slice none 0 0, .int .u8 (v : Int), .string ⟨#[]⟩, .string ⟨#[]⟩, .int .u32 0, .int .i64 0, .int .u64 0, .int .u64 0, .int .i64 (-1), .bool false] 61)) w2.heap.size g o1 v false l := by
      have hRl := lt_of_block HR2.out
      refine ⟨hQ3, (hg3.block _ hRl (by simp; omega)).trans HR2.out, HB2.out.trans ((Below.refl w2.heap.size w2).alloc (Nat.le_refl _) _ |>.mono (by omega)), fun j x hx => ?_, Nat.lt_of_lt_of_le hgl2 hg3.size⟩
      have hj := (List.getElem?_eq_some_iff.1 hx).1
      rw [ho1 (by omega)]
      exact grown_cell (HCL2.out j x hx) hg3 (by omega)
    have hq1 : w.heap.size < w2.heap.size := lt_of_block HR2.out
    have hgq : g ≠ w2.heap.size := by omega
    have hc1 : l.length ≤ c - 1 := by omega
    have hcm1 : c - 1 ≤ maxLen := by omega
    generalize w2.alloc (.cells #[.int .u8 (v : Int), .slice none 0 0, .int .u8 (v : Int), .string ⟨#[]⟩, .string ⟨#[]⟩, .int .u32 0, .int .i64 0, .int .u64 0, .int .u64 0, .int .i64 (-1), .bool false] 61) = W3 at *
    generalize w2.heap.size = q at *
    generalize c - 1 = cap at *
    have HST := Lib.hid hst
    clear hst hQ3 hg3 hsl' ho1 HCL2 HR2 HB2 hcm hnc hgl hwr1 hgl2 hsz hbl hne
    go_cut [67] (fun s67 wx => W3 = wx ∧ ∃ b, s67 = .bool b ∧ b = isQuiet v l)
    case first =>
      have hget := refGets_any v hv14 W3
      cases hk : keysOf v
      · rw [hk] at hget
        have HG := Lib.hid hget
        have HQ := Lib.hid (quiet_is v HVN.out hv14)
        have HK := Lib.hid hk
        clear hget hk
        cases h12 : (v == 12)
        · have h12' : ((v : Int) != 12) = true := by rw [bne_iff_ne]; rw [beq_eq_false_iff_ne] at h12; omega
          cases h13 : (v == 13)
          · have h13' : ((v : Int) != 13) = true := by rw [bne_iff_ne]; rw [beq_eq_false_iff_ne] at h13; omega
            have HQ2 := Lib.hid (show quietOf v = true from by rw [HQ.out, HK.out, h12, h13]; rfl)
            clear h12 h13
            by_cases hlt : leastOf v < l.length
            · have hlt' : decide ((leastOf v : Int) < (l.length : Int)) = true := by rw [decide_eq_true_eq]; omega
              have hne : l ≠ [] := by rintro rfl; simp at hlt
              obtain ⟨x, hx⟩ : ∃ x, l[l.length - 1]? = some x := ⟨_, List.getElem?_eq_getElem (by omega)⟩
              have hcx := HST.out.2.2.2.1 _ _ hx
              have hlast : l.getLast? = some x := by rw [List.getLast?_eq_getElem?, hx]
              have hiq : isQuiet v l = (x == noreply) := by simp [isQuiet, HQ2.out, hlt, hlast]
              have HIQ := Lib.hid hiq
              have HLT := Lib.hid hlt
              generalize hn : l.length = n at *
              have hwr : IntKind.i64.wrap ((n : Int) - 1) = (n : Int) - 1 := IntWalk.i64_in _ (by omega)
              have hix : ∀ W : World, (Instr.indexAt 35 (.slice (some ⟨g, o1, none⟩) n cap) (.int .i64 ((n : Int) - 1))).run Tryz.prog W = .ok (.pointer (some ⟨g, o1 + (n - 1), none⟩)) W := fun W => by
                have h := idx_str' (a := some ⟨g, o1, none⟩) (n := n) (c := cap) (k := n - 1) rfl (by omega) W
                rwa [show ((n - 1 : Nat) : Int) = (n : Int) - 1 from by omega] at h
              clear hx hlast hiq hn hlt
              go_wp2_with fail
              refine HG.out.mono ?_
              rintro e w' ⟨rfl, rfl⟩
              go_wp2_with fail
              go_meet
              case rel => exact ⟨rfl, _, rfl, HIQ.out.symm⟩
            · have hlt' : decide ((leastOf v : Int) < (l.length : Int)) = false := by rw [decide_eq_false_iff_not]; omega
              have HLT := Lib.hid hlt
              clear hlt
              go_wp2_with fail
              refine HG.out.mono ?_
              rintro e w' ⟨rfl, rfl⟩
              go_wp2_with fail
              go_meet
              case rel => exact ⟨rfl, false, rfl, by have := HLT.out; simp [isQuiet, HQ2.out]; omega⟩
          · have h13' : ((v : Int) != 13) = false := by rw [bne_eq_false_iff_eq]; rw [beq_iff_eq] at h13; omega
            have HQ2 := Lib.hid (show quietOf v = false from by rw [HQ.out, HK.out, h12, h13]; rfl)
            clear h12 h13
            go_wp2_with fail
            refine HG.out.mono ?_
            rintro e w' ⟨rfl, rfl⟩
            go_wp2_with fail
            go_meet
            case rel => exact ⟨rfl, false, rfl, by simp [isQuiet, HQ2.out]⟩
        · have h12' : ((v : Int) != 12) = false := by rw [bne_eq_false_iff_eq]; rw [beq_iff_eq] at h12; omega
          have HQ2 := Lib.hid (show quietOf v = false from by rw [HQ.out, HK.out, h12]; rfl)
          clear h12
          go_wp2_with fail
          refine HG.out.mono ?_
          rintro e w' ⟨rfl, rfl⟩
          go_wp2_with fail
          go_meet
          case rel => exact ⟨rfl, false, rfl, by simp [isQuiet, HQ2.out]⟩
      · rw [hk] at hget
        have HG := Lib.hid hget
        have HQ2 := Lib.hid (show quietOf v = false from by rw [quiet_is v HVN.out hv14, hk]; rfl)
        clear hget hk
        go_wp2_with fail
        refine HG.out.mono ?_
        rintro e w' ⟨rfl, rfl⟩
        go_wp2_with fail
        go_meet
        case rel => exact ⟨rfl, false, rfl, by simp [isQuiet, HQ2.out]⟩
    case rest =>
      obtain ⟨rfl, b, rfl, hbq⟩ := hcut
      have hbl : b = true → l ≠ [] := by rintro h rfl; rw [hbq] at h; simp [isQuiet] at h
      have hpb' := HPB.out
      have hpg' := HPG.out
      rw [← hbq] at hpb' hpg'
      clear HPB HPG
      have HPB := Lib.hid hpb'
      have HPG := Lib.hid hpg'
      clear hbq hpb' hpg'
      go_upto_if 67 with fail
      go_cut [4] (fun s4 wx => ∃ W5, W5 = wx ∧ s4 = .slice (some ⟨g, o1, none⟩) (lessOf b l).length cap ∧ RSt w W5 q g o1 v b (lessOf b l))
      case first =>
        cases b
        · go_wp2_with fail
          go_meet
          case rel => exact ⟨_, rfl, rfl, HST.out⟩
        · have hn := List.length_pos_iff.2 (hbl rfl)
          have hdl : (lessOf true l).length = l.length - 1 := List.length_dropLast
          have HDL := Lib.hid hdl
          have f10 := HST.out.1.free 10
          have c10 := HST.out.1.cell 10 rfl
          have hwr : IntKind.i64.wrap ((l.length : Int) - 1) = (l.length : Int) - 1 := IntWalk.i64_in _ (by omega)
          have h0 : (0 : Int) ≤ (l.length : Int) - 1 := by omega
          have h1 : (l.length : Int) - 1 ≤ (cap : Int) := by omega
          clear hdl
          go_wp2_with fail
          go_meet
          case rel =>
            refine ⟨_, rfl, by rw [HDL.out], ?_⟩
            obtain ⟨k1, k2, k3, k4, k5⟩ := HST.out
            have hg := grown_set W3 q 10 (.bool true)
            refine ⟨k1.set 10 (.bool true) (c' := cmdK v true []) rfl, (hg.block _ (lt_of_block k2) (by simp; omega)).trans k2, below_then k3 k3.size hg (by omega), fun j x hx => ?_, Nat.lt_of_lt_of_le k5 hg.size⟩
            have hj : j < l.length - 1 := by have := (List.getElem?_eq_some_iff.1 hx).1; rw [HDL.out] at this; exact this
            have hx' : l[j]? = some x := by
              have h2 : l.dropLast[j]? = some x := hx
              rw [List.getElem?_dropLast, if_pos hj] at h2
              exact h2
            exact grown_cell (k4 j x hx') hg (by simpa using hgq)
      case rest =>
        obtain ⟨W5, rfl, rfl, hst5⟩ := hcut
        have hl5c : (lessOf b l).length ≤ cap := by have := lessOf_len b l; omega
        have HLM := Lib.hid (fun x (hx : x ∈ lessOf b l) => lessOf_mem hx)
        have hl5l : (lessOf b l).length ≤ 3000 := by have := lessOf_len b l; omega
        generalize lessOf b l = l5 at *
        have hR5 := hst5.2.1
        have hB5 := hst5.2.2.1
        have HST5 := Lib.hid hst5
        clear hst5 HST hbl hc1
        by_cases hb1 : l5.length < leastOf v
        · have hd1 : decide ((l5.length : Int) < (leastOf v : Int)) = true := by rw [decide_eq_true_eq]; omega
          have hd1' : decide (l5.length < leastOf v) = true := by rw [decide_eq_true_eq]; omega
          have HP := Lib.hid (HPB.out (.inr (.inl hb1)))
          clear HPB HPG hb1
          go_wp2_with (first | ((with_reducible show wpList _ _ _ (⟨none, Op.store _ _ _, _, _, _, _⟩ :: _) _ _); refine wpList_store_whole (by rfl) 61 (.tmp 2) (.tmp 84) (by rfl) w.heap.size (by rfl) _ (by rfl) _ 61 hR5 (by rfl) (by kernel_rfl) (by simp [Value.oneCell']) ?_; intro w7 hr7 hg7 hs7) | ((with_reducible show bodyPost _ _ _ Exit.ret _ _); exact bodyPost_ret (v := .tuple #[zeroV, .int .i64 1]) (results_row_tmp rfl _ _ w.heap.size _ _ _ _ (by rfl) hr7 Tryz.underlying61 rfl (by kernel_rfl) _ (by rfl)) rfl (refOk_zero HP.out (below_then hB5 hB5.size hg7 (Nat.le_refl _)))))
        · have hd1 : decide ((l5.length : Int) < (leastOf v : Int)) = false := by rw [decide_eq_false_iff_not]; omega
          have hd1' : decide (l5.length < leastOf v) = false := by rw [decide_eq_false_iff_not]; omega
          by_cases hb2 : mostOf v < l5.length
          · have hd2 : decide ((mostOf v : Int) < (l5.length : Int)) = true := by rw [decide_eq_true_eq]; omega
            have hd2' : decide (mostOf v < l5.length) = true := by rw [decide_eq_true_eq]; omega
            have HP := Lib.hid (HPB.out (.inr (.inr hb2)))
            clear HPB HPG hb1 hb2
            go_wp2_with (first | ((with_reducible show wpList _ _ _ (⟨none, Op.store _ _ _, _, _, _, _⟩ :: _) _ _); refine wpList_store_whole (by rfl) 61 (.tmp 2) (.tmp 84) (by rfl) w.heap.size (by rfl) _ (by rfl) _ 61 hR5 (by rfl) (by kernel_rfl) (by simp [Value.oneCell']) ?_; intro w7 hr7 hg7 hs7) | ((with_reducible show bodyPost _ _ _ Exit.ret _ _); exact bodyPost_ret (v := .tuple #[zeroV, .int .i64 1]) (results_row_tmp rfl _ _ w.heap.size _ _ _ _ (by rfl) hr7 Tryz.underlying61 rfl (by kernel_rfl) _ (by rfl)) rfl (refOk_zero HP.out (below_then hB5 hB5.size hg7 (Nat.le_refl _)))))
          · have hd2 : decide ((mostOf v : Int) < (l5.length : Int)) = false := by rw [decide_eq_false_iff_not]; omega
            have hd2' : decide (mostOf v < l5.length) = false := by rw [decide_eq_false_iff_not]; omega
            have HPW := Lib.hid (HPG.out (by rintro (h | h | h); exact HVN.out h; exact hb1 h; exact hb2 h))
            have hle : leastOf v ≤ l5.length := by omega
            have hmr := most_rest hle (by omega : l5.length ≤ mostOf v)
            have HMR := Lib.hid hmr
            have HB5 := Lib.hid hB5
            have HR5 := Lib.hid hR5
            clear HPB HPG hb1 hb2 hmr hB5 hR5
            go_wp2_with fail
            refine (refGets_any v hv14 _).mono ?_
            rintro e w' ⟨rfl, rfl⟩
            go_upto_if 86 with fail
            go_cut [9] (fun s9 wx => W5 = wx ∧ ∃ m9 : Nat, s9 = .int .i64 (m9 : Int) ∧ m9 = if keysOf v then l5.length else 1)
            case first =>
              cases hk : keysOf v
              · go_wp2_with fail
                go_meet
                case rel => exact ⟨rfl, 1, rfl, by rw [hk]; rfl⟩
              · go_wp2_with fail
                go_meet
                case rel => exact ⟨rfl, _, rfl, by rw [hk]; rfl⟩
            case rest =>
              obtain ⟨rfl, m9, rfl, hm9⟩ := hcut
              have HM9 := Lib.hid hm9
              clear hm9
              go_wp2_with fail
              refine (refBare_any v hv14 _).mono ?_
              rintro e w' ⟨rfl, rfl⟩
              go_upto_if 90 with fail
              go_cut [9] (fun s9 wx => W5 = wx ∧ s9 = .int .i64 (manyOf v l5 : Int))
              case first =>
                have hbm := bare_many v HVN.out hv14 l5
                rw [← HM9.out] at hbm
                cases hk : bareOf v
                · rw [hk] at hbm
                  have HBM := Lib.hid hbm
                  clear hbm hk
                  go_wp2_with fail
                  go_meet
                  case rel => exact ⟨rfl, int_congr (by have := HBM.out; simp at this; omega)⟩
                · rw [hk] at hbm
                  have HBM := Lib.hid hbm
                  clear hbm hk
                  go_wp2_with fail
                  go_meet
                  case rel => exact ⟨rfl, int_congr (by have := HBM.out; simp at this; omega)⟩
              case rest =>
                obtain ⟨rfl, rfl⟩ := hcut
                have hMl := manyOf_le hle
                have hKL : ∀ x ∈ l5, x.length ≤ maxLen := fun x hx => by have := HX.out x (List.mem_cons_of_mem _ (HLM.out x hx)); unfold maxLen; omega
                have hbad : (l5.take (manyOf v l5)).any badKey = true → parseW v b l5 = (noCmd, 2) := fun h => parseW_bad h
                have hread := fun (h : (l5.take (manyOf v l5)).any badKey = false) => parseW_read (q := b) (l := l5) (v := v) h
                have hmr := HMR.out
                generalize manyOf v l5 = M at *
                have HBAD := Lib.hid hbad
                have HREAD := Lib.hid hread
                have HKL := Lib.hid hKL
                have HMR2 := Lib.hid hmr
                have hMI : (M : Int) ≤ 3000 := by omega
                have hq5 : q < W5.heap.size := HST5.out.1.lt
                clear hbad hread hKL hmr HMR
                go_wp2_with fail
                go_loopw [10] (fun i wr => ∃ k : Nat, k ≤ M ∧ i = .int .i64 k ∧ RKeys q v b l5 W5.heap.size W5 k wr) (fun i _ => M - (intOf i).toNat)
                case atStart => exact ⟨0, Nat.zero_le _, rfl, _, HST5.out.1, World.ownsRow_nil _ _ _ _, World.grownBy.refl _ _, rfl⟩
                case round =>
                  obtain ⟨k, hk, rfl, ks, hck, hown, hgk, hnb⟩ := hrel
                  by_cases hlk : k < M
                  · obtain ⟨x, hx⟩ : ∃ x, l5[k]? = some x := ⟨_, List.getElem?_eq_getElem (by omega)⟩
                    have hxc : wr.cell? ⟨g, o1 + k, none⟩ = some (sv x) := grown_cell (HST5.out.2.2.2.1 k x hx) hgk hgq
                    have hix : ∀ W : World, (Instr.indexAt 35 (.slice (some ⟨g, o1, none⟩) l5.length cap) (.int .i64 (k : Int))).run Tryz.prog W = .ok (.pointer (some ⟨g, o1 + k, none⟩)) W := fun W => idx_str' rfl (by omega) W
                    have hok := fun W => refOk_any x W (HKL.out x (List.mem_of_getElem? hx))
                    have HXX := Lib.hid hx
                    have HCK := Lib.hid hck
                    have HOWN := Lib.hid hown
                    have HGK := Lib.hid hgk
                    have hB1 := hgk.size
                    have hap := own_apart hown hq5
                    have hkl : (l5.take k).length ≤ 3000 := by rw [List.length_take]; omega
                    have c1 := hck.cell 1 rfl
                    have f1 := hck.free 1
                    clear hx hck hown hgk
                    cases hb : okB x
                    · rw [hb] at hok
                      have HOK := Lib.hid hok
                      have hR6 : wr.heap[w.heap.size]? = some (.cells zeroA 61 (0, 0)) := (HGK.out.block _ (lt_of_block HR5.out) (by simp; omega)).trans HR5.out
                      have hB6 : Below w.heap.size w wr := below_then HB5.out HB5.out.size HGK.out (by omega)
                      have HP := Lib.hid (HPW.out.trans (HBAD.out (by
                        rw [List.any_eq_true]
                        refine ⟨x, List.mem_of_getElem? (i := k) (by rw [List.getElem?_take, if_pos hlk]; exact HXX.out), by simp [badKey, hb]⟩)))
                      clear hok hb c1 f1 hnb
                      go_wp2_with (first | (go_at_call 89; refine (HOK.out _).mono ?_; rintro e w' ⟨rfl, rfl⟩) | ((with_reducible show wpList _ _ _ (⟨none, Op.store _ _ _, _, _, _, _⟩ :: _) _ _); refine wpList_store_whole (by rfl) 61 (.tmp 2) (.tmp 102) (by rfl) w.heap.size (by rfl) _ (by rfl) _ 61 hR6 (by rfl) (by kernel_rfl) (by simp [Value.oneCell']) ?_; intro w7 hr7 hg7 hs7) | ((with_reducible show bodyPost _ _ _ Exit.ret _ _); exact bodyPost_ret (v := .tuple #[zeroV, .int .i64 2]) (results_row_tmp rfl _ _ w.heap.size _ _ _ _ (by rfl) hr7 Tryz.underlying61 rfl (by kernel_rfl) _ (by rfl)) rfl (refOk_zero HP.out (below_then hB6 hB6.size hg7 (Nat.le_refl _)))))
                    · rw [hb] at hok
                      have HOK := Lib.hid hok
                      have HBK := Lib.hid (show badKey x = false from by simp [badKey, hb])
                      have k1 : ∀ ob : Obj, (wr.alloc ob).cell? ⟨q, 1, none⟩ = some ks := fun ob => (((Below.refl wr.heap.size wr).alloc (Nat.le_refl _) ob).cell (p := ⟨q, 1, none⟩) HCK.out.lt).trans c1
                      have k2 : ∀ ob : Obj, (wr.alloc ob).frozen? ⟨q, 1, none⟩ = false := fun ob => (((Below.refl wr.heap.size wr).alloc (Nat.le_refl _) ob).frozen (p := ⟨q, 1, none⟩) HCK.out.lt).trans f1
                      clear hok hb
                      go_wp2_with (go_at_call 89; refine (HOK.out _).mono ?_; rintro e w' ⟨rfl, rfl⟩)
                      go_region_law
                        (first
                          | (refine step_append_lies _ (by rfl) _ _ _ (by rfl) W5.heap.size 9 i0 _ 1 16 Tryz.underlying35 Hi.out Hz.out.1 Hz.out.2.1 Hz.out.2.2 rfl (by omega) ks _ _ (by rfl) ((own_drew HOWN.out).alloc _) ⟨wr.heap.size, 0, none⟩ 1 1 [sv x] (by rfl) (by rfl) (World.news_of_block (cs := #[sv x]) (t := 9) (fr := (0, 0)) (heap_alloc_new wr.drew _)) (by simp [Value.oneCell']) (by omega) (by unfold maxLen; omega) (by omega) (by simp; omega) (wr.heap.size + 1) (by simp) ?_; intro gg cp w3 hown3 hgrow hat hlt3; have k3 := (hgrow.cell_far ⟨q, 1, none⟩ (by have := HCK.out.lt; simp; omega) (Ne.symm hap)).trans (k1 _); have k4 := (hgrow.frozen_far ⟨q, 1, none⟩ (by have := HCK.out.lt; simp; omega) (Ne.symm hap)).trans (k2 _))
                          | fail)
                      all_goals go_wp2_with fail
                      all_goals refine ⟨⟨k + 1, by omega, rfl, ?_⟩, by simp only [intOf]; omega⟩
                      all_goals have hq := rkeys_step HXX.out HBK.out hq5 HCK.out HGK.out hnb HOWN.out hgrow (grown_drew (World.grownBy_alloc wr _ none)) hown3
                      all_goals rwa [show (l5.take k).length = min k l5.length from List.length_take] at hq
                  · obtain rfl : M = k := by omega
                    have hKl : (l5.take M).length = M := by rw [List.length_take]; omega
                    have hcK := hck
                    have hRD := HREAD.out hnb
                    have hO : OwnT wr W5.heap.size 9 ks ((l5.take M).map sv) := OwnT.of_row (by rw [List.length_map]; exact hown)
                    have hK0 : ∀ x, l5[0]? = some x → 0 < M → (l5.take M).headD [] = x := fun x hx hM => by
                      cases l5 with
                      | nil => simp at hx
                      | cons y l => simp at hx; subst hx; cases M with
                        | zero => omega
                        | succ M => rfl
                    have hcw : ∀ j x, l5[j]? = some x → wr.cell? ⟨g, o1 + j, none⟩ = some (sv x) := fun j x hx => grown_cell (HST5.out.2.2.2.1 j x hx) hgk hgq
                    have hD : (l5.drop M).length = l5.length - M := List.length_drop
                    have hDm := HMR2.out
                    generalize hKK : l5.take M = K at *
                    have HRD := Lib.hid hRD
                    have HO := Lib.hid hO
                    have HK0 := Lib.hid hK0
                    have HCW := Lib.hid hcw
                    have HCK := Lib.hid hcK
                    have HGK := Lib.hid hgk
                    have HB6 := Lib.hid (show Below w.heap.size w wr from below_then HB5.out HB5.out.size hgk (by omega))
                    have HR6 := Lib.hid (show wr.heap[w.heap.size]? = some (.cells zeroA 61 (0, 0)) from (hgk.block _ (lt_of_block HR5.out) (by simp; omega)).trans HR5.out)
                    have hqw : q < wr.heap.size := hcK.lt
                    have hB1 := hgk.size
                    clear hRD hO hK0 hcw hcK hck hown hgk hnb hKK HREAD HBAD HMR2
                    go_upto_if 113 with fail
                    go_cut [] (fun wx => ∃ W7, W7 = wx ∧ CAt W7 q ks (cmd0 v b K) ∧ wr.grownBy W7 (some q))
                    case first =>
                      have c2 := HCK.out.cell 3 rfl
                      have f2 := HCK.out.free 3
                      by_cases hM : 0 < M
                      · rw [show decide (0 < M) = true from by rw [decide_eq_true_eq]; exact hM]
                        obtain ⟨x, hx⟩ : ∃ x, l5[0]? = some x := ⟨_, List.getElem?_eq_getElem (by omega)⟩
                        have hxc : wr.cell? ⟨g, o1, none⟩ = some (sv x) := HCW.out 0 x hx
                        have hix : ∀ W : World, (Instr.indexAt 35 (.slice (some ⟨g, o1, none⟩) l5.length cap) (.int .i64 0)).run Tryz.prog W = .ok (.pointer (some ⟨g, o1, none⟩)) W := fun W => idx_str' (k := 0) rfl (by omega) W
                        have HKX := Lib.hid (HK0.out x hx hM)
                        clear hx
                        go_wp2_with fail
                        go_meet
                        case rel => exact ⟨_, rfl, HCK.out.set 3 _ (c' := cmd0 v b K) (by rw [cmd0, HKX.out]; rfl), grown_set _ _ _ _⟩
                      · rw [show decide (0 < M) = false from by rw [decide_eq_false_iff_not]; exact hM]
                        have hK : K = [] := List.eq_nil_of_length_eq_zero (by omega)
                        go_wp2_with fail
                        go_meet
                        case rel => exact ⟨_, rfl, by rw [hK] at HCK ⊢; exact HCK.out, World.grownBy.refl _ _⟩
                    case rest =>
                      obtain ⟨W7, rfl, hc7, hg7⟩ := hcut
                      obtain ⟨o2, hsl, ho2⟩ := strs_from g o1 l5.length cap M hMl hl5c hcm1
                      have hO7 := OwnT.grown HO.out hg7 (by omega : q < W5.heap.size)
                      have hcD : ∀ j x, (l5.drop M)[j]? = some x → W7.cell? ⟨g, o2 + j, none⟩ = some (sv x) := fun j x hx => by
                        rw [List.getElem?_drop] at hx
                        have hj := (List.getElem?_eq_some_iff.1 hx).1
                        rw [ho2 (by omega), show o1 + M + j = o1 + (M + j) from by omega]
                        exact grown_cell (HCW.out _ x hx) hg7 hgq
                      have hxD : ∀ x ∈ l5.drop M, x.length ≤ maxLen := fun x hx => HKL.out x (List.mem_of_mem_drop hx)
                      have HB7 := Lib.hid (show Below w.heap.size w W7 from below_then HB6.out HB6.out.size hg7 (by omega))
                      have HR7 := Lib.hid (show W7.heap[w.heap.size]? = some (.cells zeroA 61 (0, 0)) from (hg7.block _ (lt_of_block HR6.out) (by simp; omega)).trans HR6.out)
                      have hz7 := hg7.size
                      have HC7 := Lib.hid hc7
                      have HG7 := Lib.hid hg7
                      have HO7 := Lib.hid hO7
                      have HCD := Lib.hid hcD
                      have HXD := Lib.hid hxD
                      have HK7 := Lib.hid hKl
                      clear hc7 hg7 hO7 hcD hxD ho2 hKl HK0 HCW HO HCK HKL
                      generalize l5.drop M = D at *
                      rw [← hD] at hsl
                      go_wp2_with fail
                      refine (refRest_any v hv14 W7).mono ?_
                      rintro e w' ⟨rfl, rfl⟩
                      have hDl : D.length ≤ 3000 := by omega
                      have hLl : (letters v).length = (restOf v).length := by simp [letters]
                      go_wp2_with fail
                      go_loopw [12] (fun s12 wx => ∃ i : Nat, i ≤ D.length ∧ s12 = .int .i64 i ∧ RRead q v b K D ks W7 i wx) (fun s12 _ => D.length - (intOf s12).toNat)
                      case atStart => exact ⟨0, Nat.zero_le _, rfl, _, HC7.out, World.grownBy.refl _ _, rfl, rfl⟩
                      case round =>
                        obtain ⟨i, hi, rfl, c4, hc4, hg4, hk4, hr4⟩ := hrel
                        by_cases hlt : i < D.length
                        · obtain ⟨x, hx⟩ : ∃ x, D[i]? = some x := ⟨_, List.getElem?_eq_getElem hlt⟩
                          obtain ⟨f, hf⟩ : ∃ f, (restOf v)[i]? = some f := ⟨_, List.getElem?_eq_getElem (by omega)⟩
                          have hDd : D.drop i = x :: D.drop (i + 1) := by
                            obtain ⟨h1, h2⟩ := List.getElem?_eq_some_iff.1 hx
                            rw [List.drop_eq_getElem_cons h1, h2]
                          have hRd : (restOf v).drop i = f :: (restOf v).drop (i + 1) := by
                            obtain ⟨h1, h2⟩ := List.getElem?_eq_some_iff.1 hf
                            rw [List.drop_eq_getElem_cons h1, h2]
                          have hf5 : f < 5 := rest_lt (List.mem_of_getElem? hf)
                          have hidx : ∀ W : World, (Instr.index 9 (sv (letters v)) (.int .i64 (i : Int))).run Tryz.prog W = .ok (.int .u8 ((letter f).toNat : Int)) W := fun W => index_sv (by simp [letters, hf]) W
                          have hix : ∀ W : World, (Instr.indexAt 35 (.slice (some ⟨g, o2, none⟩) D.length (cap - M)) (.int .i64 (i : Int))).run Tryz.prog W = .ok (.pointer (some ⟨g, o2 + i, none⟩)) W := fun W => idx_str' rfl hlt W
                          have hxc : wr.cell? ⟨g, o2 + i, none⟩ = some (sv x) := grown_cell (HCD.out i x hx) hg4 hgq
                          have hcall := fun W (hC : CAt W q ks c4) => refRead_any hf5 q ks c4 x W (HXD.out x (List.mem_of_getElem? hx)) hC
                          have hrf : (readF c4 f x).2 = false → parseW v b l5 = (noCmd, if f = 4 then 4 else 2) := fun hb => by
                            have h1 := hr4
                            rw [hRd, hDd] at h1
                            have h2 : readAll c4 (f :: (restOf v).drop (i + 1)) (x :: D.drop (i + 1)) = ((readF c4 f x).1, if f = 4 then 4 else 2) := by simp [readAll, hb]
                            rw [HRD.out, h1, h2, if_pos (by split <;> simp)]
                          have hrt : (readF c4 f x).2 = true → readAll (cmd0 v b K) (restOf v) D = readAll (readF c4 f x).1 ((restOf v).drop (i + 1)) (D.drop (i + 1)) := fun hb => by
                            rw [hr4, hRd, hDd]
                            simp [readAll, hb]
                          have HRF := Lib.hid hrf
                          have HRT := Lib.hid hrt
                          have HC4 := Lib.hid hc4
                          have HG4 := Lib.hid hg4
                          have HK4 := Lib.hid hk4
                          clear hrf hrt hc4 hg4 hk4 hr4 hx hf hDd hRd
                          unfold toldF at hcall
                          cases hb : (readF c4 f x).2
                          · rw [hb] at hcall
                            simp only [Bool.false_eq_true, if_false] at hcall
                            have hpw := HPW.out.trans (HRF.out hb)
                            generalize hT : (if f = 4 then 4 else 2 : Nat) = T at *
                            have hT0 : ((T : Int) != 0) = true := by rw [bne_iff_ne]; split at hT <;> omega
                            have HCALL := Lib.hid hcall
                            have HP9 := Lib.hid hpw
                            clear hcall hb hT hpw HRF
                            go_wp2_with fail
                            go_region_law
                              (first
                                | (refine step_call (by rfl) 91 #[.pointer (some ⟨q, 0, none⟩), .int .u8 ((letter f).toNat : Int), sv x] (by go_simp) (HCALL.out _ HC4.out) ?_; rintro e w8 ⟨rfl, c5, hc5, hg5, hr5⟩; refine ⟨_, rfl, ?_⟩; have HC5 := Lib.hid hc5; have HG5 := Lib.hid hg5; have HR5' := Lib.hid hr5; clear hc5 hg5 hr5)
                                | fail)
                            all_goals have hR9 : w8.heap[w.heap.size]? = some (.cells zeroA 61 (0, 0)) := (HG5.out.block _ (by have := lt_of_block HR7.out; have := HG4.out.size; show _ < wr.heap.size; omega) (by simp; omega)).trans ((HG4.out.block _ (lt_of_block HR7.out) (by simp; omega)).trans HR7.out)
                            all_goals have hB9 : Below w.heap.size w w8 := below_then (below_then HB7.out HB7.out.size HG4.out (by omega)) (by have := HB7.out.size; have := HG4.out.size; omega) (undrew HG5.out) (by omega)
                            all_goals go_wp2_with (first | ((with_reducible show wpList _ _ _ (⟨none, Op.store _ _ _, _, _, _, _⟩ :: _) _ _); refine wpList_store_whole (by rfl) 61 (.tmp 2) (.tmp 140) (by rfl) w.heap.size (by rfl) _ (by rfl) _ 61 hR9 (by rfl) (by kernel_rfl) (by simp [Value.oneCell']) ?_; intro w9 hr9 hg9 hs9) | ((with_reducible show bodyPost _ _ _ Exit.ret _ _); exact bodyPost_ret (v := .tuple #[zeroV, .int .i64 (T : Int)]) (results_row_tmp rfl _ _ w.heap.size _ _ _ _ (by rfl) hr9 Tryz.underlying61 rfl (by kernel_rfl) _ (by rfl)) rfl (refOk_zero HP9.out (below_then hB9 hB9.size hg9 (Nat.le_refl _)))))
                          · rw [hb] at hcall
                            simp only [if_true] at hcall
                            have HCALL := Lib.hid hcall
                            have HB := Lib.hid hb
                            clear hcall hb
                            go_wp2_with fail
                            go_region_law
                              (first
                                | (refine step_call (by rfl) 91 #[.pointer (some ⟨q, 0, none⟩), .int .u8 ((letter f).toNat : Int), sv x] (by go_simp) (HCALL.out _ HC4.out) ?_; rintro e w8 ⟨rfl, c5, hc5, hg5, hr5⟩; refine ⟨_, rfl, ?_⟩; have HC5 := Lib.hid hc5; have HG5 := Lib.hid hg5; have HR5' := Lib.hid hr5; clear hc5 hg5 hr5)
                                | fail)
                            all_goals go_wp2_with fail
                            all_goals go_roundw
                            case rel => exact ⟨i + 1, by omega, by go_num, _, HC5.out, grown_trans (grown_drew HG4.out) HG5.out, by rw [HR5'.out rfl, readF_keys]; exact HK4.out, by rw [HR5'.out rfl]; exact HRT.out HB.out⟩
                            case measure => simp [intOf]; omega
                            case rel => exact ⟨i + 1, by omega, by go_num, _, HC5.out, grown_trans (grown_drew HG4.out) HG5.out, by rw [HR5'.out rfl, readF_keys]; exact HK4.out, by rw [HR5'.out rfl]; exact HRT.out HB.out⟩
                            case measure => simp [intOf]; omega
                        · have hi' : i = D.length := by omega
                          have hr5' : readAll (cmd0 v b K) (restOf v) D = (c4, 0) := by
                            rw [hr4, hi', List.drop_length]
                            cases (restOf v).drop D.length <;> rfl
                          have HC4 := Lib.hid hc4
                          have HG4 := Lib.hid hg4
                          have HK4 := Lib.hid hk4
                          clear hc4 hg4 hk4 hr4
                          by_cases hb : 1024 < c4.bytes
                          · have hR9 : wr.heap[w.heap.size]? = some (.cells zeroA 61 (0, 0)) := (HG4.out.block _ (lt_of_block HR7.out) (by simp; omega)).trans HR7.out
                            have hB9 : Below w.heap.size w wr := below_then HB7.out HB7.out.size HG4.out (by omega)
                            have hO9 := OwnT.grown HO7.out HG4.out (by omega : q < W5.heap.size)
                            obtain ⟨ka, kc, hka⟩ := hO9.1.len
                            have hk1 : ks.oneCell' = true := by rw [hka]; rfl
                            have hc9 := HC4.out.cell 9 rfl
                            have hload := HC4.out
                            unfold CAt at hload
                            have HKA := Lib.hid hka
                            have HO9 := Lib.hid hO9
                            clear hka hO9
                            have hpw : parseL (bs s) = (c4, 5) := by rw [HPW.out, HRD.out, hr5']; simp only [ne_eq, not_true_eq_false, if_false]; rw [if_pos hb]
                            have HP9 := Lib.hid hpw
                            clear hpw hr5'
                            go_wp2_with (first
                              | ((with_reducible show wpList _ _ _ (⟨_, Op.load 61 _, _, _, _, _⟩ :: _) _ _); refine wpList_load_row (by rfl) 61 (.tmp 8) (by rfl) q (by rfl) 61 _ _ _ hload Tryz.underlying61 rfl (by kernel_rfl) ?_)
                              | ((with_reducible show wpList _ _ _ (⟨none, Op.store _ _ _, _, _, _, _⟩ :: _) _ _); refine wpList_store_whole (by rfl) 61 (.tmp 2) (.tmp 145) (by rfl) w.heap.size (by rfl) (cmdCells ks c4).toArray (by rfl) _ 61 hR9 (by rfl) (by kernel_rfl) (by simp [Value.oneCell']; exact hk1) ?_; intro w9 hr9 hg9 hs9)
                              | ((with_reducible show bodyPost _ _ _ Exit.ret _ _); exact bodyPost_ret (v := .tuple #[cmdV ks c4, .int .i64 5]) (results_row_tmp rfl _ _ w.heap.size _ _ _ _ (by rfl) hr9 Tryz.underlying61 rfl (by kernel_rfl) _ (by rfl)) rfl ⟨ks, by rw [HP9.out]; rfl, by rw [HP9.out]; show OwnT _ _ _ _ (c4.keys.map sv); rw [HK4.out]; exact (OwnT.grown HO9.out hg9 (by omega)).mono (by omega), below_then hB9 hB9.size hg9 (Nat.le_refl _)⟩))
                          · have hR9 : wr.heap[w.heap.size]? = some (.cells zeroA 61 (0, 0)) := (HG4.out.block _ (lt_of_block HR7.out) (by simp; omega)).trans HR7.out
                            have hB9 : Below w.heap.size w wr := below_then HB7.out HB7.out.size HG4.out (by omega)
                            have hO9 := OwnT.grown HO7.out HG4.out (by omega : q < W5.heap.size)
                            obtain ⟨ka, kc, hka⟩ := hO9.1.len
                            have hk1 : ks.oneCell' = true := by rw [hka]; rfl
                            have hc9 := HC4.out.cell 9 rfl
                            have hload := HC4.out
                            unfold CAt at hload
                            have HKA := Lib.hid hka
                            have HO9 := Lib.hid hO9
                            clear hka hO9
                            have hpw : parseL (bs s) = (c4, 0) := by rw [HPW.out, HRD.out, hr5']; simp only [ne_eq, not_true_eq_false, if_false]; rw [if_neg hb]
                            have HP9 := Lib.hid hpw
                            clear hpw hr5'
                            go_wp2_with (first
                              | ((with_reducible show wpList _ _ _ (⟨_, Op.load 61 _, _, _, _, _⟩ :: _) _ _); refine wpList_load_row (by rfl) 61 (.tmp 8) (by rfl) q (by rfl) 61 _ _ _ hload Tryz.underlying61 rfl (by kernel_rfl) ?_)
                              | ((with_reducible show wpList _ _ _ (⟨none, Op.store _ _ _, _, _, _, _⟩ :: _) _ _); refine wpList_store_whole (by rfl) 61 (.tmp 2) (.tmp 146) (by rfl) w.heap.size (by rfl) (cmdCells ks c4).toArray (by rfl) _ 61 hR9 (by rfl) (by kernel_rfl) (by simp [Value.oneCell']; exact hk1) ?_; intro w9 hr9 hg9 hs9)
                              | ((with_reducible show bodyPost _ _ _ Exit.ret _ _); exact bodyPost_ret (v := .tuple #[cmdV ks c4, .int .i64 0]) (results_row_tmp rfl _ _ w.heap.size _ _ _ _ (by rfl) hr9 Tryz.underlying61 rfl (by kernel_rfl) _ (by rfl)) rfl ⟨ks, by rw [HP9.out]; rfl, by rw [HP9.out]; show OwnT _ _ _ _ (c4.keys.map sv); rw [HK4.out]; exact (OwnT.grown HO9.out hg9 (by omega)).mono (by omega), below_then hB9 hB9.size hg9 (Nat.le_refl _)⟩))
  · have hv0' : ((v : Int) == 0) = true := by rw [beq_iff_eq] at *; omega
    have HP := Lib.hid (HPB.out (.inl (by simpa using hv0)))
    clear HPB HPG hv0
    go_wp2_with (first | ((with_reducible show wpList _ _ _ (⟨none, Op.store _ _ _, _, _, _, _⟩ :: _) _ _); refine wpList_store_whole (by rfl) 61 (.tmp 2) (.tmp 30) (by rfl) w.heap.size (by rfl) _ (by rfl) _ 61 hR2 (by rfl) (by kernel_rfl) (by simp [Value.oneCell']) ?_; intro w3 hr3 hg3 hs3) | ((with_reducible show bodyPost _ _ _ Exit.ret _ _); exact bodyPost_ret (v := .tuple #[zeroV, .int .i64 1]) (results_row_tmp rfl _ _ w.heap.size _ _ _ _ (by rfl) hr3 Tryz.underlying61 rfl (by kernel_rfl) _ (by rfl)) rfl (refOk_zero HP.out (below_then hB2 hB2.size hg3 (Nat.le_refl _)))))

theorem refParseLine_any (s : ByteArray) (w : World) (hs : s.size ≤ 1048576) : Calls Tryz.prog 74 #[.string s] w (RefParseOk (bs s) w) := by
  by_cases h : 2048 < s.size
  · exact refParse_long s w h hs
  · cases hw : words (bs s) with
    | nil => exact refParse_none s w (by omega) hw
    | cons name l => exact refParse_some s name l w (by omega) hw
theorem refParseLine_at (l : List UInt8) (w : World) (hs : l.length ≤ 1048576) : Calls Tryz.prog 74 #[sv l] w (RefParseOk l w) := refParseLine_any ⟨l.toArray⟩ w (by rw [sv_size]; exact hs)
end Go.Proofs.YtddifbimlmkcbaaGreatDoor
