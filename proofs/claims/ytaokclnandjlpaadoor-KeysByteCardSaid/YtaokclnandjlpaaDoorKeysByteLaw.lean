/- The law KeysByte returns true at every key, place and byte. Condition: MaxLen holds a number. -/
import Derived.Test.YtaokclnandjlpaaDoorKeysByte
import Derived.Deep.RegionWith
namespace Go.Proofs.YtaokclnandjlpaaDoor
open Go.RowKit

theorem keyByte_good (c : UInt8) : badB (keyByte c) = false := by
  have h : ∀ n : Fin 256, badB (keyByte (UInt8.ofNat n.val)) = false := by decide +kernel
  have := h ⟨c.toNat, c.toNat_lt⟩
  simpa using this
theorem good_keys (l : List UInt8) (k : Nat) : Good badB (l.map keyByte) k := by
  intro j _ x hx
  rw [List.getElem?_map] at hx
  cases h : l[j]? with
  | none => simp [h] at hx
  | some c => simp [h] at hx; subst hx; exact keyByte_good c
theorem look_keys {l : List UInt8} (h0 : l ≠ []) (h : l.length ≤ 250) : look (l.map keyByte) = (0, 0) :=
  look_none (by simpa using h0) (by simp; omega) (good_keys _ _)
/-- With a byte that may not be at place i. -/
theorem look_spoilt {l : List UInt8} {i : Nat} {x : UInt8} (hi : i < l.length) (h : l.length ≤ 250) (hx : badB x = true) :
    look ((l.map keyByte).take i ++ [x] ++ (l.map keyByte).drop (i + 1)) = (3, i) := by
  have hlen : ((l.map keyByte).take i).length = i := by simp; omega
  have hl : ((l.map keyByte).take i ++ [x] ++ (l.map keyByte).drop (i + 1)).length = l.length := by simp; omega
  refine look_hit (by rw [hl]; omega) (c := x) (by rw [List.append_assoc, List.getElem?_append_right (by omega), hlen]; simp) hx ?_
  intro j hj y hy
  rw [List.append_assoc, List.getElem?_append_left (by omega), List.getElem?_take, if_pos hj] at hy
  exact good_keys l (j + 1) j (by omega) y hy
theorem look_spoilt_long {l : List UInt8} {i : Nat} {x : UInt8} (hi : i < l.length) (h : 250 < l.length) :
    look ((l.map keyByte).take i ++ [x] ++ (l.map keyByte).drop (i + 1)) = (2, 0) :=
  look_long (by simp; omega)

theorem look_str (s : ByteArray) (f p : Nat) (w : World) (h : look (bs s) = (f, p)) (hs : s.size ≤ maxLen) :
    Calls Tryd.prog 36 #[.string s] w fun e w' => e = .returned (.tuple #[.int .u8 f, .int .i64 p]) ∧ w = w' := by
  have := look_any s w hs
  rw [h] at this
  exact this
theorem three_size (a b c : List UInt8) (h : a.length + b.length + c.length ≤ 100000) : ((⟨a.toArray⟩ : ByteArray) ++ ⟨b.toArray⟩ ++ ⟨c.toArray⟩).size ≤ maxLen := by
  rw [← bs_length, bs_append, bs_append]
  simp [maxLen]; omega

set_option maxRecDepth 100000 in
set_option maxHeartbeats 2000000 in
theorem keysByte_walk (v : Value) (l : List UInt8) (a c : Int) (w : World) (hv : Own w 0 v (l.map u8v)) (ha0 : 0 ≤ a) (ha1 : a ≤ 65535) (hc0 : 0 ≤ c) (hc1 : c ≤ 255) (hL : HasLen w) :
    Calls Tryd.prog 6 #[v, .int .u16 a, .int .u8 c] w fun e w' => e = .returned (.bool true) ∧ Below w.heap.size w w' := by
  have hm := hv.max
  rw [List.length_map] at hm
  unfold maxLen at hm
  obtain ⟨p, q, he⟩ := hv.len
  rw [List.length_map] at he
  have HV := Lib.hid hv
  have HE := Lib.hid he
  have HL := Lib.hid hL
  clear hv he hL
  by_cases h600 : 600 < l.length
  · rw [HE.out]
    go_enter Tryd.func6, Tryd.ntmps6
    go_wp2_with fail
    refine (lives03 _ HL.out).mono ?_
    rintro e w1 ⟨rfl, hb⟩
    go_wp2_with fail
    go_ret
    exact ⟨rfl, hb⟩
  · have hkey := key_any v l w HV.out (by omega)
    rw [HE.out] at hkey ⊢
    have HK := Lib.hid hkey
    clear hkey
    by_cases h0 : l = []
    · subst h0
      go_enter Tryd.func6, Tryd.ntmps6
      go_wp2_with fail
      refine HK.out.mono ?_
      rintro e w1 ⟨rfl, hb1⟩
      have HL1 := Lib.hid (HL.out.below hb1)
      have hs1 := hb1.size
      go_wp2_with fail
      refine (look_at [] 1 0 _ (by decide) (by decide)).mono ?_
      rintro e w1 ⟨rfl, rfl⟩
      go_wp2_with fail
      refine (ok_at [] false _ (by decide) (by decide)).mono ?_
      rintro e w1 ⟨rfl, rfl⟩
      go_wp2_with fail
      refine (lives03 _ HL1.out).mono ?_
      rintro e w3 ⟨rfl, hb3⟩
      go_wp2_with fail
      go_ret
      exact ⟨rfl, hb1.trans (hb3.mono hs1)⟩
    · have h0' : 1 ≤ l.length := by have := List.length_pos_iff.2 h0; omega
      by_cases h250 : l.length ≤ 250
      · have hlk := look_keys h0 h250
        have hsp := fun i x (hi : i < l.length) (hx : badB x = true) => look_spoilt hi h250 hx
        have h6 : l.length ≤ 600 := by omega
        have hml : (l.map keyByte).length = l.length := by simp
        rw [← hml] at h0' h250 hsp hm h600
        generalize l.map keyByte = m at *
        have hm6 : m.length ≤ 600 := by omega
        clear hml
        have HLK := Lib.hid hlk
        have HSP := Lib.hid hsp
        clear hlk hsp h0
        have hz : ((m.length : Int) == 0) = false := by rw [beq_eq_false_iff_ne]; omega
        have hz' : (m.length == 0) = false := by rw [beq_eq_false_iff_ne]; omega
        have hi0 : 0 ≤ a % (m.length : Int) := Int.emod_nonneg _ (by omega)
        have hi1 : a % (m.length : Int) < (m.length : Int) := Int.emod_lt_of_pos _ (by omega)
        obtain ⟨i, hi⟩ : ∃ i : Nat, a % (m.length : Int) = (i : Int) := ⟨(a % (m.length : Int)).toNat, by omega⟩
        rw [hi] at hi0 hi1
        have hx0 : 0 ≤ c % 34 := by omega
        have hx1 : c % 34 ≤ 33 := by omega
        clear h600
        by_cases h33 : c % 34 = 33
        · have hb33 : ((c % 34) == 33) = true := by rw [h33]; rfl
          have HI := Lib.hid hi
          clear hi
          go_enter Tryd.func6, Tryd.ntmps6
          go_wp2_with fail
          refine HK.out.mono ?_
          rintro e w1 ⟨rfl, hb1⟩
          go_wp2_with fail
          refine (look_at m 0 0 _ HLK.out (by unfold maxLen; omega)).mono ?_
          rintro e w1 ⟨rfl, rfl⟩
          go_wp2_with fail
          refine (ok_at m true _ (by unfold okB; rw [HLK.out]; rfl) (by unfold maxLen; omega)).mono ?_
          rintro e w1 ⟨rfl, rfl⟩
          go_wp2_with fail
          rw [HI.out]
          have hs1 := fun W => slice_to m i (by omega) W
          have hs2 := fun W => slice_from m ((i : Int) + 1) (by omega) (by omega) W
          have hcv := convert_new [127] 1 w1.heap.size (w1.alloc (.cells #[.int .u8 127] 5)).drew (fun j x hx => by
            match j, hx with
            | 0, hx => cases hx; simp
            | j + 1, hx => simp at hx)
          simp only [List.length_cons, List.length_nil, Nat.zero_add] at hcv
          have hw1 : IntKind.i64.wrap ((i : Int) + 1) = (i : Int) + 1 := IntWalk.i64_in _ ⟨by omega, by omega⟩
          have hn1 : ¬ 9223372036854775807 < min i m.length + 1 := by omega
          have hn2 : ¬ 9223372036854775807 < min i m.length + 1 + (m.length - (i + 1)) := by omega
          rw [show ((i : Int) + 1).toNat = i + 1 from by omega] at hs2
          go_region_with (first | (go_at_call 36; refine (look_str _ 3 i _ (by rw [bs_append, bs_append]; exact HSP.out i 127 (by omega) (by decide)) (three_size _ _ _ (by simp; omega))).mono ?_; rintro e w2 ⟨rfl, rfl⟩))
          have hbn := (hb1.alloc hb1.size (.cells #[.int .u8 127] 5)).drew
          have HLn := Lib.hid (HL.out.below hbn)
          have hsn := hbn.size
          clear hs1 hs2 hcv hn1 hn2
          go_wp2_with fail
          refine (lives03 _ HLn.out).mono ?_
          rintro e w3 ⟨rfl, hb3⟩
          go_wp2_with fail
          go_ret
          exact ⟨rfl, hbn.trans (hb3.mono hsn)⟩
        · have hb33 : ((c % 34) == 33) = false := by rw [beq_eq_false_iff_ne]; exact h33
          obtain ⟨X, hX⟩ : ∃ X : UInt8, c % 34 = (X.toNat : Int) := ⟨UInt8.ofNat (c % 34).toNat, by rw [UInt8.toNat_ofNat']; omega⟩
          have hXb : badB X = true := by unfold badB; simp; omega
          have HXB := Lib.hid hXb
          have HX := Lib.hid hX
          clear hX hXb
          have HI := Lib.hid hi
          clear hi
          go_enter Tryd.func6, Tryd.ntmps6
          go_wp2_with fail
          refine HK.out.mono ?_
          rintro e w1 ⟨rfl, hb1⟩
          go_wp2_with fail
          refine (look_at m 0 0 _ HLK.out (by unfold maxLen; omega)).mono ?_
          rintro e w1 ⟨rfl, rfl⟩
          go_wp2_with fail
          refine (ok_at m true _ (by unfold okB; rw [HLK.out]; rfl) (by unfold maxLen; omega)).mono ?_
          rintro e w1 ⟨rfl, rfl⟩
          go_wp2_with fail
          rw [HI.out]
          rw [HX.out]
          have hs1 := fun W => slice_to m i (by omega) W
          have hs2 := fun W => slice_from m ((i : Int) + 1) (by omega) (by omega) W
          have hcv := convert_new [X] 1 w1.heap.size (w1.alloc (.cells #[.int .u8 (X.toNat : Int)] 5)).drew (fun j x hx => by
            match j, hx with
            | 0, hx => cases hx; simp
            | j + 1, hx => simp at hx)
          simp only [List.length_cons, List.length_nil, Nat.zero_add] at hcv
          have hw1 : IntKind.i64.wrap ((i : Int) + 1) = (i : Int) + 1 := IntWalk.i64_in _ ⟨by omega, by omega⟩
          have hn1 : ¬ 9223372036854775807 < min i m.length + 1 := by omega
          have hn2 : ¬ 9223372036854775807 < min i m.length + 1 + (m.length - (i + 1)) := by omega
          rw [show ((i : Int) + 1).toNat = i + 1 from by omega] at hs2
          go_region_with (first | (go_at_call 36; refine (look_str _ 3 i _ (by rw [bs_append, bs_append]; exact HSP.out i X (by omega) HXB.out) (three_size _ _ _ (by simp; omega))).mono ?_; rintro e w2 ⟨rfl, rfl⟩))
          have hbn := (hb1.alloc hb1.size (.cells #[.int .u8 (X.toNat : Int)] 5)).drew
          have HLn := Lib.hid (HL.out.below hbn)
          have hsn := hbn.size
          clear hs1 hs2 hcv hn1 hn2
          go_wp2_with fail
          refine (lives03 _ HLn.out).mono ?_
          rintro e w3 ⟨rfl, hb3⟩
          go_wp2_with fail
          go_ret
          exact ⟨rfl, hbn.trans (hb3.mono hsn)⟩
      · have hlk : look (l.map keyByte) = (2, 0) := look_long (by simp; omega)
        have hsp := fun i x (hi : i < l.length) (_hx : badB x = true) => look_spoilt_long (x := x) hi (by omega : 250 < l.length)
        have h6 : l.length ≤ 600 := by omega
        have hml : (l.map keyByte).length = l.length := by simp
        rw [← hml] at h0' h250 hsp hm h600
        generalize l.map keyByte = m at *
        have hm6 : m.length ≤ 600 := by omega
        clear hml
        have HLK := Lib.hid hlk
        have HSP := Lib.hid hsp
        clear hlk hsp h0
        have hz : ((m.length : Int) == 0) = false := by rw [beq_eq_false_iff_ne]; omega
        have hz' : (m.length == 0) = false := by rw [beq_eq_false_iff_ne]; omega
        have hi0 : 0 ≤ a % (m.length : Int) := Int.emod_nonneg _ (by omega)
        have hi1 : a % (m.length : Int) < (m.length : Int) := Int.emod_lt_of_pos _ (by omega)
        obtain ⟨i, hi⟩ : ∃ i : Nat, a % (m.length : Int) = (i : Int) := ⟨(a % (m.length : Int)).toNat, by omega⟩
        rw [hi] at hi0 hi1
        have hx0 : 0 ≤ c % 34 := by omega
        have hx1 : c % 34 ≤ 33 := by omega
        clear h600
        by_cases h33 : c % 34 = 33
        · have hb33 : ((c % 34) == 33) = true := by rw [h33]; rfl
          have HI := Lib.hid hi
          clear hi
          go_enter Tryd.func6, Tryd.ntmps6
          go_wp2_with fail
          refine HK.out.mono ?_
          rintro e w1 ⟨rfl, hb1⟩
          go_wp2_with fail
          refine (look_at m 2 0 _ HLK.out (by unfold maxLen; omega)).mono ?_
          rintro e w1 ⟨rfl, rfl⟩
          go_wp2_with fail
          refine (ok_at m false _ (by unfold okB; rw [HLK.out]; rfl) (by unfold maxLen; omega)).mono ?_
          rintro e w1 ⟨rfl, rfl⟩
          go_wp2_with fail
          rw [HI.out]
          have hs1 := fun W => slice_to m i (by omega) W
          have hs2 := fun W => slice_from m ((i : Int) + 1) (by omega) (by omega) W
          have hcv := convert_new [127] 1 w1.heap.size (w1.alloc (.cells #[.int .u8 127] 5)).drew (fun j x hx => by
            match j, hx with
            | 0, hx => cases hx; simp
            | j + 1, hx => simp at hx)
          simp only [List.length_cons, List.length_nil, Nat.zero_add] at hcv
          have hw1 : IntKind.i64.wrap ((i : Int) + 1) = (i : Int) + 1 := IntWalk.i64_in _ ⟨by omega, by omega⟩
          have hn1 : ¬ 9223372036854775807 < min i m.length + 1 := by omega
          have hn2 : ¬ 9223372036854775807 < min i m.length + 1 + (m.length - (i + 1)) := by omega
          rw [show ((i : Int) + 1).toNat = i + 1 from by omega] at hs2
          go_region_with (first | (go_at_call 36; refine (look_str _ 2 0 _ (by rw [bs_append, bs_append]; exact HSP.out i 127 (by omega) (by decide)) (three_size _ _ _ (by simp; omega))).mono ?_; rintro e w2 ⟨rfl, rfl⟩))
          have hbn := (hb1.alloc hb1.size (.cells #[.int .u8 127] 5)).drew
          have HLn := Lib.hid (HL.out.below hbn)
          have hsn := hbn.size
          clear hs1 hs2 hcv hn1 hn2
          go_wp2_with fail
          refine (lives03 _ HLn.out).mono ?_
          rintro e w3 ⟨rfl, hb3⟩
          go_wp2_with fail
          go_ret
          exact ⟨rfl, hbn.trans (hb3.mono hsn)⟩
        · have hb33 : ((c % 34) == 33) = false := by rw [beq_eq_false_iff_ne]; exact h33
          obtain ⟨X, hX⟩ : ∃ X : UInt8, c % 34 = (X.toNat : Int) := ⟨UInt8.ofNat (c % 34).toNat, by rw [UInt8.toNat_ofNat']; omega⟩
          have hXb : badB X = true := by unfold badB; simp; omega
          have HXB := Lib.hid hXb
          have HX := Lib.hid hX
          clear hX hXb
          have HI := Lib.hid hi
          clear hi
          go_enter Tryd.func6, Tryd.ntmps6
          go_wp2_with fail
          refine HK.out.mono ?_
          rintro e w1 ⟨rfl, hb1⟩
          go_wp2_with fail
          refine (look_at m 2 0 _ HLK.out (by unfold maxLen; omega)).mono ?_
          rintro e w1 ⟨rfl, rfl⟩
          go_wp2_with fail
          refine (ok_at m false _ (by unfold okB; rw [HLK.out]; rfl) (by unfold maxLen; omega)).mono ?_
          rintro e w1 ⟨rfl, rfl⟩
          go_wp2_with fail
          rw [HI.out]
          rw [HX.out]
          have hs1 := fun W => slice_to m i (by omega) W
          have hs2 := fun W => slice_from m ((i : Int) + 1) (by omega) (by omega) W
          have hcv := convert_new [X] 1 w1.heap.size (w1.alloc (.cells #[.int .u8 (X.toNat : Int)] 5)).drew (fun j x hx => by
            match j, hx with
            | 0, hx => cases hx; simp
            | j + 1, hx => simp at hx)
          simp only [List.length_cons, List.length_nil, Nat.zero_add] at hcv
          have hw1 : IntKind.i64.wrap ((i : Int) + 1) = (i : Int) + 1 := IntWalk.i64_in _ ⟨by omega, by omega⟩
          have hn1 : ¬ 9223372036854775807 < min i m.length + 1 := by omega
          have hn2 : ¬ 9223372036854775807 < min i m.length + 1 + (m.length - (i + 1)) := by omega
          rw [show ((i : Int) + 1).toNat = i + 1 from by omega] at hs2
          go_region_with (first | (go_at_call 36; refine (look_str _ 2 0 _ (by rw [bs_append, bs_append]; exact HSP.out i X (by omega) HXB.out) (three_size _ _ _ (by simp; omega))).mono ?_; rintro e w2 ⟨rfl, rfl⟩))
          have hbn := (hb1.alloc hb1.size (.cells #[.int .u8 (X.toNat : Int)] 5)).drew
          have HLn := Lib.hid (HL.out.below hbn)
          have hsn := hbn.size
          clear hs1 hs2 hcv hn1 hn2
          go_wp2_with fail
          refine (lives03 _ HLn.out).mono ?_
          rintro e w3 ⟨rfl, hb3⟩
          go_wp2_with fail
          go_ret
          exact ⟨rfl, hbn.trans (hb3.mono hsn)⟩
end Go.Proofs.YtaokclnandjlpaaDoor
