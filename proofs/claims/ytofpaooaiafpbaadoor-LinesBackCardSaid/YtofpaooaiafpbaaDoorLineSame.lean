/- Commands alike: slices.Equal of strings, lines.same, the laws' Same and Other, the reference's Same. No condition. -/
import Derived.Test.YtofpaooaiafpbaaDoorLineRefParse
import Derived.Deep.Light
namespace Go.Proofs.YtofpaooaiafpbaaDoor
open Go.RowKit Go.ChangeMaps Go.MapKept

theorem below_drewN {B : Nat} {w w' : World} (h : Below B w w') (n : Nat) : Below B w (w'.drewN n) := ⟨h.os, h.tape, h.output, h.size, h.block⟩
theorem equal_len (a1 a2 : Option Addr) (n1 n2 c1 c2 : Nat) (w : World) (h : n1 ≠ n2) :
    Calls Tryd.prog 33 #[.slice a1 n1 c1, .slice a2 n2 c2] w fun e w' => e = .returned (.bool false) ∧ w = w' := by
  have h1 : ((n1 : Int) != (n2 : Int)) = true := by rw [bne_iff_ne]; omega
  have h2 : (n1 != n2) = true := by rw [bne_iff_ne]; omega
  go_enter Tryd.func33, Tryd.ntmps33
  go_wp2
  go_ret
  exact ⟨rfl, rfl⟩
theorem equal_zero (a1 a2 : Option Addr) (c1 c2 : Nat) (w : World) :
    Calls Tryd.prog 33 #[.slice a1 0 c1, .slice a2 0 c2] w fun e w' => e = .returned (.bool true) ∧ w = w' := by
  go_enter Tryd.func33, Tryd.ntmps33
  go_wp2
  refine wp_loop_rounds 1 ?_; rw [rounds_succ]
  go_wp2
  go_ret
  exact ⟨rfl, rfl⟩
set_option maxHeartbeats 1000000 in
theorem equal_some (g1 o1 g2 o2 n c1 c2 : Nat) (L1 L2 : List (List UInt8)) (w : World) (hn1 : L1.length = n) (hn2 : L2.length = n) (hm : n ≤ maxLen) (hg1 : g1 < w.heap.size) (hg2 : g2 < w.heap.size)
    (hc1 : ∀ j x, L1[j]? = some x → w.cell? ⟨g1, o1 + j, none⟩ = some (sv x)) (hc2 : ∀ j x, L2[j]? = some x → w.cell? ⟨g2, o2 + j, none⟩ = some (sv x)) :
    Calls Tryd.prog 33 #[.slice (some ⟨g1, o1, none⟩) n c1, .slice (some ⟨g2, o2, none⟩) n c2] w fun e w' => e = .returned (.bool (L1 == L2)) ∧ Below w.heap.size w w' := by
  unfold maxLen at hm
  have HC1 := Lib.hid hc1
  have HC2 := Lib.hid hc2
  have HN1 := Lib.hid hn1
  have HN2 := Lib.hid hn2
  clear hc1 hc2 hn1 hn2
  go_enter Tryd.func33, Tryd.ntmps33
  go_wp2
  go_loopw [13] (fun i wr => ∃ k : Nat, k ≤ n ∧ i = .int .i64 k ∧ Below w.heap.size w wr ∧ Hid (L1.take k = L2.take k)) (fun i _ => n - (intOf i).toNat)
  case atStart => exact ⟨0, Nat.zero_le _, rfl, Below.refl _ _, by simp [Hid]⟩
  case round =>
    obtain ⟨k, hk, rfl, hb, ht⟩ := hrel
    by_cases hlt : k < n
    · obtain ⟨x1, e1⟩ : ∃ x, L1[k]? = some x := ⟨_, List.getElem?_eq_getElem (by rw [HN1.out]; exact hlt)⟩
      obtain ⟨x2, e2⟩ : ∃ x, L2[k]? = some x := ⟨_, List.getElem?_eq_getElem (by rw [HN2.out]; exact hlt)⟩
      have d1 : wr.cell? ⟨g1, o1 + k, none⟩ = some (sv x1) := (hb.cell (p := ⟨g1, o1 + k, none⟩) hg1).trans (HC1.out k x1 e1)
      have d2 : wr.cell? ⟨g2, o2 + k, none⟩ = some (sv x2) := (hb.cell (p := ⟨g2, o2 + k, none⟩) hg2).trans (HC2.out k x2 e2)
      have E1 := Lib.hid e1
      have E2 := Lib.hid e2
      clear e1 e2
      have hl0 : (0 : Int) ≤ (k : Int) := by omega
      have hl1 : (k : Int) < (n : Int) := by omega
      go_wp2
      go_quiet (fail)
      go_wp2
      · go_ret
        refine ⟨?_, below_drewN hb _⟩
        rw [same_no E1.out E2.out (by simpa using ‹(!x1 == x2) = true›)]
        rfl
      · go_roundw
        case rel => exact ⟨k + 1, by omega, by go_num, below_drewN hb _, same_next ht.out E1.out E2.out (by simpa using ‹(!x1 == x2) = false›)⟩
        case measure => simp [intOf]; omega
    · go_wp2
      go_ret
      exact ⟨by rw [same_yes HN1.out HN2.out (by omega) ht.out]; rfl, hb⟩
theorem equal_any {w : World} {B1 B2 : Nat} {v1 v2 : Value} {L1 L2 : List (List UInt8)} (h1 : Strs w B1 v1 L1) (h2 : Strs w B2 v2 L2) :
    Calls Tryd.prog 33 #[v1, v2] w fun e w' => e = .returned (.bool (L1 == L2)) ∧ Below w.heap.size w w' := by
  by_cases hl : L1.length = L2.length
  · by_cases h0 : L1.length = 0
    · have e1 : L1 = [] := List.eq_nil_of_length_eq_zero h0
      have e2 : L2 = [] := List.eq_nil_of_length_eq_zero (by omega)
      subst e1; subst e2
      obtain ⟨a1, c1, rfl⟩ := h1.len
      obtain ⟨a2, c2, rfl⟩ := h2.len
      exact (equal_zero a1 a2 c1 c2 w).mono fun e w' ⟨he, hw⟩ => ⟨he, hw ▸ Below.refl _ _⟩
    · have hm := h1.max
      rw [List.length_map] at hm
      obtain ⟨g1, o1, c1, rfl, _, hg1, hle1, hm1, hc1⟩ := Own.some h1 (by intro h; exact h0 (by rw [List.map_eq_nil_iff.1 h]; rfl))
      obtain ⟨g2, o2, c2, rfl, _, hg2, hle2, hm2, hc2⟩ := Own.some h2 (by intro h; exact h0 (by rw [hl, List.map_eq_nil_iff.1 h]; rfl))
      rw [List.length_map, List.length_map]
      have := equal_some g1 o1 g2 o2 L1.length c1 c2 L1 L2 w rfl hl.symm (by omega) hg1 hg2 (fun j x hx => (hc1 j (sv x) (by simp [hx])).1) (fun j x hx => (hc2 j (sv x) (by simp [hx])).1)
      rw [← hl]
      exact this
  · obtain ⟨a1, c1, rfl⟩ := h1.len
    obtain ⟨a2, c2, rfl⟩ := h2.len
    rw [List.length_map, List.length_map]
    refine (equal_len a1 a2 _ _ c1 c2 w hl).mono fun e w' ⟨he, hw⟩ => ⟨?_, hw ▸ Below.refl _ _⟩
    rw [he, beq_eq_false_iff_ne.2 (fun h => hl (by rw [h]))]


/-- Commands alike. -/
def sameC (a b : Cmd) : Bool := a.verb == b.verb && (a.keys == b.keys && ((a.cverb == b.cverb && a.key == b.key && a.value == b.value && a.flags == b.flags && a.exp == b.exp && a.id == b.id && a.by' == b.by') && (a.bytes == b.bytes && a.quiet == b.quiet)))
theorem sameC_iff (a b : Cmd) : sameC a b = true ↔ a = b := by
  cases a; cases b; simp [sameC, Cmd.mk.injEq]; grind

theorem strs_below {w w' : World} {B : Nat} {v : Value} {L : List (List UInt8)} (h : Strs w B v L) (hb : Below w.heap.size w w') : Strs w' B v L := Own.below h hb (Nat.le_refl _)
set_option maxRecDepth 100000 in
set_option maxHeartbeats 3200000 in
theorem lsame_any {w : World} {B1 B2 : Nat} {k1 k2 : Value} {a b : Cmd} (h1 : Strs w B1 k1 a.keys) (h2 : Strs w B2 k2 b.keys) :
    Calls Tryd.prog 17 #[cmdV k1 a, cmdV k2 b] w fun e w' => e = .returned (.bool (sameC a b)) ∧ Below w.heap.size w w' := by
  obtain ⟨a1, c1, rfl⟩ := h1.len
  obtain ⟨a2, c2, rfl⟩ := h2.len
  cases hv : (a.verb == b.verb)
  · have hv' : ((a.verb : Int) == (b.verb : Int)) = false := by rw [beq_eq_false_iff_ne] at *; omega
    have hs : sameC a b = false := by simp [sameC, hv]
    rw [hs]
    clear h1 h2 hs
    go_enter Tryd.func17, Tryd.ntmps17
    go_wp2_with fail
    go_ret
    exact ⟨rfl, ((Below.refl _ _).alloc (Nat.le_refl _) _).alloc (by simp) _⟩
  · have hv' : ((a.verb : Int) == (b.verb : Int)) = true := by rw [beq_iff_eq] at *; omega
    have H1 := Lib.hid h1
    have H2 := Lib.hid h2
    have HV := Lib.hid hv
    clear h1 h2 hv
    rw [List.length_map, List.length_map] at *
    go_enter Tryd.func17, Tryd.ntmps17
    go_wp2_with fail
    refine (equal_any (B1 := B1) (B2 := B2) (L1 := a.keys) (L2 := b.keys) (strs_below H1.out (((Below.refl _ _).alloc (Nat.le_refl _) _).alloc (by simp) _)) (strs_below H2.out (((Below.refl _ _).alloc (Nat.le_refl _) _).alloc (by simp) _))).mono ?_
    rintro e w' ⟨rfl, hb⟩
    have HB := Lib.hid (show Below w.heap.size w w' from (((Below.refl _ _).alloc (Nat.le_refl _) _).alloc (by simp) _).trans (hb.mono (by simp; omega)))
    obtain ⟨r1, r2⟩ := bcell hb
    cases hk : (a.keys == b.keys)
    · have hs : sameC a b = false := by simp [sameC, hk]
      have HS := Lib.hid hs
      clear hb hs hk
      go_wp2_with fail
      go_ret
      exact ⟨by rw [HS.out]; rfl, HB.out⟩
    · have HK := Lib.hid hk
      clear hb hk
      go_wp2_with fail
      all_goals go_ret
      all_goals refine ⟨?_, HB.out⟩
      all_goals have hv := HV.out
      all_goals have hk := HK.out
      all_goals go_light
      all_goals refine ret_congr (congrArg Value.bool ?_)
      all_goals clear r1 r2 HB HV HK H1 H2
      all_goals (try simp only [Int.natCast_inj] at *)
      all_goals simp_all [sameC]

/-- All but the keys. -/
def restC (a b : Cmd) : Bool := a.verb == b.verb && ((a.cverb == b.cverb && a.key == b.key && a.value == b.value && a.flags == b.flags && a.exp == b.exp && a.id == b.id && a.by' == b.by') && (a.bytes == b.bytes && a.quiet == b.quiet))
theorem sameC_rest (a b : Cmd) : sameC a b = (restC a b && (a.keys == b.keys)) := by
  unfold sameC restC
  cases (a.verb == b.verb) <;> cases (a.keys == b.keys) <;> simp
theorem rest_eq {a b : Cmd} (h : restC a b = true) : a = { b with keys := a.keys } := by
  cases a; cases b; simp [restC] at h ⊢; grind

end Go.Proofs.YtofpaooaiafpbaaDoor
