/- A run of calls on a map. Condition: the library's tables lie as they are laid. -/
import Derived.Test.YtaooangnnlopcaaDoorMapsStep
namespace Go.Proofs.YtaooangnnlopcaaDoor
open Go.RowKit Go.ChangeMaps Go.MapKept
def ticksN : Nat → Nat → Nat
  | 0, ep => ep
  | k + 1, ep => tickE (ticksN k ep)
def stepM (s : MapM × Nat) (x : StepD) : MapM × Nat :=
  ((doesM s.1 x.call (ticksN (x.ticks % 5) s.2)).2, if (doesM s.1 x.call (ticksN (x.ticks % 5) s.2)).1.kind = 10 then (doesM s.1 x.call (ticksN (x.ticks % 5) s.2)).2.epoch else ticksN (x.ticks % 5) s.2)
def runL (s : MapM × Nat) (L : List StepD) : MapM × Nat := L.foldl stepM s
theorem tickE_lt (ep : Nat) : tickE ep < 18446744073709551616 := by
  unfold tickE
  split <;> exact put_lt _ _ _
theorem flushE_lt {ep : Nat} (h : ep < 18446744073709551616) (d : Int) : (flushE ep d).1 < 18446744073709551616 := by
  unfold flushE
  split
  · exact h
  · split <;> exact put_lt _ _ _
theorem ticksN_lt {ep : Nat} (h : ep < 18446744073709551616) : ∀ k, ticksN k ep < 18446744073709551616
  | 0 => h
  | _ + 1 => tickE_lt _
theorem givesV_epoch {c : CallD} {ep next : Nat} {was : ItemD} {there : Bool} {g : GivD} (h : givesV c ep next was there = some g) : g.epoch = ep ∨ g.epoch = (flushE ep c.exp).1 := by
  unfold givesV at h
  repeat' split at h
  all_goals (try cases h)
  all_goals (try (first | unfold casG | unfold countG | unfold flushG))
  all_goals (repeat' split)
  all_goals first
    | exact .inl rfl
    | exact .inr rfl
theorem does_bound {m : MapM} {c : CallD} {ep : Nat} (hm : m.epoch < 18446744073709551616) (he : ep < 18446744073709551616) : (doesM m c ep).2.epoch < 18446744073709551616 ∧ (doesM m c ep).2.ids ≤ m.ids + 1 := by
  unfold doesM
  cases hg : givesM m c ep with
  | none => exact ⟨hm, Nat.le_succ _⟩
  | some g =>
    refine ⟨?_, ?_⟩
    · show g.epoch < _
      unfold givesM at hg
      split at hg
      · rcases givesV_epoch hg with e | e
        · rw [e]; exact he
        · rw [e]; exact flushE_lt he _
      · cases hg
    · show (if g.drawn then m.ids + 1 else m.ids) ≤ _
      split <;> omega
theorem runL_snoc (s : MapM × Nat) (L : List StepD) (x : StepD) : runL s (L ++ [x]) = stepM (runL s L) x := by
  unfold runL
  rw [List.foldl_append]
  rfl
theorem runL_take {s : MapM × Nat} {L : List StepD} {i : Nat} {x : StepD} (h : L[i]? = some x) : runL s (L.take (i + 1)) = stepM (runL s (L.take i)) x := by
  rw [List.take_add_one, h]
  exact runL_snoc _ _ _
theorem field_kind (k n f i d g : Int) (s t : ByteArray) (W : World) : (Instr.field 39 (.agg #[.int .u8 k, .int .u64 n, .string s, .string t, .int .u32 f, .int .u64 i, .int .i64 d, .int .i64 g]) 0).run Tryd.prog W = .ok (.int .u8 k) W := by kernel_rfl
section
variable {w W : World} {p : Nat} {m : MapM} {bs : List (Nat × Array Value)} {lv : Value} {L : List StepD} {ep : Nat}
set_option maxRecDepth 100000 in
set_option maxHeartbeats 8000000 in
theorem run_any (h : LvAt w W p m bs) (hl : StepRow w lv L) (hme : m.epoch < 18446744073709551616) (he : ep < 18446744073709551616) (hid : m.ids + L.length < 18446744073709551615) (hE : HasErr w) (hP : HasPow w) : Calls Tryd.prog 21 #[.pointer (some ⟨p, 0, none⟩), lv, .int .u64 (ep : Int)] W fun e w' => e = .returned (.int .u64 ((runL (m, ep) L).2 : Int)) ∧ LvAt w w' p (runL (m, ep) L).1 bs ∧ (runL (m, ep) L).1.epoch < 18446744073709551616 ∧ (runL (m, ep) L).2 < 18446744073709551616 ∧ (runL (m, ep) L).1.ids ≤ m.ids + L.length := by
  have hmx := hl.1
  unfold maxLen at hmx
  obtain ⟨-, hsx, la, lc, rfl, hcell⟩ := hl
  have HSX := Lib.hid hsx
  have HC := Lib.hid (fun (j : Nat) (x : StepD) (hj : L[j]? = some x) => StepRow.at (c := lc) hcell hj)
  have HE := Lib.hid hE
  have HP := Lib.hid hP
  have HL := Lib.hid h
  have HME := Lib.hid hme
  have HID := Lib.hid hid
  clear hsx hcell hE hP h hme hid
  go_enter Tryd.func21, Tryd.ntmps21
  go_upto_region 2 with fail
  go_loopw [2, 7] (fun s2 s7 wr => ∃ (i : Nat) (m1 : MapM) (e1 : Nat), s7 = .int .i64 (i : Int) ∧ s2 = .int .u64 (e1 : Int) ∧ i ≤ L.length ∧ Hid (runL (m, ep) (L.take i) = (m1, e1)) ∧ Hid (LvAt w wr p m1 bs) ∧ Hid (m1.epoch < 18446744073709551616) ∧ Hid (e1 < 18446744073709551616) ∧ Hid (m1.ids ≤ m.ids + i)) (fun _ s7 _ => L.length - (intOf s7).toNat)
  case atStart => exact ⟨0, m, ep, rfl, rfl, Nat.zero_le _, Lib.hid rfl, HL, HME, Lib.hid he, Lib.hid (Nat.le_refl _)⟩
  case round =>
    obtain ⟨i, m1, e1, rfl, rfl, hi, HR, HL1, HM1, HE1, HI1⟩ := hrel
    clear HL HME
    by_cases hlt : i < L.length
    · obtain ⟨x, hx⟩ : ∃ x, L[i]? = some x := ⟨_, List.getElem?_eq_getElem hlt⟩
      obtain ⟨g, b, hix, hcw⟩ := HC.out i x hx
      have hsi := HSX.out x (List.mem_of_getElem? hx)
      have htl := hsi.ticks
      obtain ⟨t, ht⟩ : ∃ t, t = x.ticks := ⟨_, rfl⟩
      obtain ⟨r, hr⟩ : ∃ r, r = t % 5 := ⟨_, rfl⟩
      have q1 : (t : Int) % 5 = (r : Int) := by omega
      have q2 : (t : Int).tmod 5 = (r : Int) := by rw [Int.tmod_eq_emod_of_nonneg (by omega)]; exact q1
      have hr5 : r < 5 := by omega
      rw [← ht] at htl
      have HCW := Lib.hid hcw
      have HSI := Lib.hid hsi
      have HX := Lib.hid hx
      have HT := Lib.hid ht
      have HRR := Lib.hid hr
      clear hcw hsi hx ht hr
      go_upto_region 5 with fail
      go_loopw [2, 8] (fun s2 s8 wk => ∃ k : Nat, s8 = .int .i64 (k : Int) ∧ s2 = .int .u64 (ticksN k e1 : Int) ∧ k ≤ r ∧ Hid (LvAt w wk p m1 bs)) (fun _ s8 _ => 5 - (intOf s8).toNat)
      case atStart => exact ⟨0, rfl, rfl, Nat.zero_le _, HL1⟩
      case round =>
        obtain ⟨k, rfl, rfl, hkr, HLk⟩ := hrel
        have htk := HCW.out wr HLk.out.bel 7 _ rfl
        rw [← HT.out] at htk
        have htl0 : (0 : Int) ≤ (t : Int) := by omega
        by_cases hk2 : k < r
        · go_upto_region 7 with fail
          go_wp2_with fail
          refine (tick_any (ticksN k e1) (ticksN_lt HE1.out k) _).mono ?_
          rintro e W2 ⟨rfl, hb⟩
          have HL2 := Lib.hid (HLk.out.below hb)
          clear hb HLk htk
          go_wp2_with fail
          go_roundw
          case rel => exact ⟨k + 1, by go_num, rfl, by omega, HL2⟩
          case measure => simp [intOf]; omega
        · obtain rfl : k = r := by omega
          clear hk2 hkr
          obtain ⟨e2, he2⟩ : ∃ e, e = ticksN k e1 := ⟨_, rfl⟩
          rw [← he2]
          have HE2 := Lib.hid he2
          have HEL := Lib.hid (ticksN_lt HE1.out k)
          rw [← he2] at HEL
          clear he2
          go_upto_region 8 with fail
          have x0 := HCW.out wr HLk.out.bel 0 _ rfl
          have x1 := HCW.out wr HLk.out.bel 1 _ rfl
          have x2 := HCW.out wr HLk.out.bel 2 _ rfl
          have x3 := HCW.out wr HLk.out.bel 3 _ rfl
          have x4 := HCW.out wr HLk.out.bel 4 _ rfl
          have x5 := HCW.out wr HLk.out.bel 5 _ rfl
          have x6 := HCW.out wr HLk.out.bel 6 _ rfl
          rw [Nat.add_zero] at x0
          go_wp2_with fail
          have hsi := HSI.out.call
          have hi1 := HI1.out
          have hid1 := HID.out
          refine (does_any (c := x.call) HLk.out.map HM1.out HEL.out hsi.key hsi.verb hsi.exp hsi.by' (by omega) (HE.out.below HLk.out.bel) (HP.out.below HLk.out.bel)).mono ?_
          rintro e W2 ⟨rfl, hm, hc⟩
          have hl2 := HLk.out.step hm hc
          have hbd := does_bound (m := m1) (c := x.call) (ep := e2) HM1.out HEL.out
          have hn := runL_take (s := (m, ep)) HX.out
          rw [HR.out] at hn
          unfold stepM at hn
          simp only at hn
          rw [← HT.out, ← HRR.out, ← HE2.out] at hn
          clear hm hc
          obtain ⟨⟨a, m2⟩, hr⟩ : ∃ r, r = doesM m1 x.call e2 := ⟨_, rfl⟩
          rw [← hr] at hl2 hbd hn ⊢
          simp only at hl2 hbd hn ⊢
          have HL2 := Lib.hid hl2
          have HBD := Lib.hid hbd
          have HN := Lib.hid hn
          clear hl2 hbd hn hr hsi hi1 hid1 x0 x1 x2 x3 x4 x5 x6 htk HLk hix q1 q2 htl0
          unfold AnsD.cells
          have qf := field_kind
          obtain ⟨ak, hak⟩ : ∃ z, z = a.kind := ⟨_, rfl⟩
          rw [← hak] at HN ⊢
          by_cases hk10 : ak = 10
          · subst hk10
            clear hak
            have hn := HN.out
            rw [if_pos rfl] at hn
            have HN1 := Lib.hid hn
            clear hn HN
            go_upto_region 9 with fail
            go_wp2_with fail
            refine (mapsEpoch_any HL2.out.map).mono ?_
            rintro e W3 ⟨rfl, rfl⟩
            go_wp2_with fail
            go_roundw
            case rel => exact ⟨i + 1, m2, m2.epoch, by go_num, rfl, by omega, HN1, HL2, Lib.hid HBD.out.1, Lib.hid HBD.out.1, Lib.hid (by have := HBD.out.2; have := HI1.out; omega)⟩
            case measure => simp [intOf]; omega
          · have hn := HN.out
            rw [if_neg hk10] at hn
            have HN1 := Lib.hid hn
            clear hn HN
            go_wp2_with fail
            go_roundw
            case rel => exact ⟨i + 1, m2, e2, by go_num, rfl, by omega, HN1, HL2, Lib.hid HBD.out.1, HEL, Lib.hid (by have := HBD.out.2; have := HI1.out; omega)⟩
            case measure => simp [intOf]; omega
    · have HEQ := Lib.hid HR.out
      rw [List.take_of_length_le (by omega)] at HEQ
      go_wp2_with fail
      go_ret
      rw [HEQ.out]
      obtain rfl : i = L.length := by omega
      exact ⟨rfl, HL1.out, HM1.out, HE1.out, HI1.out⟩
end
end Go.Proofs.YtaooangnnlopcaaDoor
