/- The chapter's examples of layer 30 hold: 'lives' answers true. Condition: the library's variables MaxLen and ErrRange are as they are laid. -/
import Derived.Test.YtahpjhnbjkjkiaaDoorLowH
namespace Go.Proofs.YtahpjhnbjkjkiaaDoor
open Go.RowKit Go.ChangeMaps Go.MapKept

def lb0 : List UInt8 := [103, 101, 116, 32, 97, 10, 115, 101, 116, 32, 98, 32, 48, 32, 48, 32, 50, 13, 10]
def ls1 : FSt := (runF fNew lb0).1
theorem le0 : (runF fNew lb0).2 = [⟨⟨1, [[97]], 1, [97], [], 0, 0, 0, 0, -1, false⟩, [], 0⟩] := by kernel_rfl
theorem lg0 : GoodF fNew ∧ fNew.held.length + lb0.length < 1048576 := ⟨goodF_new, by decide +kernel⟩
def lb1 : List UInt8 := [120]
def ls2 : FSt := (runF ls1 lb1).1
theorem le1 : (runF ls1 lb1).2 = [] := by kernel_rfl
theorem lg1 : GoodF ls1 ∧ ls1.held.length + lb1.length < 1048576 := ⟨goodF_run _ _ lg0.1, by decide +kernel⟩
def lb2 : List UInt8 := [10, 13, 10]
def ls3 : FSt := (runF ls2 lb2).1
theorem le2 : (runF ls2 lb2).2 = [⟨⟨3, [[98]], 3, [98], [], 0, 0, 0, 0, 2, false⟩, [120, 10], 0⟩] := by kernel_rfl
theorem lg2 : GoodF ls2 ∧ ls2.held.length + lb2.length < 1048576 := ⟨goodF_run _ _ lg1.1, by decide +kernel⟩
def lb3 : List UInt8 := [115, 101, 116, 32, 99, 32, 48, 32, 48, 32, 49, 13, 10, 120, 121, 122, 10]
def ls4 : FSt := (runF ls3 lb3).1
theorem le3 : (runF ls3 lb3).2 = [toldE 6] := by kernel_rfl
theorem lg3 : GoodF ls3 ∧ ls3.held.length + lb3.length < 1048576 := ⟨goodF_run _ _ lg2.1, by decide +kernel⟩
def lb4 : List UInt8 := [110, 111, 110, 115, 101, 110, 115, 101, 10]
def ls5 : FSt := (runF ls4 lb4).1
theorem le4 : (runF ls4 lb4).2 = [toldE 1] := by kernel_rfl
theorem lg4 : GoodF ls4 ∧ ls4.held.length + lb4.length < 1048576 := ⟨goodF_run _ _ lg3.1, by decide +kernel⟩
theorem lleft : leftF ls2 = 1 := by kernel_rfl
theorem map_none {α β : Type} {f : α → β} {L : List α} (h : L.map f = []) : L = [] := by simpa using h
theorem map_one {L : List (Value × Ev)} {e : Ev} (h : L.map (·.2) = [e]) : ∃ k, L = [(k, e)] := by
  match L, h with
  | [(k, e')], h => exact ⟨k, by simp at h; rw [h]⟩
set_option maxRecDepth 100000 in
set_option maxHeartbeats 8000000 in
theorem lives30 (w : World) (hL : HasLen w) (hE : HasErr w) : Calls Tryd.prog 8 #[] w fun e w' => e = .returned (.bool true) ∧ Below w.heap.size w w' := by
  have hf0 := feed_new w (Nat.le_refl _)
  have hE0 := (Env.of hL hE).chg (M := fun _ => False) ((Chg.refl _ _).alloc (.cells feedZero 65)) (fun _ e => e.elim)
  have hB0 := (Below.refl w.heap.size w).alloc (Nat.le_refl _) (.cells feedZero 65)
  have H0 := Lib.hid (show FeedAt w.heap.size (w.alloc (.cells feedZero 65)) w.heap.size 65 [] (.slice none 0 0) (.slice none 0 0) fNew from hf0)
  have HE0 := Lib.hid hE0
  have HB0 := Lib.hid hB0
  clear hf0 hE0 hB0 hL hE
  go_enter Tryd.func8, Tryd.ntmps8
  go_wp2_with fail
  refine (new_any w).mono ?_
  rintro e w0 ⟨rfl, rfl⟩
  generalize w.alloc (.cells feedZero 65) = W0 at *
  have hcs := conv_const
  go_wp2_with fail
  refine (in_lit H0.out HE0.out HB0.out.size lg0.1 lb0 lg0.2).mono ?_
  intro e w' hin
  obtain ⟨hv1, ks1, ov0, L0, rfl, hd⟩ := fed_of hin
  clear hin
  have hE' := HE0.out.chg hd.chg H0.out.lowM
  have hB' := HB0.out.trans (hd.chg.below (fun k hk => ⟨Nat.lt_of_lt_of_le hk HB0.out.size, fun hm => by have := H0.out.lowM k hm; omega⟩))
  have hev := hd.evs
  rw [le0] at hev

  obtain ⟨ke0, rfl⟩ := map_one hev
  obtain ⟨a0, rfl⟩ : ∃ a, ov0 = .slice a 1 1 := hd.cut
  have HR0 := Lib.hid hd.row
  have H1 := Lib.hid hd.feed
  have HE1 := Lib.hid hE'
  have HB1 := Lib.hid hB'
  clear hev hd hE' hB'  H0 HE0 HB0
  obtain ⟨W1, rfl⟩ : ∃ W, W = w' := ⟨_, rfl⟩
  change Hid (FeedAt _ W1 _ _ _ _ _ ls1) at H1
  go_wp2_with fail
  refine (in_lit H1.out HE1.out HB1.out.size lg1.1 lb1 lg1.2).mono ?_
  intro e w' hin
  obtain ⟨hv2, ks2, ov1, L1, rfl, hd⟩ := fed_of hin
  clear hin
  have hE' := HE1.out.chg hd.chg H1.out.lowM
  have hB' := HB1.out.trans (hd.chg.below (fun k hk => ⟨Nat.lt_of_lt_of_le hk HB1.out.size, fun hm => by have := H1.out.lowM k hm; omega⟩))
  have hr0' := HR0.out.fed H1.out (by decide) hd.chg
  have hev := hd.evs
  rw [le1] at hev

  obtain rfl := map_none hev
  obtain ⟨a1, rfl⟩ : ∃ a, ov1 = .slice a 0 0 := hd.cut
  clear HR0
  have HR0 := Lib.hid hr0'
  have HR1 := Lib.hid hd.row
  have H2 := Lib.hid hd.feed
  have HE2 := Lib.hid hE'
  have HB2 := Lib.hid hB'
  clear hev hd hE' hB' hr0' H1 HE1 HB1
  obtain ⟨W2, rfl⟩ : ∃ W, W = w' := ⟨_, rfl⟩
  change Hid (FeedAt _ W2 _ _ _ _ _ ls2) at H2
  obtain ⟨ha2, hc2, rfl⟩ := row_slice H2.out.held
  go_wp2_with fail
  refine (left_any H2.out.box (by decide +kernel)).mono ?_
  rintro e w' ⟨rfl, rfl⟩
  rw [show ((if ls2.way = 3 then ls2.held.length + 1 else ls2.held.length : Nat) : Int) = 1 from congrArg _ lleft]
  go_wp2_with fail
  refine (in_lit H2.out HE2.out HB2.out.size lg2.1 lb2 lg2.2).mono ?_
  intro e w' hin
  obtain ⟨hv3, ks3, ov2, L2, rfl, hd⟩ := fed_of hin
  clear hin
  have hE' := HE2.out.chg hd.chg H2.out.lowM
  have hB' := HB2.out.trans (hd.chg.below (fun k hk => ⟨Nat.lt_of_lt_of_le hk HB2.out.size, fun hm => by have := H2.out.lowM k hm; omega⟩))
  have hr0' := HR0.out.fed H2.out (by decide) hd.chg
  have hr1' := HR1.out.fed H2.out (by decide) hd.chg
  have hev := hd.evs
  rw [le2] at hev

  obtain ⟨ke2, rfl⟩ := map_one hev
  obtain ⟨a2, rfl⟩ : ∃ a, ov2 = .slice a 1 1 := hd.cut
  clear HR0
  have HR0 := Lib.hid hr0'
  clear HR1
  have HR1 := Lib.hid hr1'
  have HR2 := Lib.hid hd.row
  have H3 := Lib.hid hd.feed
  have HE3 := Lib.hid hE'
  have HB3 := Lib.hid hB'
  clear hev hd hE' hB' hr0' hr1' H2 HE2 HB2
  obtain ⟨W3, rfl⟩ : ∃ W, W = w' := ⟨_, rfl⟩
  change Hid (FeedAt _ W3 _ _ _ _ _ ls3) at H3
  go_wp2_with fail
  refine (in_lit H3.out HE3.out HB3.out.size lg3.1 lb3 lg3.2).mono ?_
  intro e w' hin
  obtain ⟨hv4, ks4, ov3, L3, rfl, hd⟩ := fed_of hin
  clear hin
  have hE' := HE3.out.chg hd.chg H3.out.lowM
  have hB' := HB3.out.trans (hd.chg.below (fun k hk => ⟨Nat.lt_of_lt_of_le hk HB3.out.size, fun hm => by have := H3.out.lowM k hm; omega⟩))
  have hr0' := HR0.out.fed H3.out (by decide) hd.chg
  have hr1' := HR1.out.fed H3.out (by decide) hd.chg
  have hr2' := HR2.out.fed H3.out (by decide) hd.chg
  have hev := hd.evs
  rw [le3] at hev

  obtain ⟨ke3, rfl⟩ := map_one hev
  obtain ⟨a3, rfl⟩ : ∃ a, ov3 = .slice a 1 1 := hd.cut
  clear HR0
  have HR0 := Lib.hid hr0'
  clear HR1
  have HR1 := Lib.hid hr1'
  clear HR2
  have HR2 := Lib.hid hr2'
  have HR3 := Lib.hid hd.row
  have H4 := Lib.hid hd.feed
  have HE4 := Lib.hid hE'
  have HB4 := Lib.hid hB'
  clear hev hd hE' hB' hr0' hr1' hr2' H3 HE3 HB3
  obtain ⟨W4, rfl⟩ : ∃ W, W = w' := ⟨_, rfl⟩
  change Hid (FeedAt _ W4 _ _ _ _ _ ls4) at H4
  go_wp2_with fail
  refine (in_lit H4.out HE4.out HB4.out.size lg4.1 lb4 lg4.2).mono ?_
  intro e w' hin
  obtain ⟨hv5, ks5, ov4, L4, rfl, hd⟩ := fed_of hin
  clear hin
  have hE' := HE4.out.chg hd.chg H4.out.lowM
  have hB' := HB4.out.trans (hd.chg.below (fun k hk => ⟨Nat.lt_of_lt_of_le hk HB4.out.size, fun hm => by have := H4.out.lowM k hm; omega⟩))
  have hr0' := HR0.out.fed H4.out (by decide) hd.chg
  have hr1' := HR1.out.fed H4.out (by decide) hd.chg
  have hr2' := HR2.out.fed H4.out (by decide) hd.chg
  have hr3' := HR3.out.fed H4.out (by decide) hd.chg
  have hev := hd.evs
  rw [le4] at hev

  obtain ⟨ke4, rfl⟩ := map_one hev
  obtain ⟨a4, rfl⟩ : ∃ a, ov4 = .slice a 1 1 := hd.cut
  clear HR0
  have HR0 := Lib.hid hr0'
  clear HR1
  have HR1 := Lib.hid hr1'
  clear HR2
  have HR2 := Lib.hid hr2'
  clear HR3
  have HR3 := Lib.hid hr3'
  have HR4 := Lib.hid hd.row
  have H5 := Lib.hid hd.feed
  have HE5 := Lib.hid hE'
  have HB5 := Lib.hid hB'
  clear hev hd hE' hB' hr0' hr1' hr2' hr3' H4 HE4 HB4
  obtain ⟨W5, rfl⟩ : ∃ W, W = w' := ⟨_, rfl⟩
  change Hid (FeedAt _ W5 _ _ _ _ _ ls5) at H5
  obtain ⟨g0, o0, c0, hs0, hcell0, -⟩ := HR0.out.at (k := 0) rfl
  obtain ⟨rfl, -, -⟩ := slice_inj hs0
  have hix0 : ∀ W : World, (Instr.indexAt 27 (.slice (some ⟨g0, o0, none⟩) 1 1) (.int .i64 0)).run Tryd.prog W = .ok (.pointer (some ⟨g0, o0, none⟩)) W := fun W => idx_ev (k := 0) rfl (by omega) W
  have q0_0 : W5.cell? ⟨g0, o0, none⟩ = some (.int .u8 1) := hcell0 0 _ rfl
  clear hs0 hcell0 HR0
  obtain ⟨g2, o2, c2, hs2, hcell2, -⟩ := HR2.out.at (k := 0) rfl
  obtain ⟨rfl, -, -⟩ := slice_inj hs2
  have hix2 : ∀ W : World, (Instr.indexAt 27 (.slice (some ⟨g2, o2, none⟩) 1 1) (.int .i64 0)).run Tryd.prog W = .ok (.pointer (some ⟨g2, o2, none⟩)) W := fun W => idx_ev (k := 0) rfl (by omega) W
  have q2_0 : W5.cell? ⟨g2, o2, none⟩ = some (.int .u8 3) := hcell2 0 _ rfl
  have q2_3 : W5.cell? ⟨g2, o2 + 3, none⟩ = some (.string ⟨#[98]⟩) := hcell2 3 _ rfl
  have q2_11 : W5.cell? ⟨g2, o2 + 11, none⟩ = some (.string ⟨#[120, 10]⟩) := hcell2 11 _ rfl
  clear hs2 hcell2 HR2
  obtain ⟨g3, o3, c3, hs3, hcell3, -⟩ := HR3.out.at (k := 0) rfl
  obtain ⟨rfl, -, -⟩ := slice_inj hs3
  have hix3 : ∀ W : World, (Instr.indexAt 27 (.slice (some ⟨g3, o3, none⟩) 1 1) (.int .i64 0)).run Tryd.prog W = .ok (.pointer (some ⟨g3, o3, none⟩)) W := fun W => idx_ev (k := 0) rfl (by omega) W
  have q3_12 : W5.cell? ⟨g3, o3 + 12, none⟩ = some (.int .u8 6) := hcell3 12 _ rfl
  clear hs3 hcell3 HR3
  obtain ⟨g4, o4, c4, hs4, hcell4, -⟩ := HR4.out.at (k := 0) rfl
  obtain ⟨rfl, -, -⟩ := slice_inj hs4
  have hix4 : ∀ W : World, (Instr.indexAt 27 (.slice (some ⟨g4, o4, none⟩) 1 1) (.int .i64 0)).run Tryd.prog W = .ok (.pointer (some ⟨g4, o4, none⟩)) W := fun W => idx_ev (k := 0) rfl (by omega) W
  have q4_12 : W5.cell? ⟨g4, o4 + 12, none⟩ = some (.int .u8 1) := hcell4 12 _ rfl
  clear hs4 hcell4 HR4
  clear HR1 hcs
  go_wp2_with fail
  go_ret
  exact ⟨rfl, HB5.out⟩
end Go.Proofs.YtahpjhnbjkjkiaaDoor
