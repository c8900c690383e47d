/- stores.NewStore of a set. No condition. -/
import Derived.Test.YtnkkoicbnbjlnaaGreatDoorMeE
import Derived.Test.YtnkkoicbnbjlnaaGreatDoorLowD
import Derived.Test.YtnkkoicbnbjlnaaGreatDoorLowA
namespace Go.Proofs.YtnkkoicbnbjlnaaGreatDoor
set_option maxRecDepth 100000
set_option maxHeartbeats 8000000
open Go.RowKit Go.ChangeMaps Go.MapKept
abbrev callV (m : StM) : Value := .agg #[.int .u8 3, sv m.key, sv m.value, .int .u32 (m.flags : Int), .int .i64 m.exp, .int .u64 (m.id : Int), .int .u64 (m.by' : Int)]
theorem storeMay_any (m : StM) (hk : m.key.length ≤ maxLen) (hv : m.value.length ≤ maxLen) (hok : okB m.key = true) (hr : roomB m.value.length = true) (w : World) : Calls Tryz.prog 125 #[callV m] w fun e w' => e = .returned (.bool true) ∧ Below w.heap.size w w' := by
 have H1 := hidZ (fun W : World => ok_str m.key W hk)
 have H2 := hidZ (fun W : World => kvalue_any ⟨m.value.toArray⟩ W (by rw [sv_size]; exact hv))
 have hr' : roomB (ByteArray.size ⟨m.value.toArray⟩) = true := by rw [sv_size]; exact hr
 have hb : Below w.heap.size w (w.alloc (.cells #[.int .u8 3, sv m.key, sv m.value, .int .u32 (m.flags : Int), .int .i64 m.exp, .int .u64 (m.id : Int), .int .u64 (m.by' : Int)] 26)) := (Below.refl _ _).alloc (Nat.le_refl _) _
 have HB := hidZ hb
 clear hb
 go_enter Tryz.func125, Tryz.ntmps125
 go_wp2_with fail
 refine (H1.out _).mono ?_
 rintro e w2 ⟨rfl, rfl⟩
 rw [hok]
 go_wp2_with fail
 refine (H2.out _).mono ?_
 rintro e w3 ⟨rfl, rfl⟩
 rw [hr']
 go_wp2_with fail
 go_ret
 exact ⟨rfl, HB.out⟩
theorem low_drew1 {B : Nat} {a b : World} (h : Below B a b) : Below B a b.drew := ⟨h.os, h.tape, h.output, h.size, h.block⟩
def NewSt (t : Nat) (m : StM) (x : Nat) : Thing := fun V S => ∃ q : Nat × Nat, Star (Star (StoreBox q.2 x) (TakeIs q.1 t 0 false (drawF q.1))) (StoreB x (.iface 249 (ptrN q.1)) (newF q.2) .nilFunc m) V S
theorem storeNew_any {t : Nat} (ht : t < 64) (m : StM) (hz : storeCells .nilIface .nilFunc .nilFunc m = [.nilIface, .nilFunc, .nilFunc, .int .u8 3, sv m.key, sv m.value, .int .u32 (m.flags : Int), .int .i64 m.exp, .int .u64 (m.id : Int), .int .u64 (m.by' : Int), .int .u64 (m.h : Int), .int .i64 0, .int .i64 0, .int .i64 0, .int .u8 0, .int .u64 0, .string ⟨#[]⟩, .string ⟨#[]⟩, .int .u32 0, .int .u64 0, .int .i64 0, .int .i64 0, .int .u64 0, .int .i64 0]) (hh : m.h = hashN m.key)
  (hk : m.key.length ≤ maxLen) (hv : m.value.length ≤ maxLen) (hok : okB m.key = true) (hr : roomB m.value.length = true) (w : World) :
  Calls Tryz.prog 97 #[.int .i64 (t : Int), callV m] w fun e w' => ∃ x, e = .returned (ptrN x) ∧ Made (NewSt t m x) w w' := by
 have HMAY := hidZ (storeMay_any m hk hv hok hr)
 have HH := hidZ (fun W : World => hash_any m.key hk W)
 rw [← hh] at HH
 have HT := hidZ ht
 obtain ⟨b0, hb0⟩ := xE (w.heap.size)
 obtain ⟨w1, hw1⟩ := xE (w.alloc (.cells #[.int .u8 3, sv m.key, sv m.value, .int .u32 (m.flags : Int), .int .i64 m.exp, .int .u64 (m.id : Int), .int .u64 (m.by' : Int)] 26))
 have hz1 : w1.heap.size = w.heap.size + 1 := by rw [hw1, size_at]
 have hb1 : Below w.heap.size w w1 := bal hw1
 have hq1 : w1.heap[b0]? = some (.cells #[.int .u8 3, sv m.key, sv m.value, .int .u32 (m.flags : Int), .int .i64 m.exp, .int .u64 (m.id : Int), .int .u64 (m.by' : Int)] 26 (0, 0)) := by rw [hw1, hb0]; exact heap_mem w _
 have r1 : w1.rangeAt b0 0 [.int .u8 3, sv m.key, sv m.value, .int .u32 (m.flags : Int), .int .i64 m.exp, .int .u64 (m.id : Int), .int .u64 (m.by' : Int)] := World.rangeAt_of_cells hq1
 have HB1 := hidZ (And.intro hb1 hz1)
 have HQ1 := hidZ hq1
 have hmf := @mkFn Tryz.prog
 have HS := hidZ (show ∀ V : World, Made (StoreB V.heap.size .nilIface .nilFunc .nilFunc m) V (V.alloc (.cells #[.nilIface, .nilFunc, .nilFunc, .int .u8 3, sv m.key, sv m.value, .int .u32 (m.flags : Int), .int .i64 m.exp, .int .u64 (m.id : Int), .int .u64 (m.by' : Int), .int .u64 (m.h : Int), .int .i64 0, .int .i64 0, .int .i64 0, .int .u8 0, .int .u64 0, .string ⟨#[]⟩, .string ⟨#[]⟩, .int .u32 0, .int .u64 0, .int .i64 0, .int .i64 0, .int .u64 0, .int .i64 0] 248)) from fun V => by
  have h := made_blk V (storeCells .nilIface .nilFunc .nilFunc m) 248
  unfold StoreB
  rw [hz] at h ⊢
  exact h)
 clear hk hv hok hr ht hh hb1 hz1 hq1
 go_enter Tryz.func97, Tryz.ntmps97
 go_upto_region 1 with fail
 rw [← hw1, ← hb0]
 clear hw1 hb0
 refine wp_region_held_drew (S := fun V => V.rangeAt b0 0 [.int .u8 3, sv m.key, sv m.value, .int .u32 (m.flags : Int), .int .i64 m.exp, .int .u64 (m.id : Int), .int .u64 (m.by' : Int)]) (by kernel_rfl) r1 (fun hHe => ?_)
 refine wpAnyH_take (i := 0) rfl (by kernel_rfl) (by kernel_rfl) (by kernel_rfl) (fun _ _ _ h => h) (yieldsIf_load_mid (by rfl) 26 (.tmp 3) (by rfl) b0 0 (by rfl) [.int .u8 3, sv m.key, sv m.value, .int .u32 (m.flags : Int), .int .i64 m.exp, .int .u64 (m.id : Int), .int .u64 (m.by' : Int)] _ (fun w hSw => hSw) Tryz.underlying26 rfl (by kernel_rfl)) (by assumption) ?_
 try simp only [tp, tz]
 refine tkz 1 rfl ?_
 try simp only [tp, tz]
 refine tkv 2 (v := ?_) rfl ?_ ?_
 rotate_left 1
 ·((intro w hSw; (try dsimp only at hSw); have c0 := hSw 1 (sv m.key) rfl; rw [Nat.zero_add] at c0; go_simp) <;> with_reducible rfl)
 try simp only [tp, tz]
 refine wpAnyH_ready (rs := [3, 6]) (by kernel_rfl) (by simp) ?_
 refine (AllReadyH.cons rfl (fun K hK => ?_) (AllReadyH.cons rfl (fun K hK => ?_) AllReadyH.nil))
 ·go_simp
  go_at_call 123
  refine (HH.out _).mono ?_
  rintro e w2 ⟨rfl, hb2⟩
  refine hK.out _ _ (range_below hHe hb2) (fun hHf => ?_)
  clear hK K
  try simp only [tp, tz]
  refine tkz 4 rfl ?_
  try simp only [tp, tz]
  have hr2 := hHf
  have hlow2 := (low_drew1 HB1.out.1).trans (hb2.mono (show w.heap.size ≤ w1.drew.heap.size from HB1.out.1.size))
  refine wpAnyH_ready (rs := [5, 6]) (by kernel_rfl) (by simp) ?_
  refine (AllReadyH.cons rfl (fun K hK => ?_) (AllReadyH.cons rfl (fun K hK => ?_) AllReadyH.nil))
  ·go_simp
   refine hK.out _ _ (World.rangeAt_alloc hHf _) (fun hHf => ?_)
   clear hK K
   try simp only [tp, tz]
   refine rdy 6 rfl (fun K hK => ?_)
   go_simp
   refine hK.out _ _ (World.rangeAt_alloc hHf _) (fun hHf => ?_)
   clear hK K
   try simp only [tp, tz]
   refine rdy 7 rfl (fun K hK => ?_)
   go_simp
   refine hK.out _ _ (World.rangeAt_alloc (World.rangeAt_alloc hr2 _) _) (fun hHf => ?_)
   clear hK K
   try simp only [tp, tz]
   refine wpAnyH_done (by kernel_rfl) ?_ _
   obtain ⟨w5, hw5⟩ := xE ((w2.alloc (.cells #[.nilIface, .nilFunc, .nilFunc, .int .u8 3, sv m.key, sv m.value, .int .u32 (m.flags : Int), .int .i64 m.exp, .int .u64 (m.id : Int), .int .u64 (m.by' : Int), .int .u64 (m.h : Int), .int .i64 0, .int .i64 0, .int .i64 0, .int .u8 0, .int .u64 0, .string ⟨#[]⟩, .string ⟨#[]⟩, .int .u32 0, .int .u64 0, .int .i64 0, .int .i64 0, .int .u64 0, .int .i64 0] 248)).alloc (.cells #[.pointer (some ⟨w2.heap.size, 0, none⟩)] 209))
   have hM5 : Made (Star (StoreBox (w2.heap.size + 1) w2.heap.size) (StoreB w2.heap.size .nilIface .nilFunc .nilFunc m)) w w5 := by
    rw [hw5]
    exact Made.later hlow2 (by
     have h := Made.star (framed_store _ _ _ _ _) (HS.out w2) (made_blk (w2.alloc (.cells #[.nilIface, .nilFunc, .nilFunc, .int .u8 3, sv m.key, sv m.value, .int .u32 (m.flags : Int), .int .i64 m.exp, .int .u64 (m.id : Int), .int .u64 (m.by' : Int), .int .u64 (m.h : Int), .int .i64 0, .int .i64 0, .int .i64 0, .int .u8 0, .int .u64 0, .string ⟨#[]⟩, .string ⟨#[]⟩, .int .u32 0, .int .u64 0, .int .i64 0, .int .i64 0, .int .u64 0, .int .i64 0] 248)) [ptrN w2.heap.size] 209)
     rw [size_at] at h
     exact ⟨⟨_, h.1.choose_spec.1.comm, h.1.choose_spec.2⟩, h.2⟩)
   rw [← hw5]
   obtain ⟨x, hx⟩ := xE (w2.heap.size)
   obtain ⟨bx, hbx⟩ := xE ((w2.heap.size + 1))
   rw [← hbx, ← hx] at hM5 ⊢
   rw [← hw5] at hHf
   clear hx hbx hw5 hz
   obtain ⟨⟨S5, hs5, hk5⟩, hb5⟩ := hM5
   have HS5 := hidZ hs5
   have HK5 := hidZ (And.intro hk5 hb5)
   have HR5 := hidZ hHf
   clear hs5 hk5 hHf
   go_wp2_with fail
   refine (newTake_any t HT.out _).mono ?_
   rintro e w6 ⟨rfl, hm6⟩
   obtain ⟨o, ho⟩ := xE (w5.heap.size)
   rw [← ho] at hm6 ⊢
   have hr6 := range_below HR5.out hm6.2
   have z0 := hr6 0 (.int .u8 3) rfl
   have z1 := hr6 1 (sv m.key) rfl
   have z2 := hr6 2 (sv m.value) rfl
   have z3 := hr6 3 (.int .u32 (m.flags : Int)) rfl
   have z4 := hr6 4 (.int .i64 m.exp) rfl
   have z5 := hr6 5 (.int .u64 (m.id : Int)) rfl
   have z6 := hr6 6 (.int .u64 (m.by' : Int)) rfl
   simp only [Nat.zero_add] at z0 z1 z2 z3 z4 z5 z6
   obtain ⟨S6, hs6, hc6, hk6⟩ := made_in (framed_box (by decide)) (framed_store _ _ _ _ _) HS5.out hm6
   have HS6 := hidZ hs6
   have HK6 := hidZ (show (∀ k, S6 k → w.heap.size ≤ k) ∧ Below w.heap.size w w6 from by
    have e1 := HK5.out.2.size
    exact ⟨fun k hk => (hk6 k hk).elim (HK5.out.1 k) (fun e => Nat.le_trans e1 e), HK5.out.2.trans (hm6.2.mono e1)⟩)
   clear hs6 hc6 hk6 hm6 ho hr6
   go_wp2_with fail
   refine (HMAY.out _).mono ?_
   rintro e w7 ⟨rfl, hb7⟩
   have hs7 := (((framed_box (by decide)).star (framed_take _ _ _ _ _)).star (framed_store _ _ _ _ _)).below HS6.out hb7
   have HO := hidZ (show Calls Tryz.prog 126 #[ptrN o] w7 fun e w' => e = .returned (.bool false) ∧ w7 = w' from by
    obtain ⟨T1, T2, ⟨T3, T4, -, a2, -⟩, -⟩ := hs7
    exact takeOver_no a2)
   have hFB : Framed (Star (StoreBox bx x) (TakeIs o t 0 false (drawF o))) := (framed_box (by decide)).star (framed_take _ _ _ _ _)
   obtain ⟨g0, d0⟩ := hs7.setB hFB (by decide) 0 (.iface 249 (ptrN o))
   obtain ⟨g1, d1⟩ := g0.setB hFB (by decide) 1 (newF bx)
   obtain ⟨k0, f0⟩ := Star.cellB hs7 (j := 0) (v := .nilIface) rfl
   obtain ⟨k1, f1⟩ := Star.cellB hs7 (j := 1) (v := .nilFunc) rfl
   have kb : w7.cell? ⟨bx, 0, none⟩ = some (ptrN x) := by
    obtain ⟨T1, T2, ⟨T3, T4, a1, -⟩, -⟩ := hs7
    exact Blk.cell0 a1
   have hxb : x ≠ bx := fun e => by
    obtain ⟨T1, T2, ⟨T3, T4, a1, -, -, a4⟩, a5, a6, -⟩ := hs7
    exact a6 bx ((a4 bx).2 (.inl ((a1.2 bx).2 rfl))) ((a5.2 bx).2 e.symm)
   have HF := hidZ (show Made (NewSt t m x) w ((w7.setCell ⟨x, 0, none⟩ (.iface 249 (ptrN o))).setCell ⟨x, 1, none⟩ (newF bx)) from by
    have e1 := HK6.out.2.size
    have e2 := hb7.size
    exact ⟨⟨S6, ⟨(o, bx), g1⟩, HK6.out.1⟩, (HK6.out.2.trans (hb7.mono e1)).trans ((d0.trans d1).below (fun k hk => ⟨by omega, fun e => by have := HK6.out.1 k e; omega⟩))⟩)
   have hsi := fun (t : Nat) (v : Value) (a : Addr) (w : World) => run_store Tryz.prog w a (.iface t v) .plain rfl
   have hsf := fun (fn : Fn) (first cap : Array Value) (a : Addr) (w : World) => run_store Tryz.prog w a (.func fn first cap) .plain rfl
   clear z0 z1 z2 z3 z4 z5 z6 hs7 g0 d0 g1 d1 hFB
   go_wp2_with fail
   refine HO.out.mono ?_
   rintro e w8 ⟨rfl, rfl⟩
   go_wp2_with fail
   go_ret
   exact ⟨_, rfl, HF.out⟩
  ·go_simp
   refine hK.out _ _ (World.rangeAt_alloc hHf _) (fun hHf => ?_)
   clear hK K
   try simp only [tp, tz]
   refine rdy 5 rfl (fun K hK => ?_)
   go_simp
   refine hK.out _ _ (World.rangeAt_alloc hHf _) (fun hHf => ?_)
   clear hK K
   try simp only [tp, tz]
   refine rdy 7 rfl (fun K hK => ?_)
   go_simp
   refine hK.out _ _ (World.rangeAt_alloc (World.rangeAt_alloc hr2 _) _) (fun hHf => ?_)
   clear hK K
   try simp only [tp, tz]
   refine wpAnyH_done (by kernel_rfl) ?_ _
   obtain ⟨w5, hw5⟩ := xE ((w2.alloc (.cells #[.pointer (some ⟨w2.heap.size + 1, 0, none⟩)] 209)).alloc (.cells #[.nilIface, .nilFunc, .nilFunc, .int .u8 3, sv m.key, sv m.value, .int .u32 (m.flags : Int), .int .i64 m.exp, .int .u64 (m.id : Int), .int .u64 (m.by' : Int), .int .u64 (m.h : Int), .int .i64 0, .int .i64 0, .int .i64 0, .int .u8 0, .int .u64 0, .string ⟨#[]⟩, .string ⟨#[]⟩, .int .u32 0, .int .u64 0, .int .i64 0, .int .i64 0, .int .u64 0, .int .i64 0] 248))
   have hM5 : Made (Star (StoreBox w2.heap.size (w2.heap.size + 1)) (StoreB (w2.heap.size + 1) .nilIface .nilFunc .nilFunc m)) w w5 := by
    rw [hw5]
    exact Made.later hlow2 (by
     have h := Made.star (framed_box (by decide)) (made_blk w2 [ptrN (w2.heap.size + 1)] 209) (HS.out (w2.alloc (.cells #[ptrN (w2.heap.size + 1)] 209)))
     rw [size_at] at h
     exact h)
   rw [← hw5]
   obtain ⟨x, hx⟩ := xE ((w2.heap.size + 1))
   obtain ⟨bx, hbx⟩ := xE (w2.heap.size)
   rw [← hx, ← hbx] at hM5 ⊢
   rw [← hw5] at hHf
   clear hx hbx hw5 hz
   obtain ⟨⟨S5, hs5, hk5⟩, hb5⟩ := hM5
   have HS5 := hidZ hs5
   have HK5 := hidZ (And.intro hk5 hb5)
   have HR5 := hidZ hHf
   clear hs5 hk5 hHf
   go_wp2_with fail
   refine (newTake_any t HT.out _).mono ?_
   rintro e w6 ⟨rfl, hm6⟩
   obtain ⟨o, ho⟩ := xE (w5.heap.size)
   rw [← ho] at hm6 ⊢
   have hr6 := range_below HR5.out hm6.2
   have z0 := hr6 0 (.int .u8 3) rfl
   have z1 := hr6 1 (sv m.key) rfl
   have z2 := hr6 2 (sv m.value) rfl
   have z3 := hr6 3 (.int .u32 (m.flags : Int)) rfl
   have z4 := hr6 4 (.int .i64 m.exp) rfl
   have z5 := hr6 5 (.int .u64 (m.id : Int)) rfl
   have z6 := hr6 6 (.int .u64 (m.by' : Int)) rfl
   simp only [Nat.zero_add] at z0 z1 z2 z3 z4 z5 z6
   obtain ⟨S6, hs6, hc6, hk6⟩ := made_in (framed_box (by decide)) (framed_store _ _ _ _ _) HS5.out hm6
   have HS6 := hidZ hs6
   have HK6 := hidZ (show (∀ k, S6 k → w.heap.size ≤ k) ∧ Below w.heap.size w w6 from by
    have e1 := HK5.out.2.size
    exact ⟨fun k hk => (hk6 k hk).elim (HK5.out.1 k) (fun e => Nat.le_trans e1 e), HK5.out.2.trans (hm6.2.mono e1)⟩)
   clear hs6 hc6 hk6 hm6 ho hr6
   go_wp2_with fail
   refine (HMAY.out _).mono ?_
   rintro e w7 ⟨rfl, hb7⟩
   have hs7 := (((framed_box (by decide)).star (framed_take _ _ _ _ _)).star (framed_store _ _ _ _ _)).below HS6.out hb7
   have HO := hidZ (show Calls Tryz.prog 126 #[ptrN o] w7 fun e w' => e = .returned (.bool false) ∧ w7 = w' from by
    obtain ⟨T1, T2, ⟨T3, T4, -, a2, -⟩, -⟩ := hs7
    exact takeOver_no a2)
   have hFB : Framed (Star (StoreBox bx x) (TakeIs o t 0 false (drawF o))) := (framed_box (by decide)).star (framed_take _ _ _ _ _)
   obtain ⟨g0, d0⟩ := hs7.setB hFB (by decide) 0 (.iface 249 (ptrN o))
   obtain ⟨g1, d1⟩ := g0.setB hFB (by decide) 1 (newF bx)
   obtain ⟨k0, f0⟩ := Star.cellB hs7 (j := 0) (v := .nilIface) rfl
   obtain ⟨k1, f1⟩ := Star.cellB hs7 (j := 1) (v := .nilFunc) rfl
   have kb : w7.cell? ⟨bx, 0, none⟩ = some (ptrN x) := by
    obtain ⟨T1, T2, ⟨T3, T4, a1, -⟩, -⟩ := hs7
    exact Blk.cell0 a1
   have hxb : x ≠ bx := fun e => by
    obtain ⟨T1, T2, ⟨T3, T4, a1, -, -, a4⟩, a5, a6, -⟩ := hs7
    exact a6 bx ((a4 bx).2 (.inl ((a1.2 bx).2 rfl))) ((a5.2 bx).2 e.symm)
   have HF := hidZ (show Made (NewSt t m x) w ((w7.setCell ⟨x, 0, none⟩ (.iface 249 (ptrN o))).setCell ⟨x, 1, none⟩ (newF bx)) from by
    have e1 := HK6.out.2.size
    have e2 := hb7.size
    exact ⟨⟨S6, ⟨(o, bx), g1⟩, HK6.out.1⟩, (HK6.out.2.trans (hb7.mono e1)).trans ((d0.trans d1).below (fun k hk => ⟨by omega, fun e => by have := HK6.out.1 k e; omega⟩))⟩)
   have hsi := fun (t : Nat) (v : Value) (a : Addr) (w : World) => run_store Tryz.prog w a (.iface t v) .plain rfl
   have hsf := fun (fn : Fn) (first cap : Array Value) (a : Addr) (w : World) => run_store Tryz.prog w a (.func fn first cap) .plain rfl
   clear z0 z1 z2 z3 z4 z5 z6 hs7 g0 d0 g1 d1 hFB
   go_wp2_with fail
   refine HO.out.mono ?_
   rintro e w8 ⟨rfl, rfl⟩
   go_wp2_with fail
   go_ret
   exact ⟨_, rfl, HF.out⟩
 ·go_simp
  refine hK.out _ _ (World.rangeAt_alloc hHe _) (fun hHf => ?_)
  clear hK K
  try simp only [tp, tz]
  refine rdy 3 rfl (fun K hK => ?_)
  go_simp
  go_at_call 123
  refine (HH.out _).mono ?_
  rintro e w2 ⟨rfl, hb2⟩
  refine hK.out _ _ (range_below hHf hb2) (fun hHf => ?_)
  clear hK K
  try simp only [tp, tz]
  refine tkz 4 rfl ?_
  try simp only [tp, tz]
  have hr2 := hHf
  have hqx : w2.heap[w1.heap.size]? = some (.cells #[.pointer none] 209 (0, 0)) := boxAt (heap_mem w1.drew _) hb2
  have u0 := (cellsAt hqx 0).1
  have v0 := (cellsAt hqx 0).2
  have hlt := cell_lt u0
  have hbn : ¬ (b0 = w1.heap.size) := fun e => by
   have := (Array.getElem?_eq_some_iff.1 HQ1.out).1
   omega
  have hmb : Made (StoreBox w1.heap.size w2.heap.size) w1.drew (w2.setCell ⟨w1.heap.size, 0, none⟩ (ptrN w2.heap.size)) := by
   obtain ⟨⟨T1, t1, t2⟩, t3⟩ := Made.below (framed_blk _ _ _ (by decide)) (made_blk w1.drew [.pointer none] 209) hb2
   obtain ⟨t4, t5⟩ := Blk.set t1 0 (ptrN w2.heap.size)
   exact ⟨⟨T1, t4, t2⟩, t3.trans (t5.below (fun k hk => ⟨Nat.lt_of_lt_of_le hk t3.size, fun e => by have := t2 k e; omega⟩))⟩
  refine rdy 5 rfl (fun K hK => ?_)
  go_simp
  refine hK.out _ _ (World.rangeAt_alloc hHf _) (fun hHf => ?_)
  clear hK K
  try simp only [tp, tz]
  refine rdy 7 rfl (fun K hK => ?_)
  go_simp
  refine hK.out _ _ (World.rangeAt_alloc (range_keep hr2 ((Chg.refl (fun k => k = w1.heap.size) w2).set (fun _ => rfl) _) hbn) _) (fun hHf => ?_)
  clear hK K
  try simp only [tp, tz]
  refine wpAnyH_done (by kernel_rfl) ?_ _
  obtain ⟨w5, hw5⟩ := xE ((w2.setCell ⟨w1.heap.size, 0, none⟩ (.pointer (some ⟨w2.heap.size, 0, none⟩))).alloc (.cells #[.nilIface, .nilFunc, .nilFunc, .int .u8 3, sv m.key, sv m.value, .int .u32 (m.flags : Int), .int .i64 m.exp, .int .u64 (m.id : Int), .int .u64 (m.by' : Int), .int .u64 (m.h : Int), .int .i64 0, .int .i64 0, .int .i64 0, .int .u8 0, .int .u64 0, .string ⟨#[]⟩, .string ⟨#[]⟩, .int .u32 0, .int .u64 0, .int .i64 0, .int .i64 0, .int .u64 0, .int .i64 0] 248))
  have hM5 : Made (Star (StoreBox w1.heap.size w2.heap.size) (StoreB w2.heap.size .nilIface .nilFunc .nilFunc m)) w w5 := by
   rw [hw5]
   exact Made.later (low_drew1 HB1.out.1) (by
    have h := Made.star (framed_box (by decide)) hmb (HS.out (w2.setCell ⟨w1.heap.size, 0, none⟩ (ptrN w2.heap.size)))
    rw [show (w2.setCell ⟨w1.heap.size, 0, none⟩ (ptrN w2.heap.size)).heap.size = w2.heap.size from by simp [World.setCell]] at h
    exact h)
  rw [← hw5]
  obtain ⟨x, hx⟩ := xE (w2.heap.size)
  obtain ⟨bx, hbx⟩ := xE (w1.heap.size)
  rw [← hx, ← hbx] at hM5 ⊢
  rw [← hw5] at hHf
  clear hx hbx hw5 hz
  obtain ⟨⟨S5, hs5, hk5⟩, hb5⟩ := hM5
  have HS5 := hidZ hs5
  have HK5 := hidZ (And.intro hk5 hb5)
  have HR5 := hidZ hHf
  clear hs5 hk5 hHf
  go_wp2_with fail
  refine (newTake_any t HT.out _).mono ?_
  rintro e w6 ⟨rfl, hm6⟩
  obtain ⟨o, ho⟩ := xE (w5.heap.size)
  rw [← ho] at hm6 ⊢
  have hr6 := range_below HR5.out hm6.2
  have z0 := hr6 0 (.int .u8 3) rfl
  have z1 := hr6 1 (sv m.key) rfl
  have z2 := hr6 2 (sv m.value) rfl
  have z3 := hr6 3 (.int .u32 (m.flags : Int)) rfl
  have z4 := hr6 4 (.int .i64 m.exp) rfl
  have z5 := hr6 5 (.int .u64 (m.id : Int)) rfl
  have z6 := hr6 6 (.int .u64 (m.by' : Int)) rfl
  simp only [Nat.zero_add] at z0 z1 z2 z3 z4 z5 z6
  obtain ⟨S6, hs6, hc6, hk6⟩ := made_in (framed_box (by decide)) (framed_store _ _ _ _ _) HS5.out hm6
  have HS6 := hidZ hs6
  have HK6 := hidZ (show (∀ k, S6 k → w.heap.size ≤ k) ∧ Below w.heap.size w w6 from by
   have e1 := HK5.out.2.size
   exact ⟨fun k hk => (hk6 k hk).elim (HK5.out.1 k) (fun e => Nat.le_trans e1 e), HK5.out.2.trans (hm6.2.mono e1)⟩)
  clear hs6 hc6 hk6 hm6 ho hr6
  go_wp2_with fail
  refine (HMAY.out _).mono ?_
  rintro e w7 ⟨rfl, hb7⟩
  have hs7 := (((framed_box (by decide)).star (framed_take _ _ _ _ _)).star (framed_store _ _ _ _ _)).below HS6.out hb7
  have HO := hidZ (show Calls Tryz.prog 126 #[ptrN o] w7 fun e w' => e = .returned (.bool false) ∧ w7 = w' from by
   obtain ⟨T1, T2, ⟨T3, T4, -, a2, -⟩, -⟩ := hs7
   exact takeOver_no a2)
  have hFB : Framed (Star (StoreBox bx x) (TakeIs o t 0 false (drawF o))) := (framed_box (by decide)).star (framed_take _ _ _ _ _)
  obtain ⟨g0, d0⟩ := hs7.setB hFB (by decide) 0 (.iface 249 (ptrN o))
  obtain ⟨g1, d1⟩ := g0.setB hFB (by decide) 1 (newF bx)
  obtain ⟨k0, f0⟩ := Star.cellB hs7 (j := 0) (v := .nilIface) rfl
  obtain ⟨k1, f1⟩ := Star.cellB hs7 (j := 1) (v := .nilFunc) rfl
  have kb : w7.cell? ⟨bx, 0, none⟩ = some (ptrN x) := by
   obtain ⟨T1, T2, ⟨T3, T4, a1, -⟩, -⟩ := hs7
   exact Blk.cell0 a1
  have hxb : x ≠ bx := fun e => by
   obtain ⟨T1, T2, ⟨T3, T4, a1, -, -, a4⟩, a5, a6, -⟩ := hs7
   exact a6 bx ((a4 bx).2 (.inl ((a1.2 bx).2 rfl))) ((a5.2 bx).2 e.symm)
  have HF := hidZ (show Made (NewSt t m x) w ((w7.setCell ⟨x, 0, none⟩ (.iface 249 (ptrN o))).setCell ⟨x, 1, none⟩ (newF bx)) from by
   have e1 := HK6.out.2.size
   have e2 := hb7.size
   exact ⟨⟨S6, ⟨(o, bx), g1⟩, HK6.out.1⟩, (HK6.out.2.trans (hb7.mono e1)).trans ((d0.trans d1).below (fun k hk => ⟨by omega, fun e => by have := HK6.out.1 k e; omega⟩))⟩)
  have hsi := fun (t : Nat) (v : Value) (a : Addr) (w : World) => run_store Tryz.prog w a (.iface t v) .plain rfl
  have hsf := fun (fn : Fn) (first cap : Array Value) (a : Addr) (w : World) => run_store Tryz.prog w a (.func fn first cap) .plain rfl
  clear z0 z1 z2 z3 z4 z5 z6 hs7 g0 d0 g1 d1 hFB
  go_wp2_with fail
  refine HO.out.mono ?_
  rintro e w8 ⟨rfl, rfl⟩
  go_wp2_with fail
  go_ret
  exact ⟨_, rfl, HF.out⟩
end Go.Proofs.YtnkkoicbnbjlnaaGreatDoor
