/- Both connections beside each other in memory (nestboxlaw32.same). No condition. Rows of acts in memory (nestboxlaw32.Act), and whether they are more than what is gone through (great). No condition. Both connections beside each other: each act's step of the one, then of the other. No condition. -/
import Derived.Test.YtddifbimlmkcbaaGreatDoorCoH
import Derived.Test.YtddifbimlmkcbaaGreatDoorCoE
import Derived.Test.YtddifbimlmkcbaaGreatDoorLowA
import Derived.Test.YtddifbimlmkcbaaGreatDoorLowP
import Derived.Test.YtddifbimlmkcbaaGreatDoorLiB
import Derived.Test.YtddifbimlmkcbaaGreatDoorTypes
namespace Go.Proofs.YtddifbimlmkcbaaGreatDoor
open Go.RowKit Go.ChangeMaps Go.MapKept
/-- Both, made behind the world w; their blocks are apart. -/
structure PlH (w W : World) (p r : Nat) (m : ConnM) (s : RM) (S R : Nat → Prop) : Prop where
  cj : CJ w p m W S
  ref : RIs w.heap.size W r s R
  dis : ∀ k, S k → ¬ R k
section
variable {w W W' : World} {p r : Nat} {m m' : ConnM} {s s' : RM} {S R : Nat → Prop} {B K : Nat}
theorem PlH.below (h : PlH w W p r m s S R) (hb : Below W.heap.size W W') : PlH w W' p r m s S R := ⟨h.cj.below hb, h.ref.below hb, h.dis⟩
theorem PlH.stepC (h : PlH w W p r m s S R) (hs : CStep w.heap.size W p S m' W') : ∃ S', PlH w W' p r m' s S' R ∧ Chg S W W' ∧ ∀ k, S' k → S k ∨ W.heap.size ≤ k := by
  obtain ⟨S', h1, h2, h3⟩ := h.cj.step hs
  refine ⟨S', ⟨h1, h.ref.kept h2 (fun k hk => ⟨h.dis k hk, h.cj.is.no hk (by decide) (by decide) (by decide) (by decide)⟩), fun k hk e => ?_⟩, h2, h3⟩
  rcases h3 k hk with h4 | h4
  · exact h.dis k h4 e
  · have := h.ref.far e
    omega
theorem PlH.stepR (h : PlH w W p r m s S R) (hs : RStep w.heap.size W r R s' W') : ∃ R', PlH w W' p r m s' S R' ∧ Chg R W W' ∧ ∀ k, R' k → R k ∨ W.heap.size ≤ k := by
  obtain ⟨R', h1, h2, h3⟩ := hs
  have hlow : Below w.heap.size w W' := h.cj.low.trans (h2.below (fun k hk => ⟨Nat.lt_of_lt_of_le hk h.cj.low.size, fun e => by have := h.ref.low e; omega⟩))
  refine ⟨R', ⟨⟨h.cj.is.kept h2 (fun k hk => ⟨fun e => h.dis k e hk, h.ref.no hk (by decide) (by decide) (by decide) (by decide)⟩), h.cj.env.chg h2 (fun k hk => h.ref.low hk), hlow⟩, h1, fun k hk e => ?_⟩, h2, h3⟩
  rcases h3 k e with h4 | h4
  · exact h.dis k hk h4
  · have := h.cj.is.far hk
    omega
/-- Whatever else changes. -/
theorem PlH.kept {M : Nat → Prop} (h : PlH w W p r m s S R) (hc : Chg M W W') (hM : ∀ k, M k → ¬ S k ∧ ¬ R k ∧ ¬ Tag W k 9 ∧ w.heap.size ≤ k) : PlH w W' p r m s S R :=
  ⟨⟨h.cj.is.kept hc (fun k hk => ⟨(hM k hk).1, (hM k hk).2.2.1⟩), h.cj.env.chg hc (fun k hk => (hM k hk).2.2.2), h.cj.low.trans (hc.below (fun k hk => ⟨Nat.lt_of_lt_of_le hk h.cj.low.size, fun e => by have := (hM k e).2.2.2; omega⟩))⟩, h.ref.kept hc (fun k hk => ⟨(hM k hk).2.1, (hM k hk).2.2.1⟩), h.dis⟩
theorem rev_ok (b : List UInt8) : ∀ e ∈ (refEv b).1, EvC e := by
  rw [← (feed_all b).1]
  exact (run_okC (bl := b) goodC_new).2
theorem same_sizes (hsm : SameM m s) (hf : FitM B K m) : s.calls.length ≤ 4096 ∧ s.wait.length ≤ B ∧ (∀ e ∈ s.wait, EvC e) ∧ s.out.length ≤ K := by
  refine ⟨by rw [hsm.calls]; exact hf.calls, ?_, ?_, by rw [hsm.out]; exact hf.out⟩
  · by_cases hc : m.calls = []
    · rw [hsm.idle hc]; exact hf.wlen
    · have h1 := hf.wlen
      rw [hsm.busy hc, List.length_cons] at h1
      omega
  · by_cases hc : m.calls = []
    · rw [hsm.idle hc]; exact hf.wok
    · intro e he
      exact hf.wok e (by rw [hsm.busy hc]; exact List.mem_cons_of_mem _ he)
set_option maxRecDepth 100000 in
set_option maxHeartbeats 16000000 in
theorem csame_any (h : PlH w W p r m s S R) (hsm : SameM m s) (hf : FitM B K m) (hB : B ≤ 1000000) : Calls Tryz.prog 28 #[.pointer (some ⟨p, 0, none⟩), .pointer (some ⟨r, 0, none⟩)] W fun e w' => e = .returned (.bool true) ∧ Below W.heap.size W w' := by
  have HO := Lib.hid (out_is (h.cj.is.below (w' := W.drew) (Below.refl _ _).drew))
  have HC := Lib.hid (closed_is (h.cj.is.below (w' := W.drew) (Below.refl _ _).drew))
  have HL := Lib.hid (left_is32 (h.cj.is.below (w' := W.drew) (Below.refl _ _).drew) hf hB)
  obtain ⟨z1, z2, z3, z4⟩ := same_sizes hsm hf
  have HR := Lib.hid (fun V (hV : Below W.heap.size W V) => rLeft_is (h.ref.below hV) ⟨by omega, by omega⟩)
  have hle := same_left hsm
  have hlm : leftM m ≤ 2000000 := by omega
  rw [hle] at HR
  have hout := hsm.out
  have hcl := hsm.closed
  obtain ⟨bv, wv, tk, cv, L, hat, hRR⟩ := h.ref
  have x18 : W.cell? ⟨r, 18, none⟩ = some (sv s.out) := (hat.cell (j := 18) rfl).1
  have x19 : W.cell? ⟨r, 19, none⟩ = some (.bool s.closed) := (hat.cell (j := 19) rfl).1
  rw [hout] at x18
  rw [hcl] at x19
  have hrl := hat.plt
  obtain ⟨n, hn⟩ : ∃ n, n = leftM m := ⟨_, rfl⟩
  rw [← hn] at HR HL hlm
  clear hn hle hout hcl hat hRR h hsm hf z1 z2 z3 z4
  have HBD := Lib.hid (show Below W.heap.size W W.drew from (Below.refl _ _).drew)
  go_enter Tryz.func28, Tryz.ntmps28
  go_upto_region 1 with fail
  refine wp_region_held_drew (S := fun V => V.cell? ⟨r, 18, none⟩ = some (sv m.out) ∧ V.cell? ⟨r, 19, none⟩ = some (.bool m.closed)) (by kernel_rfl) ⟨x18, x19⟩ (fun hHeld => ?_)
  refine tkq (i := 0) (v := ?_) rfl (by kernel_rfl) (fun _ _ _ h => h) (by rfl) ?_ (by assumption) ?_
  rotate_left 1
  · ((intro w hSw; (try dsimp only at hSw); go_simp) <;> with_reducible rfl)
  try simp only [Act.put, tzA, tzB, tzC, tzD, tzE]
  refine tkq (i := 2) (v := ?_) rfl (by kernel_rfl) (fun _ _ _ h => h) (by rfl) ?_ (by assumption) ?_
  rotate_left 1
  · ((intro w hSw; (try dsimp only at hSw); go_simp) <;> with_reducible rfl)
  try simp only [Act.put, tzA, tzB, tzC, tzD, tzE, tzF]
  refine tkq (i := 3) (v := ?_) rfl (by kernel_rfl) (fun _ _ _ h => h) (by rfl) ?_ (by assumption) ?_
  rotate_left 1
  · ((intro w hSw; (try dsimp only at hSw); go_simp) <;> with_reducible rfl)
  try simp only [Act.put, tzA, tzB, tzC, tzD, tzE, tzF]
  refine tkq (i := 4) (v := ?_) rfl (by kernel_rfl) (fun _ _ _ h => h) (by rfl) ?_ (by assumption) ?_
  rotate_left 1
  · ((intro w hSw; (try dsimp only at hSw); go_simp) <;> with_reducible rfl)
  try simp only [Act.put, tzA, tzB, tzC, tzD, tzE, tzF]
  refine tkq (i := 5) (v := ?_) rfl (by kernel_rfl) (fun _ _ _ h => h) (by rfl) ?_ (by assumption) ?_
  rotate_left 1
  · ((intro w hSw; (try dsimp only at hSw); obtain ⟨c0, c1⟩ := hSw; go_simp) <;> with_reducible rfl)
  try simp only [Act.put, tzA, tzB, tzC, tzD, tzE, tzF]
  refine wpAnyH_ready (rs := [1]) (by kernel_rfl) (by simp) ?_
  refine (AllReadyH.cons rfl (fun K hK => ?_) AllReadyH.nil)
  go_simp
  go_at_call 19
  refine (HO.out).mono ?_
  rintro e V1 ⟨rfl, rfl⟩
  refine hK.out _ _ ⟨x18, x19⟩ (fun hHeld2 => ?_)
  clear hK K
  try simp only [Act.put, tzA, tzB, tzC, tzD, tzE, tzF]
  refine tkq (i := 6) (v := ?_) rfl (by kernel_rfl) (fun _ _ _ h => h) (by rfl) ?_ (by assumption) ?_
  rotate_left 1
  · ((intro w hSw; (try dsimp only at hSw); go_simp) <;> with_reducible rfl)
  try simp only [Act.put, tzA, tzB, tzC, tzD, tzE, tzF]
  refine tkq (i := 7) (v := ?_) rfl (by kernel_rfl) (fun _ _ _ h => h) (by rfl) ?_ (by assumption) ?_
  rotate_left 1
  · ((intro w hSw; (try dsimp only at hSw); go_simp) <;> with_reducible rfl)
  try simp only [Act.put, tzA, tzB, tzC, tzD, tzE, tzF]
  refine tkq (i := 8) (v := ?_) rfl (by kernel_rfl) (fun _ _ _ h => h) (by rfl) ?_ (by assumption) ?_
  rotate_left 1
  · ((intro w hSw; (try dsimp only at hSw); go_simp) <;> with_reducible rfl)
  try simp only [Act.put, tzA, tzB, tzC, tzD, tzE, tzF]
  refine tkq (i := 10) (v := ?_) rfl (by kernel_rfl) (fun _ _ _ h => h) (by rfl) ?_ (by assumption) ?_
  rotate_left 1
  · ((intro w hSw; (try dsimp only at hSw); go_simp) <;> with_reducible rfl)
  try simp only [Act.put, tzA, tzB, tzC, tzD, tzE, tzF]
  refine tkq (i := 11) (v := ?_) rfl (by kernel_rfl) (fun _ _ _ h => h) (by rfl) ?_ (by assumption) ?_
  rotate_left 1
  · ((intro w hSw; (try dsimp only at hSw); go_simp) <;> with_reducible rfl)
  try simp only [Act.put, tzA, tzB, tzC, tzD, tzE, tzF]
  refine tkq (i := 12) (v := ?_) rfl (by kernel_rfl) (fun _ _ _ h => h) (by rfl) ?_ (by assumption) ?_
  rotate_left 1
  · ((intro w hSw; (try dsimp only at hSw); go_simp) <;> with_reducible rfl)
  try simp only [Act.put, tzA, tzB, tzC, tzD, tzE, tzF]
  refine tkq (i := 13) (v := ?_) rfl (by kernel_rfl) (fun _ _ _ h => h) (by rfl) ?_ (by assumption) ?_
  rotate_left 1
  · ((intro w hSw; (try dsimp only at hSw); obtain ⟨c0, c1⟩ := hSw; go_simp) <;> with_reducible rfl)
  try simp only [Act.put, tzA, tzB, tzC, tzD, tzE, tzF]
  refine wpAnyH_ready (rs := [9]) (by kernel_rfl) (by simp) ?_
  refine (AllReadyH.cons rfl (fun K hK => ?_) AllReadyH.nil)
  rw [if_pos (by rfl)]
  go_simp
  go_at_call 18
  refine (HC.out).mono ?_
  rintro e V1 ⟨rfl, rfl⟩
  refine hK.out _ _ ⟨x18, x19⟩ (fun hHeld2 => ?_)
  clear hK K
  try simp only [Act.put, tzA, tzB, tzC, tzD, tzE, tzF]
  refine tkq (i := 14) (v := ?_) rfl (by kernel_rfl) (fun _ _ _ h => h) (by rfl) ?_ (by assumption) ?_
  rotate_left 1
  · ((intro w hSw; (try dsimp only at hSw); go_simp) <;> with_reducible rfl)
  try simp only [Act.put, tzA, tzB, tzC, tzD, tzE, tzF]
  refine tkq (i := 15) (v := ?_) rfl (by kernel_rfl) (fun _ _ _ h => h) (by rfl) ?_ (by assumption) ?_
  rotate_left 1
  · ((intro w hSw; (try dsimp only at hSw); go_simp) <;> with_reducible rfl)
  try simp only [Act.put, tzA, tzB, tzC, tzD, tzE, tzF]
  refine tkq (i := 16) (v := ?_) rfl (by kernel_rfl) (fun _ _ _ h => h) (by rfl) ?_ (by assumption) ?_
  rotate_left 1
  · ((intro w hSw; (try dsimp only at hSw); go_simp) <;> with_reducible rfl)
  try simp only [Act.put, tzA, tzB, tzC, tzD, tzE, tzF]
  refine tkq (i := 17) (v := ?_) rfl (by kernel_rfl) (fun _ _ _ h => h) (by rfl) ?_ (by assumption) ?_
  rotate_left 1
  · ((intro w hSw; (try dsimp only at hSw); go_simp) <;> with_reducible rfl)
  try simp only [Act.put, tzA, tzB, tzC, tzD, tzE, tzF]
  refine tkq (i := 19) (v := ?_) rfl (by kernel_rfl) (fun _ _ _ h => h) (by rfl) ?_ (by assumption) ?_
  rotate_left 1
  · ((intro w hSw; (try dsimp only at hSw); go_simp) <;> with_reducible rfl)
  try simp only [Act.put, tzA, tzB, tzC, tzD, tzE, tzF]
  refine wpAnyH_ready (rs := [18]) (by kernel_rfl) (by simp) ?_
  refine (AllReadyH.cons rfl (fun K hK => ?_) AllReadyH.nil)
  rw [if_pos (by rfl)]
  go_simp
  go_at_call 29
  refine (HL.out).mono ?_
  rintro e V1 ⟨rfl, hb1⟩
  have HB1 := Lib.hid (HBD.out.trans (hb1.mono HBD.out.size))
  have d18 := (hb1.cell (p := ⟨r, 18, none⟩) hrl).trans x18
  have d19 := (hb1.cell (p := ⟨r, 19, none⟩) hrl).trans x19
  refine hK.out _ _ ⟨(hb1.cell (p := ⟨r, 18, none⟩) hrl).trans x18, (hb1.cell (p := ⟨r, 19, none⟩) hrl).trans x19⟩ (fun hHeld2 => ?_)
  clear hK K
  try simp only [Act.put, tzA, tzB, tzC, tzD, tzE, tzF]
  refine wpAnyH_ready (rs := [20]) (by kernel_rfl) (by simp) ?_
  refine (AllReadyH.cons rfl (fun K hK => ?_) AllReadyH.nil)
  rw [if_pos (by rfl)]
  go_simp
  go_at_call 45
  refine (HR.out V1 HB1.out).mono ?_
  rintro e V2 ⟨rfl, hb2⟩
  have HB2 := Lib.hid (HB1.out.trans (hb2.mono HB1.out.size))
  refine hK.out _ _ ⟨(hb2.cell (p := ⟨r, 18, none⟩) (Nat.lt_of_lt_of_le hrl HB1.out.size)).trans d18, (hb2.cell (p := ⟨r, 19, none⟩) (Nat.lt_of_lt_of_le hrl HB1.out.size)).trans d19⟩ (fun hHeld2 => ?_)
  clear hK K
  try simp only [Act.put, tzA, tzB, tzC, tzD, tzE, tzF]
  refine tkq (i := 21) (v := ?_) rfl (by kernel_rfl) (fun _ _ _ h => h) (by rfl) ?_ (by assumption) ?_
  rotate_left 1
  · ((intro w hSw; (try dsimp only at hSw); go_simp) <;> with_reducible rfl)
  try simp only [Act.put, tzA, tzB, tzC, tzD, tzE, tzF]
  refine tkq (i := 22) (v := ?_) rfl (by kernel_rfl) (fun _ _ _ h => h) (by rfl) ?_ (by assumption) ?_
  rotate_left 1
  · ((intro w hSw; (try dsimp only at hSw); go_simp) <;> with_reducible rfl)
  try simp only [Act.put, tzA, tzB, tzC, tzD, tzE, tzF]
  refine tkq (i := 23) (v := ?_) rfl (by kernel_rfl) (fun _ _ _ h => h) (by rfl) ?_ (by assumption) ?_
  rotate_left 1
  · ((intro w hSw; (try dsimp only at hSw); go_simp) <;> with_reducible rfl)
  try simp only [Act.put, tzA, tzB, tzC, tzD, tzE, tzF]
  refine wpAnyH_done (by kernel_rfl) ?_ _
  clear hHeld
  clear hHeld2
  go_wp2_with fail
  go_ret
  exact ⟨rfl, HB2.out⟩
end
end Go.Proofs.YtddifbimlmkcbaaGreatDoor
namespace Go.Proofs.YtddifbimlmkcbaaGreatDoor
open Go.RowKit Go.ChangeMaps Go.MapKept
structure PActD where
  kind : Int
  bytes : List UInt8
  ans : AnsD
abbrev pactCells (x : PActD) (bv : Value) : List Value := [.int .u8 x.kind, bv, .int .u8 x.ans.kind, .int .u64 x.ans.number, .string x.ans.item.key, .string x.ans.item.value, .int .u32 x.ans.item.flags, .int .u64 x.ans.item.id, .int .i64 x.ans.item.dies, .int .i64 x.ans.item.gen]
/-- An act whose numbers are of their kinds. -/
structure PActIs (x : PActD) : Prop where
  kind : 0 ≤ x.kind ∧ x.kind ≤ 255
  ans : x.ans.Ok
  key : x.ans.item.key.size ≤ maxLen
  value : x.ans.item.value.size ≤ maxLen
/-- Acts in a row. -/
def PActRow (w : World) (v : Value) (L : List PActD) : Prop :=
  ∃ (a : Option Addr) (c : Nat), v = .slice a L.length c ∧ L.length ≤ maxLen ∧ (∀ x ∈ L, PActIs x) ∧
    ∀ (j : Nat) (x : PActD), L[j]? = some x → ∃ (g o : Nat) (bv : Value), a = some ⟨g, o, none⟩ ∧ g < w.heap.size ∧ w.rangeAt g (o + j * 10) (pactCells x bv) ∧ BRow w bv x.bytes ∧ ∀ k, bv.ownBlock = some k → x.bytes ≠ [] → k < w.heap.size
theorem PActRow.len {w : World} {v : Value} {L : List PActD} (h : PActRow w v L) : ∃ a c, v = .slice a L.length c := by
  obtain ⟨a, c, rfl, _⟩ := h
  exact ⟨a, c, rfl⟩
theorem PActRow.get {w : World} {v : Value} {L : List PActD} (h : PActRow w v L) {j : Nat} {x : PActD} (hj : L[j]? = some x) :
    ∃ (g o c : Nat) (bv : Value), v = .slice (some ⟨g, o, none⟩) L.length c ∧ g < w.heap.size ∧ (∀ k, bv.ownBlock = some k → x.bytes ≠ [] → k < w.heap.size) ∧ (∃ ba bc, bv = .slice ba x.bytes.length bc) ∧ ∀ W, Below w.heap.size w W → W.rangeAt g (o + j * 10) (pactCells x bv) ∧ BRow W bv x.bytes := by
  obtain ⟨a, c, rfl, h1, h2, h3⟩ := h
  obtain ⟨g, o, bv, rfl, hg, hr, hb, hk⟩ := h3 j x hj
  refine ⟨g, o, c, bv, rfl, hg, hk, hb.len, fun W hW => ⟨fun i u hu => ?_, hb.below hW⟩⟩
  rw [World.cell?_of_block (hW.block g hg)]
  exact hr i u hu
/-! ### Plain -/
end Go.Proofs.YtddifbimlmkcbaaGreatDoor
namespace Go.Proofs.YtddifbimlmkcbaaGreatDoor
open Go.RowKit Go.ChangeMaps Go.MapKept
abbrev rconnZero : Array Value := #[.slice none 0 0, .int .i64 0, .slice none 0 0, .int .u8 0, .slice none 0 0, .int .u8 0, .string ⟨#[]⟩, .string ⟨#[]⟩, .int .u32 0, .int .i64 0, .int .u64 0, .int .u64 0, .int .i64 0, .bool false, .string ⟨#[]⟩, .int .i64 0, .slice none 0 0, .bool false, .string ⟨#[]⟩, .bool false]
theorem build_rconn (W : World) : (Instr.build 65 #[]).run Tryz.prog W = .ok (.agg rconnZero) W := by kernel_rfl
theorem rzero_eq : (rcCells (.slice none 0 0) (.slice none 0 0) (.slice none 0 0) (.slice none 0 0) rNew).toArray = rconnZero := by kernel_rfl
def afterR (s : RM) (a : AnsD) : RM := if s.under = true then doneR s a else s
theorem bl_on (s : RM) : (onR s).bl = s.bl := by unfold onR; split <;> rfl
theorem bl_in (s : RM) (b : List UInt8) : (inR s b).bl.length ≤ s.bl.length + b.length := by
  unfold inR
  split
  · omega
  · rw [bl_on]; simp
theorem bl_took (s : RM) : (tookR s).bl = s.bl := by unfold tookR; split <;> rfl
theorem bl_after (s : RM) (a : AnsD) : (afterR s a).bl = s.bl := by
  unfold afterR doneR
  split
  · rw [bl_on]
  · rfl
theorem same_after {m : ConnM} {s : RM} (h : SameM m s) (a : AnsD) : SameM (afterM m a) (afterR s a) := by
  unfold afterM afterR
  rw [h.under]
  split
  · rename_i hu
    exact same_done h a (h.good.under hu)
  · exact h
/-- Both have been told the same. -/
structure Twin (m : ConnM) (s : RM) (B K : Nat) : Prop where
  sm : SameM m s
  fit : FitM B K m
  bl : s.bl.length ≤ B
theorem Twin.new : Twin cNew rNew 0 0 := ⟨same_new, fit_new 0, Nat.le_refl _⟩
section
variable {w W : World} {p r : Nat} {m mm : ConnM} {s : RM} {S R : Nat → Prop} {B K : Nat}
theorem Twin.mono (h : Twin m s B K) {B' K' : Nat} (hB : B ≤ B') (hK : K ≤ K') : Twin m s B' K' := ⟨h.sm, h.fit.mono hB hK, Nat.le_trans h.bl hB⟩
theorem Twin.in (h : Twin m s B K) (b : List UInt8) : Twin (inM m b) (inR s b) (B + b.length) (K + 200 * (B + b.length)) := ⟨same_in h.sm b, (h.fit.in b).1, by have := bl_in s b; have := h.bl; omega⟩
theorem Twin.took (h : Twin m s B K) : Twin (tookM m) (tookR s) B K := ⟨same_took h.sm, h.fit.took, by rw [bl_took]; exact h.bl⟩
theorem Twin.after (h : Twin m s B K) {a : AnsD} (ha : a.Ok) (hs : a.item.key.size + a.item.value.size ≤ 1048576) : Twin (afterM m a) (afterR s a) B (K + 2300000 + 200 * B) := ⟨same_after h.sm a, (h.fit.after ha hs).1, by rw [bl_after]; exact h.bl⟩
/-- The two in memory, new. -/
theorem PlH.new (h : CJ w p cNew W S) : ∃ R, PlH w (W.alloc (.cells rconnZero 65)) p W.heap.size cNew rNew S R := by
  refine ⟨RS W.heap.size (.slice none 0 0) (.slice none 0 0) (.slice none 0 0), h.below ((Below.refl _ _).alloc (Nat.le_refl _) _), RAt.is (L := []) (tk := .slice none 0 0) ⟨h.low.size, ?_, ?_, ?_, rfl, MidRow.nil _ _ _ _, (fun _ hx => nomatch hx), ⟨_, _, _, rfl⟩, MidRow.nil _ _ _ _⟩, fun k hk hr => ?_⟩
  · rw [heap_at, if_pos rfl, rzero_eq]
  · exact ⟨none, 0, rfl, Nat.le_refl _, by unfold maxLen; omega, fun _ => rfl, .inl rfl⟩
  · intro g hg; simp [Value.ownBlock] at hg
  · have := h.is.far hk
    rcases hr with e | e | e | e
    · omega
    all_goals simp [Value.ownBlock] at e
theorem PlH.in2 (h : PlH w W p r mm s S R) (ht : Twin m s B K) {bv : Value} {bl : List UInt8} (hB : B + bl.length ≤ 1000000) (hK : K ≤ 1000000000000) (hb : BRow W bv bl) :
    Calls Tryz.prog 23 #[.pointer (some ⟨r, 0, none⟩), bv] W fun e V => (∃ v, e = .returned v) ∧ ∃ R', PlH w V p r mm (inR s bl) S R' ∧ Chg R W V ∧ ∀ k, R' k → R k ∨ W.heap.size ≤ k := by
  obtain ⟨-, z2, z3, z4⟩ := same_sizes ht.sm ht.fit
  refine (rIn_any h.ref h.cj.low.size (by have := ht.bl; omega) hb z3 (rev_ok _) (by omega) (by omega)).mono ?_
  rintro e V ⟨hv, hst⟩
  exact ⟨hv, h.stepR hst⟩
end
end Go.Proofs.YtddifbimlmkcbaaGreatDoor
