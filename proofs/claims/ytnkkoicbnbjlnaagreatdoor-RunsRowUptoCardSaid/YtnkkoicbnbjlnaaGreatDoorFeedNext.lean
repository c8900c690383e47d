/- A feed's next byte: a line is gathered, data is, all ways. Condition: the library's variables MaxLen and ErrRange are as they are laid; less than 2^20 bytes are held. -/
import Derived.Test.YtnkkoicbnbjlnaaGreatDoorFeedLine
import Derived.Test.YtnkkoicbnbjlnaaGreatDoorShelf
import Derived.Test.YtnkkoicbnbjlnaaGreatDoorLowA
namespace Go.Proofs.YtnkkoicbnbjlnaaGreatDoor
set_option maxRecDepth 100000
set_option maxHeartbeats 8000000
open Go.RowKit Go.ChangeMaps Go.MapKept
theorem infoByte : (Tryz.prog.info? 5).map (fun i => (i.zero, i.size, i.bytes)) = some (some (.int .u8 0), 1, 1) := by kernel_rfl
theorem conv_nil (W : World) : (convert 47 9 (.slice none 0 0)).run Tryz.prog W = .ok (sv []) W := by kernel_rfl
theorem conv_row {w : World} {B : Nat} {v : Value} {L : List UInt8} (h : w.ownsRow B 5 1 v L.length (L.map u8v)) : (convert 47 9 v).run Tryz.prog w = .ok (sv L) w := by
 rcases h.2 with ⟨rfl, h0⟩ | ⟨g, cap, cur, rfl, hg, hh, hn, hm, hs, ht⟩
 ·obtain rfl : L = [] := List.eq_nil_of_length_eq_zero h0
  exact conv_nil w
 ·have := h.cells (g := g) rfl
  exact convert_new L cap g w (fun j x hx => by
   have h1 := this j (u8v x) (by rw [List.getElem?_map, hx]; rfl)
   rwa [show (⟨g, 0, none⟩ : Addr).add j = ⟨g, j, none⟩ from by simp [Addr.add]; omega] at h1)
theorem trim_cr (l : List UInt8) : Lib.trimSuffix l [13] = trimCr l := by
 rcases List.eq_nil_or_concat l with rfl | ⟨r, c, rfl⟩
 ·rfl
 ·unfold Lib.trimSuffix trimCr
  rw [List.concat_eq_append, List.getLast?_concat, List.dropLast_concat]
  by_cases hc : c = 13
  ·subst hc
   rw [if_pos (by unfold Lib.hasSuffix; rw [List.isSuffixOf_iff_suffix]; exact ⟨r, rfl⟩), if_pos rfl]
   simp
  ·rw [if_neg (fun h => ?_), if_neg (by simpa using hc)]
   unfold Lib.hasSuffix at h
   rw [List.isSuffixOf_iff_suffix] at h
   obtain ⟨q, hq⟩ := h
   have := congrArg List.getLast? hq
   rw [List.getLast?_concat, List.getLast?_concat] at this
   exact hc (Option.some.inj this).symm
theorem row_slice {w : World} {B : Nat} {e : TypeId} {sz n : Nat} {v : Value} {xs : List Value} (h : w.ownsRow B e sz v n xs) : ∃ a c, v = .slice a n c := by
 rcases h.2 with ⟨rfl, rfl⟩ | ⟨g, cap, cur, rfl, _⟩
 ·exact ⟨none, 0, rfl⟩
 ·exact ⟨_, cap, rfl⟩
theorem FeedAt.pushed {n₀ : Nat} {W w1 : World} {p : Nat} {t : TypeId} {rest : List Value} {hv ks : Value} {st : FSt} (h : FeedAt n₀ W p t rest hv ks st) {g cap : Nat} {c : UInt8} {o : Obj}
  (hown : w1.ownsRow n₀ 5 1 (.slice (some ⟨g, 0, none⟩) (st.held.length + 1) cap) (st.held.length + 1) (st.held.map u8v ++ [u8v c])) (hgr : (W.alloc o).grownBy w1 hv.ownBlock) (hat : hv.ownBlock = some g ∨ g = (W.alloc o).heap.size) :
  w1.cell? ⟨p, 1, none⟩ = some hv ∧ w1.frozen? ⟨p, 1, none⟩ = false ∧
  FeedAt n₀ (w1.setCell ⟨p, 1, none⟩ (.slice (some ⟨g, 0, none⟩) (st.held.length + 1) cap)) p t rest (.slice (some ⟨g, 0, none⟩) (st.held.length + 1) cap) ks { st with held := st.held ++ [c] } ∧
  Chg (FM p hv) W (w1.setCell ⟨p, 1, none⟩ (.slice (some ⟨g, 0, none⟩) (st.held.length + 1) cap)) ∧
  (∀ k, (Value.slice (some ⟨g, 0, none⟩) (st.held.length + 1) cap).ownBlock = some k → hv.ownBlock = some k ∨ W.heap.size ≤ k) := by
 have hc1 : Chg (fun k => hv.ownBlock = some k) W w1 := ((Chg.refl _ _).alloc o).then (M' := fun k => hv.ownBlock = some k) (Chg.of_grown hgr (fun _ _ e => e)) (fun _ _ e => e)
 have hb1 : FeedBox w1 p t rest (st.way : Int) hv ks st.cmd (st.many : Int) := h.box.kept hc1 (fun e => h.apart e)
 have hk1 : KeysAt w1 ks st.cmd.keys := h.keys.kept hc1 (fun k hk e => absurd ((h.keys.tag hk).one (owns_tag h.held e)) (by decide))
 have hgp : (Value.slice (some ⟨g, 0, none⟩) (st.held.length + 1) cap).ownBlock ≠ some p := fun e => h.tb (hb1.tag.one (owns_tag hown e))
 have hs := set_chg w1 p 1 (.slice (some ⟨g, 0, none⟩) (st.held.length + 1) cap)
 refine ⟨hb1.cell rfl, hb1.free 1, ⟨h.low, hb1.setHeld _, ?_, ?_, h.tb, h.ts⟩, (hc1.mono (M' := FM p hv) (fun _ _ e => .inr e)).then hs (fun _ _ e => .inl e), ?_⟩
 ·have := owns_grow hown hs (fun k hk e => hgp (by rw [hk, e]))
  simpa using this
 ·exact hk1.kept hs (fun k hk e => by subst e; exact h.ts (hb1.tag.one (hk1.tag hk)))
 ·intro k hk
  obtain rfl : g = k := by simpa [Value.ownBlock] using hk
  rcases hat with hat | hat
  ·exact .inl hat
  ·right
   rw [hat]; simp
theorem does_of {n₀ : Nat} {w w' w3 : World} {p q : Nat} {t : TypeId} {rest : List Value} {hv hv' ks' : Value} {st' : FSt} {cs : Array Value} {o : Obj} (hq : w.heap.size = q) (hp : p < w.heap.size) (h' : FeedAt n₀ w' p t rest hv' ks' st') (hc : Chg (FM p hv) (w.alloc o) w')
  (hb : w'.heap[q]? = some (.cells cs 206 (0, 0))) (hg : w'.grownBy w3 (some q)) : FeedAt n₀ w3 p t rest hv' ks' st' ∧ Chg (FM p hv) w w3 ∧ Chg (fun k => k = q) w' w3 :=
 does_box hp h' (((Chg.refl _ _).alloc o).then hc (fun _ _ e => e)) (by omega) hb hg
theorem gathers_any {n₀ : Nat} {w : World} {p : Nat} {t : TypeId} {rest : List Value} {hv ks : Value} {st : FSt} (h : FeedAt n₀ w p t rest hv ks st) (hE : Env n₀ w) (hn : n₀ ≤ w.heap.size) (hl : st.held.length < 1048576) (c : UInt8) :
  Calls Tryz.prog 148 #[.pointer (some ⟨p, 0, none⟩), .int .u8 (c.toNat : Int)] w (Does n₀ w p t rest hv (gatherF st c)) := by
 have hp : p < w.heap.size := h.plt
 obtain ⟨i0, hi, hz0, hz1, hz2⟩ := info_parts infoByte
 obtain ⟨ha, hc, rfl⟩ := row_slice h.held
 have h0 := h.alloc (.cells evZero 206)
 have hE0 : Env n₀ (w.alloc (.cells evZero 206)) := hE.chg (M := fun _ => False) ((Chg.refl _ _).alloc _) (fun _ e => e.elim)
 have hbx : (w.alloc (.cells evZero 206)).heap[w.heap.size]? = some (.cells evZero 206 (0, 0)) := heap_alloc_new _ _
 have hfq : ¬ FM p (.slice ha st.held.length hc) w.heap.size := by
  rintro (e | e)
  ·omega
  ·have := (owns_tag h.held e).lt
   omega
 have ht := ten_test c
 have c1 : w.cell? ⟨p, 1, none⟩ = some (.slice ha st.held.length hc) := h.box.cell rfl
 have hcv := conv_row h0.held
 have H0 := hidZ h0
 have HE0 := hidZ hE0
 have HX0 := hidZ hbx
 have HFQ := hidZ hfq
 have Hi := hidZ hi
 have Hz := hidZ (And.intro hz0 (And.intro hz1 hz2))
 have HSI := hidZ hn
 clear h h0 hE0 hbx hfq hE hi hz0 hz1 hz2 hn
 by_cases hx : c = 10
 ·rw [decide_eq_true hx] at ht
  have hg : gatherF st c = lineF st (trimCr st.held) := by unfold gatherF; rw [if_pos hx]
  have HG := hidZ hg
  clear hx hg
  go_enter Tryz.func148, Tryz.ntmps148
  go_wp2_with fail
  refine (Tryz.strings_TrimSuffix ⟨st.held.toArray⟩ ⟨#[13]⟩ _ (by rw [sv_size]; omega)).mono ?_
  rintro e w1 ⟨rfl, rfl⟩
  rw [show Lib.trimSuffix (⟨st.held.toArray⟩ : ByteArray).data.toList (⟨#[13]⟩ : ByteArray).data.toList = trimCr st.held from trim_cr st.held]
  clear hcv
  go_wp2_with fail
  refine (feedLine_any H0.out HE0.out (trimCr st.held) (by have : (trimCr st.held).length ≤ st.held.length := (by unfold trimCr; split <;> simp); omega)).mono ?_
  rintro e w2 ⟨hv', ks', h', hc', hf', hs'⟩
  have hx2 := hc'.obj HX0.out HFQ.out
  have H' := hidZ h'
  have HC' := hidZ hc'
  have HF' := hidZ hf'
  clear h' hc' hf' c1
  rcases hs' with ⟨hes, rfl⟩ | ⟨ev, ke, hes, rfl, hk⟩
  ·have HES := hidZ hes
   clear hes
   go_wp2_with (first
    | ((with_reducible show wpList _ _ _ (⟨none, Op.store _ _ _, _, _, _, _⟩ :: _) _ _); refine wpList_store_whole (by rfl) 206 (.tmp 4) (.tmp 17) (by rfl) w.heap.size (by rfl) (evCells (.slice none 0 0) (toldE 0)).toArray (by rfl) _ 206 hx2 (by rfl) (by kernel_rfl) (by simp [Value.oneCell']) ?_; intro w3 hr3 hg3 hs3)
    | ((with_reducible show bodyPost _ _ _ Exit.ret _ _); exact bodyPost_ret (v := .tuple #[evV (.slice none 0 0) (toldE 0), .bool false]) (results_row_tmp rfl _ _ w.heap.size _ _ _ _ (by rfl) hr3 Tryz.underlying206 rfl (by kernel_rfl) _ (by rfl)) rfl (by
      rw [HG.out]
      obtain ⟨q1, q2, q3⟩ := does_of rfl hp H'.out HC'.out hx2 hg3
      exact ⟨_, _, q1, q2, fun g e => (HF'.out g e).imp id (fun q => by simp at q; omega), .inl ⟨HES.out, rfl⟩⟩))
    | fail)
  ·have HES := hidZ hes
   obtain ⟨ka, kc, hka⟩ := hk.len
   have hk1 : ke.oneCell' = true := by rw [hka]; rfl
   have HK := hidZ hk
   clear hes hka hk
   go_wp2_with (first
    | ((with_reducible show wpList _ _ _ (⟨none, Op.store _ _ _, _, _, _, _⟩ :: _) _ _); refine wpList_store_whole (by rfl) 206 (.tmp 4) (.tmp 17) (by rfl) w.heap.size (by rfl) (evCells ke ev).toArray (by rfl) _ 206 hx2 (by rfl) (by kernel_rfl) (by simp [Value.oneCell']; exact hk1) ?_; intro w3 hr3 hg3 hs3)
    | ((with_reducible show bodyPost _ _ _ Exit.ret _ _); exact bodyPost_ret (v := .tuple #[evV ke ev, .bool true]) (results_row_tmp rfl _ _ w.heap.size _ _ _ _ (by rfl) hr3 Tryz.underlying206 rfl (by kernel_rfl) _ (by rfl)) rfl (by
      rw [HG.out]
      obtain ⟨q1, q2, q3⟩ := does_of rfl hp H'.out HC'.out hx2 hg3
      exact ⟨_, _, q1, q2, fun g e => (HF'.out g e).imp id (fun q => by simp at q; omega), .inr ⟨ev, ke, HES.out, rfl, HK.out.kept q3 (fun g hg e => by subst e; exact absurd ((Tag.of hx2).one (HK.out.tag hg)) (by decide))⟩⟩))
    | fail)
 ·rw [decide_eq_false hx] at ht
  by_cases hm : st.held.length = 2048
  ·have hme : ((st.held.length : Int) == 2048) = true := by rw [hm]; rfl
   have hg : gatherF st c = (beginF st 4, [toldE 3]) := by unfold gatherF; rw [if_neg hx, if_pos hm]
   have HG := hidZ hg
   have h2 := H0.out.begun 4
   have hc2 : Chg (FM p (.slice ha st.held.length hc)) w (begunW (w.alloc (.cells evZero 206)) p 4) := begun_chg ((Chg.refl _ _).alloc _) (fun _ => .inl rfl) 4
   have hx2 : (begunW (w.alloc (.cells evZero 206)) p 4).heap[w.heap.size]? = some (.cells evZero 206 (0, 0)) := (begun_only _ p 4).obj HX0.out (by omega)
   have H2 := hidZ h2
   have HC2 := hidZ hc2
   have HX2 := hidZ hx2
   clear hx hg hm hcv h2 hc2 hx2
   go_enter Tryz.func148, Tryz.ntmps148
   go_wp2_with fail
   refine (begin_any H0.out.box 4).mono ?_
   rintro e w1 ⟨⟨v, rfl⟩, rfl⟩
   have hx2 := HX2.out
   change Hid (FeedAt n₀ (begunW (w.alloc (.cells evZero 206)) p 4) _ _ _ _ _ _) at H2
   generalize begunW (w.alloc (.cells evZero 206)) p 4 = W2 at *
   go_wp2_with (first
    | ((with_reducible show wpList _ _ _ (⟨none, Op.store _ _ _, _, _, _, _⟩ :: _) _ _); refine wpList_store_whole (by rfl) 206 (.tmp 4) (.tmp 28) (by rfl) w.heap.size (by rfl) (evCells (.slice none 0 0) (toldE 3)).toArray (by rfl) _ 206 hx2 (by rfl) (by kernel_rfl) (by simp [Value.oneCell']) ?_; intro w3 hr3 hg3 hs3)
    | ((with_reducible show bodyPost _ _ _ Exit.ret _ _); exact bodyPost_ret (v := .tuple #[evV (.slice none 0 0) (toldE 3), .bool true]) (results_row_tmp rfl _ _ w.heap.size _ _ _ _ (by rfl) hr3 Tryz.underlying206 rfl (by kernel_rfl) _ (by rfl)) rfl (by
      rw [HG.out]
      obtain ⟨q1, q2, q3⟩ := does_box hp H2.out HC2.out (Nat.le_refl _) HX2.out hg3
      exact ⟨_, _, q1, q2, nil_fresh, .inr ⟨toldE 3, .slice none 0 0, rfl, rfl, Row.nil _ _ _⟩⟩))
    | fail)
  ·have hme : ((st.held.length : Int) == 2048) = false := by rw [beq_eq_false_iff_ne]; omega
   have hg : gatherF st c = ({ st with held := st.held ++ [c] }, []) := by unfold gatherF; rw [if_neg hx, if_neg hm]
   have HG := hidZ hg
   clear hx hg hm hcv
   go_enter Tryz.func148, Tryz.ntmps148
   go_wp2_with (first
    | (at_builtin; refine wpList_append_lies _ (by rfl) _ _ 47 (by rfl) n₀ 5 i0 _ 1 1 Tryz.underlying47 Hi.out Hz.out.1 Hz.out.2.1 Hz.out.2.2 rfl (by omega) (.slice ha st.held.length hc) st.held.length (st.held.map u8v) (by rfl) (H0.out.held.alloc _) ⟨w.heap.size + 1, 0, none⟩ 1 1 [u8v c] (by rfl) (by rfl) (World.news_of_block (cs := #[u8v c]) (t := 5) (fr := (0, 0)) (by rw [show w.heap.size + 1 = (w.alloc (.cells evZero 206)).heap.size from by simp]; exact heap_alloc_new _ _)) (by simp [Value.oneCell']) (by omega) (by unfold maxLen; omega) (by omega) (by have := HSI.out; simp; omega) _ rfl ?_; intro g1 cap1 w1 hown1 hg1 hat1 hlt1; obtain ⟨cw, fw, hpu, hcu, hfu⟩ := H0.out.pushed hown1 hg1 hat1; have hx2 := hcu.obj HX0.out HFQ.out; have HPU := hidZ hpu; have HCU := hidZ hcu; have HFU := hidZ hfu; clear hpu hcu hfu hat1 hown1 hg1 hlt1)
    | ((with_reducible show wpList _ _ _ (⟨none, Op.store _ (.tmp 4) _, _, _, _, _⟩ :: _) _ _); refine wpList_store_whole (by rfl) 206 (.tmp 4) (.tmp 39) (by rfl) w.heap.size (by rfl) (evCells (.slice none 0 0) (toldE 0)).toArray (by rfl) _ 206 hx2 (by rfl) (by kernel_rfl) (by simp [Value.oneCell']) ?_; intro w3 hr3 hg3 hs3)
    | ((with_reducible show bodyPost _ _ _ Exit.ret _ _); exact bodyPost_ret (v := .tuple #[evV (.slice none 0 0) (toldE 0), .bool false]) (results_row_tmp rfl _ _ w.heap.size _ _ _ _ (by rfl) hr3 Tryz.underlying206 rfl (by kernel_rfl) _ (by rfl)) rfl (by
      rw [HG.out]
      obtain ⟨q1, q2, q3⟩ := does_of rfl hp HPU.out HCU.out hx2 hg3
      exact ⟨_, _, q1, q2, fun g e => (HFU.out g e).imp id (fun q => by simp at q; omega), .inl ⟨rfl, rfl⟩⟩))
    | fail)
def GoodF (st : FSt) : Prop := st.way ≤ 5 ∧ (st.way = 5 → 1 ≤ st.many ∧ st.many ≤ 2147483649)
theorem byte_test (x k : UInt8) : ((x.toNat : Int) == (k.toNat : Int)) = decide (x = k) := by
 by_cases h : x = k
 ·rw [h, decide_eq_true rfl]; simp
 ·rw [decide_eq_false h, beq_eq_false_iff_ne]
  intro e
  exact h (UInt8.toNat_inj.1 (by omega))
theorem next_any {n₀ : Nat} {w : World} {p : Nat} {t : TypeId} {rest : List Value} {hv ks : Value} {st : FSt} (h : FeedAt n₀ w p t rest hv ks st) (hE : Env n₀ w) (hn : n₀ ≤ w.heap.size) (hl : st.held.length < 1048576) (hgd : GoodF st) (c : UInt8) :
  Calls Tryz.prog 120 #[.pointer (some ⟨p, 0, none⟩), .int .u8 (c.toNat : Int)] w (Does n₀ w p t rest hv (stepF st c)) := by
 have hp : p < w.heap.size := h.plt
 obtain ⟨i0, hi, hz0, hz1, hz2⟩ := info_parts infoByte
 obtain ⟨ha, hc, rfl⟩ := row_slice h.held
 obtain ⟨ka0, kc0, rfl⟩ := h.keys.len
 have h0 := h.alloc (.cells evZero 206)
 have hE0 : Env n₀ (w.alloc (.cells evZero 206)) := hE.chg (M := fun _ => False) ((Chg.refl _ _).alloc _) (fun _ e => e.elim)
 have hbx : (w.alloc (.cells evZero 206)).heap[w.heap.size]? = some (.cells evZero 206 (0, 0)) := heap_alloc_new _ _
 have hfq : ¬ FM p (.slice ha st.held.length hc) w.heap.size := by
  rintro (e | e)
  ·omega
  ·have := (owns_tag h.held e).lt
   omega
 have hc0 : Chg (FM p (.slice ha st.held.length hc)) w (w.alloc (.cells evZero 206)) := (Chg.refl _ _).alloc _
 have ht := ten_test c
 have ht3 : ((c.toNat : Int) == 13) = decide (c = 13) := byte_test c 13
 have c0 : w.cell? ⟨p, 0, none⟩ = some (.int .i64 (st.way : Int)) := h.box.cell rfl
 have H0 := hidZ h0
 have HE0 := hidZ hE0
 have HX0 := hidZ hbx
 have HFQ := hidZ hfq
 have HC0 := hidZ hc0
 have Hi := hidZ hi
 have Hz := hidZ (And.intro hz0 (And.intro hz1 hz2))
 have HSI := hidZ hn
 have HBX := hidZ h.box
 have HW := hidZ h
 clear h h0 hE0 hbx hfq hE hi hz0 hz1 hz2 hn hc0
 obtain ⟨hw5, hmany⟩ := hgd
 have hways : st.way = 0 ∨ st.way = 1 ∨ st.way = 2 ∨ st.way = 3 ∨ st.way = 4 ∨ st.way = 5 := by omega
 rcases hways with hway | hway | hway | hway | hway | hway
 ·-- way 0
  have e0 : ((st.way : Int) == 0) = true := by rw [hway]; rfl
  have e1 : ((st.way : Int) == 1) = false := by rw [hway]; rfl
  have e2 : ((st.way : Int) == 2) = false := by rw [hway]; rfl
  have e3 : ((st.way : Int) == 3) = false := by rw [hway]; rfl
  have e4 : ((st.way : Int) == 4) = false := by rw [hway]; rfl
  have e5 : ((st.way : Int) == 5) = false := by rw [hway]; rfl
  have hg : stepF st c = gatherF st c := by unfold stepF; rw [if_pos hway]
  have HG := hidZ hg
  clear hg hway hmany ht ht3 hw5
  go_enter Tryz.func120, Tryz.ntmps120
  go_wp2_with fail
  refine (gathers_any H0.out HE0.out (by have := HSI.out; simp; omega) hl c).mono ?_
  rintro e w2 ⟨hv', ks', h', hc', hf', hs'⟩
  have hx2 := hc'.obj HX0.out HFQ.out
  have H' := hidZ h'
  have HC' := hidZ hc'
  have HF' := hidZ hf'
  clear h' hc' hf'
  rcases hs' with ⟨hes, rfl⟩ | ⟨ev, ke, hes, rfl, hk⟩
  ·have HES := hidZ hes
   clear hes
   go_wp2_with (first
    | ((with_reducible show wpList _ _ _ (⟨none, Op.store _ (.tmp 4) _, _, _, _, _⟩ :: _) _ _); refine wpList_store_whole (by rfl) 206 (.tmp 4) (.tmp 16) (by rfl) w.heap.size (by rfl) (evCells (.slice none 0 0) (toldE 0)).toArray (by rfl) _ 206 hx2 (by rfl) (by kernel_rfl) (by simp [Value.oneCell']) ?_; intro w3 hr3 hg3 hs3)
    | ((with_reducible show bodyPost _ _ _ Exit.ret _ _); exact bodyPost_ret (v := .tuple #[evV (.slice none 0 0) (toldE 0), .bool false]) (results_row_tmp rfl _ _ w.heap.size _ _ _ _ (by rfl) hr3 Tryz.underlying206 rfl (by kernel_rfl) _ (by rfl)) rfl (by
      rw [HG.out]
      obtain ⟨q1, q2, q3⟩ := does_of rfl hp H'.out HC'.out hx2 hg3
      exact ⟨_, _, q1, q2, fun g e => (HF'.out g e).imp id (fun q => by simp at q; omega), .inl ⟨HES.out, rfl⟩⟩))
    | fail)
  ·have HES := hidZ hes
   obtain ⟨ka, kc, hka⟩ := hk.len
   have hk1 : ke.oneCell' = true := by rw [hka]; rfl
   have HK := hidZ hk
   clear hes hka hk
   go_wp2_with (first
    | ((with_reducible show wpList _ _ _ (⟨none, Op.store _ (.tmp 4) _, _, _, _, _⟩ :: _) _ _); refine wpList_store_whole (by rfl) 206 (.tmp 4) (.tmp 16) (by rfl) w.heap.size (by rfl) (evCells ke ev).toArray (by rfl) _ 206 hx2 (by rfl) (by kernel_rfl) (by simp [Value.oneCell']; exact hk1) ?_; intro w3 hr3 hg3 hs3)
    | ((with_reducible show bodyPost _ _ _ Exit.ret _ _); exact bodyPost_ret (v := .tuple #[evV ke ev, .bool true]) (results_row_tmp rfl _ _ w.heap.size _ _ _ _ (by rfl) hr3 Tryz.underlying206 rfl (by kernel_rfl) _ (by rfl)) rfl (by
      rw [HG.out]
      obtain ⟨q1, q2, q3⟩ := does_of rfl hp H'.out HC'.out hx2 hg3
      exact ⟨_, _, q1, q2, fun g e => (HF'.out g e).imp id (fun q => by simp at q; omega), .inr ⟨ev, ke, HES.out, rfl, HK.out.kept q3 (fun g hg e => by subst e; exact absurd ((Tag.of hx2).one (HK.out.tag hg)) (by decide))⟩⟩))
    | fail)
 ·-- way 1
  have e0 : ((st.way : Int) == 0) = false := by rw [hway]; rfl
  have e1 : ((st.way : Int) == 1) = true := by rw [hway]; rfl
  have e2 : ((st.way : Int) == 2) = false := by rw [hway]; rfl
  have e3 : ((st.way : Int) == 3) = false := by rw [hway]; rfl
  have e4 : ((st.way : Int) == 4) = false := by rw [hway]; rfl
  have e5 : ((st.way : Int) == 5) = false := by rw [hway]; rfl
  have hg : stepF st c = (fullF { st with held := st.held ++ [c] }, []) := by
   unfold stepF
   rw [if_neg (by omega), if_pos hway]
  have HG := hidZ hg
  have c1 : w.cell? ⟨p, 1, none⟩ = some (.slice ha st.held.length hc) := HBX.out.cell rfl
  clear hg hway hmany ht ht3 hw5
  go_enter Tryz.func120, Tryz.ntmps120
  go_wp2_with (first
   | (at_builtin; refine wpList_append_lies _ (by rfl) _ _ 47 (by rfl) n₀ 5 i0 _ 1 1 Tryz.underlying47 Hi.out Hz.out.1 Hz.out.2.1 Hz.out.2.2 rfl (by omega) (.slice ha st.held.length hc) st.held.length (st.held.map u8v) (by rfl) (H0.out.held.alloc _) ⟨w.heap.size + 1, 0, none⟩ 1 1 [u8v c] (by rfl) (by rfl) (World.news_of_block (cs := #[u8v c]) (t := 5) (fr := (0, 0)) (by rw [show w.heap.size + 1 = (w.alloc (.cells evZero 206)).heap.size from by simp]; exact heap_alloc_new _ _)) (by simp [Value.oneCell']) (by omega) (by unfold maxLen; omega) (by omega) (by have := HSI.out; simp; omega) _ rfl ?_; intro g1 cap1 w1 hown1 hg1 hat1 hlt1; obtain ⟨cw, fw, hpu, hcu, hfu⟩ := H0.out.pushed hown1 hg1 hat1; have hx2 := hcu.obj HX0.out HFQ.out; have HPU := hidZ hpu; have HCU := hidZ hcu; have HFU := hidZ hfu; clear hpu hcu hfu hat1 hown1 hg1 hlt1)
   | fail)
  have HX2 := hidZ hx2
  clear hx2 cw fw
  generalize w1.setCell ⟨p, 1, none⟩ (.slice (some ⟨g1, 0, none⟩) (st.held.length + 1) cap1) = W2 at *
  refine (full_any HPU.out.box).mono ?_
  rintro e w6 ⟨⟨v6, rfl⟩, m6, rfl⟩
  have h6 := (HPU.out.drewN m6).filled
  rw [show (st.held ++ [c]).length = st.held.length + 1 from by simp] at h6
  change FeedAt n₀ (fullW (W2.drewN m6) p (st.held.length + 1) st.cmd) _ _ _ _ _ _ at h6
  have hc6 : Chg (FM p (.slice ha st.held.length hc)) w (fullW (W2.drewN m6) p (st.held.length + 1) st.cmd) := HC0.out.then (fullW_chg (HCU.out.drewN m6) (fun _ => .inl rfl)) (fun _ _ e => e)
  have hx6 : (fullW (W2.drewN m6) p (st.held.length + 1) st.cmd).heap[w.heap.size]? = some (.cells evZero 206 (0, 0)) :=
   (fullW_chg (M := fun k => k = p) ((Chg.refl _ W2).drewN m6) (fun _ => rfl)).obj HX2.out (by omega)
  have H6 := hidZ h6
  have HC6 := hidZ hc6
  clear h6 hc6
  change (fullW (W2.drewN m6) p (st.held.length + 1) st.cmd).heap[w.heap.size]? = _ at hx6
  generalize fullW (W2.drewN m6) p (st.held.length + 1) st.cmd = W6 at *
  go_wp2_with (first
   | ((with_reducible show wpList _ _ _ (⟨none, Op.store _ (.tmp 4) _, _, _, _, _⟩ :: _) _ _); refine wpList_store_whole (by rfl) 206 (.tmp 4) (.tmp 88) (by rfl) w.heap.size (by rfl) (evCells (.slice none 0 0) (toldE 0)).toArray (by rfl) _ 206 hx6 (by rfl) (by kernel_rfl) (by simp [Value.oneCell']) ?_; intro w3 hr3 hg3 hs3)
   | ((with_reducible show bodyPost _ _ _ Exit.ret _ _); exact bodyPost_ret (v := .tuple #[evV (.slice none 0 0) (toldE 0), .bool false]) (results_row_tmp rfl _ _ w.heap.size _ _ _ _ (by rfl) hr3 Tryz.underlying206 rfl (by kernel_rfl) _ (by rfl)) rfl (by
        rw [HG.out]
        obtain ⟨q1, q2, q3⟩ := does_box hp H6.out HC6.out (Nat.le_refl _) hx6 hg3
        exact ⟨_, _, q1, q2, fun g e => (HFU.out g e).imp id (fun q => by simp at q; omega), .inl ⟨rfl, rfl⟩⟩))
   | fail)
 ·-- way 2
  have e0 : ((st.way : Int) == 0) = false := by rw [hway]; rfl
  have e1 : ((st.way : Int) == 1) = false := by rw [hway]; rfl
  have e2 : ((st.way : Int) == 2) = true := by rw [hway]; rfl
  have e3 : ((st.way : Int) == 3) = false := by rw [hway]; rfl
  have e4 : ((st.way : Int) == 4) = false := by rw [hway]; rfl
  have e5 : ((st.way : Int) == 5) = false := by rw [hway]; rfl
  by_cases hx : c = 13
  ·rw [decide_eq_true hx] at ht3
   have hn3 : ((c.toNat : Int) != 13) = false := by rw [bne, ht3]; rfl
   have hg : stepF st c = ({ st with way := 3 }, []) := by
    unfold stepF
    rw [if_neg (by omega), if_neg (by omega), if_pos hway, if_pos hx]
   have HG := hidZ hg
   have f0 := HBX.out.free 0
   have h2 : FeedAt n₀ ((w.setCell ⟨p, 0, none⟩ (.int .i64 3)).alloc (.cells evZero 206)) _ _ _ _ _ _ := (HW.out.setWay 3).alloc _
   have hc2 : Chg (FM p (.slice ha st.held.length hc)) w ((w.setCell ⟨p, 0, none⟩ (.int .i64 3)).alloc (.cells evZero 206)) := ((Chg.refl _ _).set (fun _ => .inl rfl) _).alloc _
   have hx2 : ((w.setCell ⟨p, 0, none⟩ (.int .i64 3)).alloc (.cells evZero 206)).heap[w.heap.size]? = some (.cells evZero 206 (0, 0)) := by
    rw [show w.heap.size = (w.setCell ⟨p, 0, none⟩ (.int .i64 3)).heap.size from by simp]; exact heap_alloc_new _ _
   have H2 := hidZ h2
   have HC2 := hidZ hc2
   clear hg hway hmany ht ht3 hw5 hx h2 hc2
   go_enter Tryz.func120, Tryz.ntmps120
   go_wp2_with (first
    | ((with_reducible show wpList _ _ _ (⟨none, Op.store _ (.tmp 4) _, _, _, _, _⟩ :: _) _ _); refine wpList_store_whole (by rfl) 206 (.tmp 4) (.tmp 88) (by rfl) w.heap.size (by rfl) (evCells (.slice none 0 0) (toldE 0)).toArray (by rfl) _ 206 hx2 (by rfl) (by kernel_rfl) (by simp [Value.oneCell']) ?_; intro w3 hr3 hg3 hs3)
    | ((with_reducible show bodyPost _ _ _ Exit.ret _ _); exact bodyPost_ret (v := .tuple #[evV (.slice none 0 0) (toldE 0), .bool false]) (results_row_tmp rfl _ _ w.heap.size _ _ _ _ (by rfl) hr3 Tryz.underlying206 rfl (by kernel_rfl) _ (by rfl)) rfl (by
          rw [HG.out]
          obtain ⟨q1, q2, q3⟩ := does_box hp H2.out HC2.out (Nat.le_refl _) hx2 hg3
          exact ⟨_, _, q1, q2, fun g e => .inl e, .inl ⟨rfl, rfl⟩⟩))
    | fail)
  ·rw [decide_eq_false hx] at ht3
   have hn3 : ((c.toNat : Int) != 13) = true := by rw [bne, ht3]; rfl
   have hg : stepF st c = chunkF st c := by
    unfold stepF
    rw [if_neg (by omega), if_neg (by omega), if_pos hway, if_neg hx]
   have HG := hidZ hg
   clear hg hway hmany ht ht3 hw5 hx
   go_enter Tryz.func120, Tryz.ntmps120
   go_wp2_with fail
   refine (chunk_any H0.out c).mono ?_
   rintro e w2 ⟨hv', ks', h', hc', hf', hs'⟩
   have hx2 := hc'.obj HX0.out HFQ.out
   have H' := hidZ h'
   have HC' := hidZ hc'
   have HF' := hidZ hf'
   clear h' hc' hf'
   rcases hs' with ⟨hes, rfl⟩ | ⟨ev, ke, hes, rfl, hk⟩
   ·have HES := hidZ hes
    clear hes
    go_wp2_with (first
     | ((with_reducible show wpList _ _ _ (⟨none, Op.store _ (.tmp 4) _, _, _, _, _⟩ :: _) _ _); refine wpList_store_whole (by rfl) 206 (.tmp 4) (.tmp 39) (by rfl) w.heap.size (by rfl) (evCells (.slice none 0 0) (toldE 0)).toArray (by rfl) _ 206 hx2 (by rfl) (by kernel_rfl) (by simp [Value.oneCell']) ?_; intro w3 hr3 hg3 hs3)
     | ((with_reducible show bodyPost _ _ _ Exit.ret _ _); exact bodyPost_ret (v := .tuple #[evV (.slice none 0 0) (toldE 0), .bool false]) (results_row_tmp rfl _ _ w.heap.size _ _ _ _ (by rfl) hr3 Tryz.underlying206 rfl (by kernel_rfl) _ (by rfl)) rfl (by
       rw [HG.out]
       obtain ⟨q1, q2, q3⟩ := does_of rfl hp H'.out HC'.out hx2 hg3
       exact ⟨_, _, q1, q2, fun g e => (HF'.out g e).imp id (fun q => by simp at q; omega), .inl ⟨HES.out, rfl⟩⟩))
     | fail)
   ·have HES := hidZ hes
    obtain ⟨ka, kc, hka⟩ := hk.len
    have hk1 : ke.oneCell' = true := by rw [hka]; rfl
    have HK := hidZ hk
    clear hes hka hk
    go_wp2_with (first
     | ((with_reducible show wpList _ _ _ (⟨none, Op.store _ (.tmp 4) _, _, _, _, _⟩ :: _) _ _); refine wpList_store_whole (by rfl) 206 (.tmp 4) (.tmp 39) (by rfl) w.heap.size (by rfl) (evCells ke ev).toArray (by rfl) _ 206 hx2 (by rfl) (by kernel_rfl) (by simp [Value.oneCell']; exact hk1) ?_; intro w3 hr3 hg3 hs3)
     | ((with_reducible show bodyPost _ _ _ Exit.ret _ _); exact bodyPost_ret (v := .tuple #[evV ke ev, .bool true]) (results_row_tmp rfl _ _ w.heap.size _ _ _ _ (by rfl) hr3 Tryz.underlying206 rfl (by kernel_rfl) _ (by rfl)) rfl (by
       rw [HG.out]
       obtain ⟨q1, q2, q3⟩ := does_of rfl hp H'.out HC'.out hx2 hg3
       exact ⟨_, _, q1, q2, fun g e => (HF'.out g e).imp id (fun q => by simp at q; omega), .inr ⟨ev, ke, HES.out, rfl, HK.out.kept q3 (fun g hg e => by subst e; exact absurd ((Tag.of hx2).one (HK.out.tag hg)) (by decide))⟩⟩))
     | fail)
 ·-- way 3
  have e0 : ((st.way : Int) == 0) = false := by rw [hway]; rfl
  have e1 : ((st.way : Int) == 1) = false := by rw [hway]; rfl
  have e2 : ((st.way : Int) == 2) = false := by rw [hway]; rfl
  have e3 : ((st.way : Int) == 3) = true := by rw [hway]; rfl
  have e4 : ((st.way : Int) == 4) = false := by rw [hway]; rfl
  have e5 : ((st.way : Int) == 5) = false := by rw [hway]; rfl
  by_cases hx : c = 10
  ·rw [decide_eq_true hx] at ht
   have hn3 : ((c.toNat : Int) != 10) = false := by rw [bne, ht]; rfl
   have hg : stepF st c = (beginF st 0, [⟨st.cmd, st.held, 0⟩]) := by
    unfold stepF
    rw [if_neg (by omega), if_neg (by omega), if_neg (by omega), if_pos hway, if_pos hx]
   have HG := hidZ hg
   have c1 : w.cell? ⟨p, 1, none⟩ = some (.slice ha st.held.length hc) := HBX.out.cell rfl
   have c2 : w.cell? ⟨p, 2, none⟩ = some (.int .u8 (st.cmd.verb : Int)) := HBX.out.cell rfl
   have c3 : w.cell? ⟨p, 3, none⟩ = some (.slice ka0 st.cmd.keys.length kc0) := HBX.out.cell rfl
   have c4 : w.cell? ⟨p, 4, none⟩ = some (.int .u8 (st.cmd.cverb : Int)) := HBX.out.cell rfl
   have c5 : w.cell? ⟨p, 5, none⟩ = some (sv st.cmd.key) := HBX.out.cell rfl
   have c6 : w.cell? ⟨p, 6, none⟩ = some (sv st.cmd.value) := HBX.out.cell rfl
   have c7 : w.cell? ⟨p, 7, none⟩ = some (.int .u32 (st.cmd.flags : Int)) := HBX.out.cell rfl
   have c8 : w.cell? ⟨p, 8, none⟩ = some (.int .i64 st.cmd.exp) := HBX.out.cell rfl
   have c9 : w.cell? ⟨p, 9, none⟩ = some (.int .u64 (st.cmd.id : Int)) := HBX.out.cell rfl
   have c10 : w.cell? ⟨p, 10, none⟩ = some (.int .u64 (st.cmd.by' : Int)) := HBX.out.cell rfl
   have c11 : w.cell? ⟨p, 11, none⟩ = some (.int .i64 st.cmd.bytes) := HBX.out.cell rfl
   have c12 : w.cell? ⟨p, 12, none⟩ = some (.bool st.cmd.quiet) := HBX.out.cell rfl
   have hcv1 : (convert 47 9 (.slice ha st.held.length hc)).run Tryz.prog ((w.alloc (.cells evZero 206)).alloc (.cells evZero 206)).drew = .ok (sv st.held) ((w.alloc (.cells evZero 206)).alloc (.cells evZero 206)).drew := conv_row (B := n₀) (H0.out.held.alloc (.cells evZero 206))
   have hcv2 : (convert 47 9 (.slice ha st.held.length hc)).run Tryz.prog (w.alloc (.cells evZero 206)).drew = .ok (sv st.held) (w.alloc (.cells evZero 206)).drew := conv_row (B := n₀) H0.out.held
   clear hg hway hmany ht3 hw5 hx
   go_enter Tryz.func120, Tryz.ntmps120
   go_upto_region 14 with fail
   go_region
   all_goals
    go_wp2_with fail
    clear c0 c1 c2 c3 c4 c5 c6 c7 c8 c9 c10 c11 c12 hcv1 hcv2
    obtain ⟨W2, hW2⟩ := xE (((w.alloc (.cells evZero 206)).alloc (.cells (evCells (.slice ka0 st.cmd.keys.length kc0) ⟨st.cmd, st.held, 0⟩).toArray 206)).drew)
    have hb2 : Below (w.alloc (.cells evZero 206)).heap.size (w.alloc (.cells evZero 206)) W2 := by rw [hW2]; exact ((Below.refl _ _).alloc (Nat.le_refl _) _).drew
    have h2 := H0.out.below hb2
    have hx2 : W2.heap[w.heap.size]? = some (.cells evZero 206 (0, 0)) := (hb2.block _ (by simp)).trans HX0.out
    have hy2 : W2.heap[w.heap.size + 1]? = some (.cells (evCells (.slice ka0 st.cmd.keys.length kc0) ⟨st.cmd, st.held, 0⟩).toArray 206 (0, 0)) := by
     rw [hW2, show w.heap.size + 1 = (w.alloc (.cells evZero 206)).heap.size from by simp]
     exact heap_alloc_new _ _
    have h3 := h2.begun 0
    have hc3 : Chg (FM p (.slice ha st.held.length hc)) w (begunW W2 p 0) := begun_chg (HC0.out.then (M' := fun _ => False) (Chg.of_below hb2) (fun _ _ e => e.elim)) (fun _ => .inl rfl) 0
    have hx3 := (begun_only W2 p 0).obj hx2 (by omega)
    have hy3 := (begun_only W2 p 0).obj hy2 (by omega)
    have hk3 : KeysAt (begunW W2 p 0) (.slice ka0 st.cmd.keys.length kc0) st.cmd.keys := h3.keys
    refine (begin_any (w := ((w.alloc (.cells evZero 206)).alloc (.cells (evCells (.slice ka0 st.cmd.keys.length kc0) ⟨st.cmd, st.held, 0⟩).toArray 206)).drew) (hW2 ▸ h2.box) 0).mono ?_
    rintro e w3 ⟨⟨v3, rfl⟩, rfl⟩
    rw [← hW2]
    have H3 := hidZ h3
    have HC3 := hidZ hc3
    have HX3 := hidZ hx3
    have HK3 := hidZ hk3
    clear hW2 hb2 h2 hx2 hy2 h3 hc3 hk3
    change Hid (FeedAt n₀ (begunW W2 p 0) _ _ _ _ _ _) at H3
    generalize begunW W2 p 0 = W3 at *
    go_wp2_with (first
     | ((with_reducible show wpList _ _ _ (⟨_, Op.load _ (.tmp 6), _, _, _, _⟩ :: _) _ _); refine wpList_load_row (by rfl) 206 (.tmp 6) (by rfl) (w.heap.size + 1) (by rfl) 206 _ _ _ hy3 Tryz.underlying206 rfl (by kernel_rfl) ?_)
     | ((with_reducible show wpList _ _ _ (⟨none, Op.store _ (.tmp 4) _, _, _, _, _⟩ :: _) _ _); refine wpList_store_whole (by rfl) 206 (.tmp 4) (.tmp 65) (by rfl) w.heap.size (by rfl) (evCells (.slice ka0 st.cmd.keys.length kc0) ⟨st.cmd, st.held, 0⟩).toArray (by rfl) _ 206 hx3 (by rfl) (by kernel_rfl) (by simp [Value.oneCell']) ?_; intro w3 hr3 hg3 hs3)
     | ((with_reducible show bodyPost _ _ _ Exit.ret _ _); exact bodyPost_ret (v := .tuple #[evV (.slice ka0 st.cmd.keys.length kc0) ⟨st.cmd, st.held, 0⟩, .bool true]) (results_row_tmp rfl _ _ w.heap.size _ _ _ _ (by rfl) hr3 Tryz.underlying206 rfl (by kernel_rfl) _ (by rfl)) rfl (by
       rw [HG.out]
       obtain ⟨q1, q2, q3⟩ := does_box hp H3.out HC3.out (Nat.le_refl _) HX3.out hg3
       exact ⟨_, _, q1, q2, nil_fresh, .inr ⟨_, _, rfl, rfl, HK3.out.kept q3 (fun g hg e => by subst e; exact absurd ((Tag.of HX3.out).one (HK3.out.tag hg)) (by decide))⟩⟩))
     | fail)
  ·rw [decide_eq_false hx] at ht
   have hn3 : ((c.toNat : Int) != 10) = true := by rw [bne, ht]; rfl
   have hg : stepF st c = chunkF st c := by
    unfold stepF
    rw [if_neg (by omega), if_neg (by omega), if_neg (by omega), if_pos hway, if_neg hx]
   have HG := hidZ hg
   clear hg hway hmany ht ht3 hw5 hx
   go_enter Tryz.func120, Tryz.ntmps120
   go_wp2_with fail
   refine (chunk_any H0.out c).mono ?_
   rintro e w2 ⟨hv', ks', h', hc', hf', hs'⟩
   have hx2 := hc'.obj HX0.out HFQ.out
   have H' := hidZ h'
   have HC' := hidZ hc'
   have HF' := hidZ hf'
   clear h' hc' hf'
   rcases hs' with ⟨hes, rfl⟩ | ⟨ev, ke, hes, rfl, hk⟩
   ·have HES := hidZ hes
    clear hes
    go_wp2_with (first
     | ((with_reducible show wpList _ _ _ (⟨none, Op.store _ (.tmp 4) _, _, _, _, _⟩ :: _) _ _); refine wpList_store_whole (by rfl) 206 (.tmp 4) (.tmp 51) (by rfl) w.heap.size (by rfl) (evCells (.slice none 0 0) (toldE 0)).toArray (by rfl) _ 206 hx2 (by rfl) (by kernel_rfl) (by simp [Value.oneCell']) ?_; intro w3 hr3 hg3 hs3)
     | ((with_reducible show bodyPost _ _ _ Exit.ret _ _); exact bodyPost_ret (v := .tuple #[evV (.slice none 0 0) (toldE 0), .bool false]) (results_row_tmp rfl _ _ w.heap.size _ _ _ _ (by rfl) hr3 Tryz.underlying206 rfl (by kernel_rfl) _ (by rfl)) rfl (by
       rw [HG.out]
       obtain ⟨q1, q2, q3⟩ := does_of rfl hp H'.out HC'.out hx2 hg3
       exact ⟨_, _, q1, q2, fun g e => (HF'.out g e).imp id (fun q => by simp at q; omega), .inl ⟨HES.out, rfl⟩⟩))
     | fail)
   ·have HES := hidZ hes
    obtain ⟨ka, kc, hka⟩ := hk.len
    have hk1 : ke.oneCell' = true := by rw [hka]; rfl
    have HK := hidZ hk
    clear hes hka hk
    go_wp2_with (first
     | ((with_reducible show wpList _ _ _ (⟨none, Op.store _ (.tmp 4) _, _, _, _, _⟩ :: _) _ _); refine wpList_store_whole (by rfl) 206 (.tmp 4) (.tmp 51) (by rfl) w.heap.size (by rfl) (evCells ke ev).toArray (by rfl) _ 206 hx2 (by rfl) (by kernel_rfl) (by simp [Value.oneCell']; exact hk1) ?_; intro w3 hr3 hg3 hs3)
     | ((with_reducible show bodyPost _ _ _ Exit.ret _ _); exact bodyPost_ret (v := .tuple #[evV ke ev, .bool true]) (results_row_tmp rfl _ _ w.heap.size _ _ _ _ (by rfl) hr3 Tryz.underlying206 rfl (by kernel_rfl) _ (by rfl)) rfl (by
       rw [HG.out]
       obtain ⟨q1, q2, q3⟩ := does_of rfl hp H'.out HC'.out hx2 hg3
       exact ⟨_, _, q1, q2, fun g e => (HF'.out g e).imp id (fun q => by simp at q; omega), .inr ⟨ev, ke, HES.out, rfl, HK.out.kept q3 (fun g hg e => by subst e; exact absurd ((Tag.of hx2).one (HK.out.tag hg)) (by decide))⟩⟩))
     | fail)
 ·-- way 4
  have e0 : ((st.way : Int) == 0) = false := by rw [hway]; rfl
  have e1 : ((st.way : Int) == 1) = false := by rw [hway]; rfl
  have e2 : ((st.way : Int) == 2) = false := by rw [hway]; rfl
  have e3 : ((st.way : Int) == 3) = false := by rw [hway]; rfl
  have e4 : ((st.way : Int) == 4) = true := by rw [hway]; rfl
  have e5 : ((st.way : Int) == 5) = false := by rw [hway]; rfl
  by_cases hx : c = 10
  ·rw [decide_eq_true hx] at ht
   have hg : stepF st c = (beginF st 0, []) := by
    unfold stepF
    rw [if_neg (by omega), if_neg (by omega), if_neg (by omega), if_neg (by omega), if_pos hway, if_pos hx]
   have HG := hidZ hg
   have h2 := H0.out.begun 0
   have hc2 := begun_chg HC0.out (fun _ => .inl rfl) 0
   have hx2 := (begun_only (w.alloc (.cells evZero 206)) p 0).obj HX0.out (by omega)
   have H2 := hidZ h2
   have HC2 := hidZ hc2
   clear hg hway hmany ht3 hw5 hx h2 hc2
   go_enter Tryz.func120, Tryz.ntmps120
   go_wp2_with fail
   refine (begin_any H0.out.box 0).mono ?_
   rintro e w1 ⟨⟨v, rfl⟩, rfl⟩
   change Hid (FeedAt n₀ (begunW (w.alloc (.cells evZero 206)) p 0) _ _ _ _ _ _) at H2
   generalize begunW (w.alloc (.cells evZero 206)) p 0 = W2 at *
   go_wp2_with (first
    | ((with_reducible show wpList _ _ _ (⟨none, Op.store _ (.tmp 4) _, _, _, _, _⟩ :: _) _ _); refine wpList_store_whole (by rfl) 206 (.tmp 4) (.tmp 88) (by rfl) w.heap.size (by rfl) (evCells (.slice none 0 0) (toldE 0)).toArray (by rfl) _ 206 hx2 (by rfl) (by kernel_rfl) (by simp [Value.oneCell']) ?_; intro w3 hr3 hg3 hs3)
    | ((with_reducible show bodyPost _ _ _ Exit.ret _ _); exact bodyPost_ret (v := .tuple #[evV (.slice none 0 0) (toldE 0), .bool false]) (results_row_tmp rfl _ _ w.heap.size _ _ _ _ (by rfl) hr3 Tryz.underlying206 rfl (by kernel_rfl) _ (by rfl)) rfl (by
          rw [HG.out]
          obtain ⟨q1, q2, q3⟩ := does_box hp H2.out HC2.out (Nat.le_refl _) hx2 hg3
          exact ⟨_, _, q1, q2, nil_fresh, .inl ⟨rfl, rfl⟩⟩))
    | fail)
  ·rw [decide_eq_false hx] at ht
   have hg : stepF st c = (st, []) := by
    unfold stepF
    rw [if_neg (by omega), if_neg (by omega), if_neg (by omega), if_neg (by omega), if_pos hway, if_neg hx]
   have HG := hidZ hg
   have hx2 := HX0.out
   clear hg hway hmany ht3 hw5 hx
   go_enter Tryz.func120, Tryz.ntmps120
   go_wp2_with (first
    | ((with_reducible show wpList _ _ _ (⟨none, Op.store _ (.tmp 4) _, _, _, _, _⟩ :: _) _ _); refine wpList_store_whole (by rfl) 206 (.tmp 4) (.tmp 88) (by rfl) w.heap.size (by rfl) (evCells (.slice none 0 0) (toldE 0)).toArray (by rfl) _ 206 hx2 (by rfl) (by kernel_rfl) (by simp [Value.oneCell']) ?_; intro w3 hr3 hg3 hs3)
    | ((with_reducible show bodyPost _ _ _ Exit.ret _ _); exact bodyPost_ret (v := .tuple #[evV (.slice none 0 0) (toldE 0), .bool false]) (results_row_tmp rfl _ _ w.heap.size _ _ _ _ (by rfl) hr3 Tryz.underlying206 rfl (by kernel_rfl) _ (by rfl)) rfl (by
          rw [HG.out]
          obtain ⟨q1, q2, q3⟩ := does_box hp H0.out HC0.out (Nat.le_refl _) hx2 hg3
          exact ⟨_, _, q1, q2, fun g e => .inl e, .inl ⟨rfl, rfl⟩⟩))
    | fail)
 ·-- way 5
  have e0 : ((st.way : Int) == 0) = false := by rw [hway]; rfl
  have e1 : ((st.way : Int) == 1) = false := by rw [hway]; rfl
  have e2 : ((st.way : Int) == 2) = false := by rw [hway]; rfl
  have e3 : ((st.way : Int) == 3) = false := by rw [hway]; rfl
  have e4 : ((st.way : Int) == 4) = false := by rw [hway]; rfl
  have e5 : ((st.way : Int) == 5) = true := by rw [hway]; rfl
  obtain ⟨hm1, hm2⟩ := hmany hway
  obtain ⟨m, hm⟩ : ∃ m : Nat, st.many = m + 1 := ⟨st.many - 1, by omega⟩
  have c13 : w.cell? ⟨p, 13, none⟩ = some (.int .i64 ((m : Int) + 1)) := by
   have := HBX.out.cell (j := 13) rfl
   rwa [hm, show ((m + 1 : Nat) : Int) = (m : Int) + 1 from by omega] at this
  have f13 := HBX.out.free 13
  have hmb : (m : Int) ≤ 2147483649 := by omega
  have hmb0 : (0 : Int) ≤ (m : Int) := by omega
  have hw1 : (m : Int) + 1 - 1 = (m : Int) := by omega
  have h2 : FeedAt n₀ ((w.setCell ⟨p, 13, none⟩ (.int .i64 (m : Int))).alloc (.cells evZero 206)) _ _ _ _ _ _ := (HW.out.setMany m).alloc _
  have hc2 : Chg (FM p (.slice ha st.held.length hc)) w ((w.setCell ⟨p, 13, none⟩ (.int .i64 (m : Int))).alloc (.cells evZero 206)) := ((Chg.refl _ _).set (fun _ => .inl rfl) _).alloc _
  have hx2 : ((w.setCell ⟨p, 13, none⟩ (.int .i64 (m : Int))).alloc (.cells evZero 206)).heap[w.heap.size]? = some (.cells evZero 206 (0, 0)) := by
   rw [show w.heap.size = (w.setCell ⟨p, 13, none⟩ (.int .i64 (m : Int))).heap.size from by simp]; exact heap_alloc_new _ _
  have H2 := hidZ h2
  have HC2 := hidZ hc2
  have HX2 := hidZ hx2
  clear h2 hc2 hx2
  by_cases h0 : m = 0
  ·have em : ((m : Int) == 0) = true := by rw [h0]; rfl
   have hg : stepF st c = (beginF { st with many := m } 0, []) := by
    unfold stepF
    rw [if_neg (by omega), if_neg (by omega), if_neg (by omega), if_neg (by omega), if_neg (by omega), if_pos (by omega), hm]
    rfl
   have HG := hidZ hg
   have h4 := H2.out.begun 0
   have hc4 := begun_chg HC2.out (fun _ => .inl rfl) 0
   have hx4 := (begun_only ((w.setCell ⟨p, 13, none⟩ (.int .i64 (m : Int))).alloc (.cells evZero 206)) p 0).obj HX2.out (by omega)
   have H4 := hidZ h4
   have HC4 := hidZ hc4
   clear hg hway hmany ht ht3 hw5 hm h0 h4 hc4 hm1 hm2
   go_enter Tryz.func120, Tryz.ntmps120
   go_wp2_with fail
   refine (begin_any H2.out.box 0).mono ?_
   rintro e w1 ⟨⟨v, rfl⟩, rfl⟩
   change Hid (FeedAt n₀ (begunW ((w.setCell ⟨p, 13, none⟩ (.int .i64 (m : Int))).alloc (.cells evZero 206)) p 0) _ _ _ _ _ _) at H4
   generalize begunW ((w.setCell ⟨p, 13, none⟩ (.int .i64 (m : Int))).alloc (.cells evZero 206)) p 0 = W4 at *
   go_wp2_with (first
    | ((with_reducible show wpList _ _ _ (⟨none, Op.store _ (.tmp 4) _, _, _, _, _⟩ :: _) _ _); refine wpList_store_whole (by rfl) 206 (.tmp 4) (.tmp 88) (by rfl) w.heap.size (by rfl) (evCells (.slice none 0 0) (toldE 0)).toArray (by rfl) _ 206 hx4 (by rfl) (by kernel_rfl) (by simp [Value.oneCell']) ?_; intro w3 hr3 hg3 hs3)
    | ((with_reducible show bodyPost _ _ _ Exit.ret _ _); exact bodyPost_ret (v := .tuple #[evV (.slice none 0 0) (toldE 0), .bool false]) (results_row_tmp rfl _ _ w.heap.size _ _ _ _ (by rfl) hr3 Tryz.underlying206 rfl (by kernel_rfl) _ (by rfl)) rfl (by
          rw [HG.out]
          obtain ⟨q1, q2, q3⟩ := does_box hp H4.out HC4.out (Nat.le_refl _) hx4 hg3
          exact ⟨_, _, q1, q2, nil_fresh, .inl ⟨rfl, rfl⟩⟩))
    | fail)
  ·have em : ((m : Int) == 0) = false := by rw [beq_eq_false_iff_ne]; omega
   have hg : stepF st c = ({ st with many := m }, []) := by
    unfold stepF
    rw [if_neg (by omega), if_neg (by omega), if_neg (by omega), if_neg (by omega), if_neg (by omega), if_neg (by omega), hm]
    rfl
   have HG := hidZ hg
   have hx2 := HX2.out
   clear hg hway hmany ht ht3 hw5 hm h0 hm1 hm2
   go_enter Tryz.func120, Tryz.ntmps120
   go_wp2_with (first
    | ((with_reducible show wpList _ _ _ (⟨none, Op.store _ (.tmp 4) _, _, _, _, _⟩ :: _) _ _); refine wpList_store_whole (by rfl) 206 (.tmp 4) (.tmp 88) (by rfl) w.heap.size (by rfl) (evCells (.slice none 0 0) (toldE 0)).toArray (by rfl) _ 206 hx2 (by rfl) (by kernel_rfl) (by simp [Value.oneCell']) ?_; intro w3 hr3 hg3 hs3)
    | ((with_reducible show bodyPost _ _ _ Exit.ret _ _); exact bodyPost_ret (v := .tuple #[evV (.slice none 0 0) (toldE 0), .bool false]) (results_row_tmp rfl _ _ w.heap.size _ _ _ _ (by rfl) hr3 Tryz.underlying206 rfl (by kernel_rfl) _ (by rfl)) rfl (by
          rw [HG.out]
          obtain ⟨q1, q2, q3⟩ := does_box hp H2.out HC2.out (Nat.le_refl _) hx2 hg3
          exact ⟨_, _, q1, q2, fun g e => .inl e, .inl ⟨rfl, rfl⟩⟩))
    | fail)
end Go.Proofs.YtnkkoicbnbjlnaaGreatDoor
