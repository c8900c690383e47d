/- A feed in memory: what begin, full, chunk and Left do. No condition. And what goes with it (2 texts). -/
import Derived.Test.YtnkkoicbnbjlnaaGreatDoorLowB
import Derived.Test.YtnkkoicbnbjlnaaGreatDoorLpA
import Derived.Test.YtnkkoicbnbjlnaaGreatDoorLowA
import Derived.Lib.SmallJoins
namespace Go.Proofs.YtnkkoicbnbjlnaaGreatDoor
set_option maxRecDepth 100000
set_option maxHeartbeats 8000000
open Go.RowKit Go.ChangeMaps Go.MapKept
theorem setCells_list : ∀ (vs A old C : List Value) (w : World) (b : Nat) (t : TypeId), w.heap[b]? = some (.cells (A ++ old ++ C).toArray t (0, 0)) → old.length = vs.length →
  (w.setCells b A.length vs).heap[b]? = some (.cells (A ++ vs ++ C).toArray t (0, 0))
 | [], A, old, C, w, b, t, h, hl => by
  obtain rfl : old = [] := List.eq_nil_of_length_eq_zero (by simpa using hl)
  exact h
 | v :: vs, A, [], C, w, b, t, h, hl => by simp at hl
 | v :: vs, A, u :: old, C, w, b, t, h, hl => by
  have h1 := heap_setCell_same w b A.length _ t v h
  have h2 : (A ++ u :: old ++ C).toArray.setIfInBounds A.length v = ((A ++ [v]) ++ old ++ C).toArray := by
   rw [List.setIfInBounds_toArray]
   congr 1
   simp
  rw [h2] at h1
  have h3 := setCells_list vs (A ++ [v]) old C (w.setCell ⟨b, A.length, none⟩ v) b t h1 (by simpa using hl)
  rw [List.length_append] at h3
  show ((w.setCell ⟨b, A.length, none⟩ v).setCells b (A.length + 1) vs).heap[b]? = _
  rw [show A ++ v :: vs ++ C = A ++ [v] ++ vs ++ C from by simp]
  exact h3
abbrev feedCells (way : Int) (hv ks : Value) (c : Cmd) (many : Int) : List Value := .int .i64 way :: hv :: cmdCells ks c ++ [.int .i64 many]
def FeedBox (w : World) (p : Nat) (t : TypeId) (rest : List Value) (way : Int) (hv ks : Value) (c : Cmd) (many : Int) : Prop := w.heap[p]? = some (.cells (feedCells way hv ks c many ++ rest).toArray t (0, 0))
section
variable {w : World} {p : Nat} {t : TypeId} {rest : List Value} {way : Int} {hv ks : Value} {c : Cmd} {many : Int}
theorem FeedBox.cell (h : FeedBox w p t rest way hv ks c many) {j : Nat} {v : Value} (hj : (feedCells way hv ks c many)[j]? = some v) : w.cell? ⟨p, j, none⟩ = some v := by
 rw [(block_cell h j).1]
 have : j < (feedCells way hv ks c many).length := (List.getElem?_eq_some_iff.1 hj).1
 rw [List.getElem?_toArray, List.getElem?_append_left this]
 exact hj
theorem FeedBox.free (h : FeedBox w p t rest way hv ks c many) (j : Nat) : w.frozen? ⟨p, j, none⟩ = false := (block_cell h j).2
theorem FeedBox.tag (h : FeedBox w p t rest way hv ks c many) : Tag w p t := Tag.of h
theorem FeedBox.setWay (h : FeedBox w p t rest way hv ks c many) (k : Int) : FeedBox (w.setCell ⟨p, 0, none⟩ (.int .i64 k)) p t rest k hv ks c many := by
 have := Go.Joins.block_setCell (i := 0) h (.int .i64 k)
 rw [List.setIfInBounds_toArray] at this
 exact this
theorem FeedBox.setHeld (h : FeedBox w p t rest way hv ks c many) (v : Value) : FeedBox (w.setCell ⟨p, 1, none⟩ v) p t rest way v ks c many := by
 have := Go.Joins.block_setCell (i := 1) h v
 rw [List.setIfInBounds_toArray] at this
 exact this
theorem FeedBox.setMany (h : FeedBox w p t rest way hv ks c many) (k : Int) : FeedBox (w.setCell ⟨p, 13, none⟩ (.int .i64 k)) p t rest way hv ks c k := by
 have := Go.Joins.block_setCell (i := 13) h (.int .i64 k)
 rw [List.setIfInBounds_toArray] at this
 exact this
theorem FeedBox.setCmd (h : FeedBox w p t rest way hv ks c many) (ks' : Value) (c' : Cmd) : FeedBox (w.setCells p 2 (cmdCells ks' c')) p t rest way hv ks' c' many :=
 setCells_list (cmdCells ks' c') [.int .i64 way, hv] (cmdCells ks c) (.int .i64 many :: rest) w p t h rfl
theorem FeedBox.kept {M : Nat → Prop} {w' : World} (h : FeedBox w p t rest way hv ks c many) (hc : Chg M w w') (hM : ¬ M p) : FeedBox w' p t rest way hv ks c many := hc.obj h hM
theorem FeedBox.cmd (h : FeedBox w p t rest way hv ks c many) : w.rangeAt p 2 (cmdCells ks c) := fun j v hv' => by
 refine h.cell ?_
 show (.int .i64 way :: hv :: cmdCells ks c ++ [.int .i64 many])[2 + j]? = _
 rw [show 2 + j = j + 1 + 1 from by omega]
 show (cmdCells ks c ++ [.int .i64 many])[j]? = _
 rw [List.getElem?_append_left (List.getElem?_eq_some_iff.1 hv').1]
 exact hv'
end
def begunW (w : World) (p : Nat) (k : Int) : World := (w.setCell ⟨p, 0, none⟩ (.int .i64 k)).setCell ⟨p, 1, none⟩ (.slice none 0 0)
theorem FeedBox.begun {w : World} {p : Nat} {t : TypeId} {rest : List Value} {way : Int} {hv ks : Value} {c : Cmd} {many : Int} (h : FeedBox w p t rest way hv ks c many) (k : Int) : FeedBox (begunW w p k) p t rest k (.slice none 0 0) ks c many := (h.setWay k).setHeld _
theorem begun_chg {M : Nat → Prop} {a b : World} {p : Nat} (h : Chg M a b) (hp : p < a.heap.size → M p) (k : Int) : Chg M a (begunW b p k) := (h.set hp _).set hp _
theorem begun_only (w : World) (p : Nat) (k : Int) : Chg (fun k => k = p) w (begunW w p k) := begun_chg (M := fun k => k = p) (Chg.refl _ _) (fun _ => rfl) k
theorem begin_any {w : World} {p : Nat} {t : TypeId} {rest : List Value} {way : Int} {hv ks : Value} {c : Cmd} {many : Int} (h : FeedBox w p t rest way hv ks c many) (k : Int) :
  Calls Tryz.prog 151 #[.pointer (some ⟨p, 0, none⟩), .int .i64 k] w fun e w' => (∃ v, e = .returned v) ∧ w' = begunW w p k := by
 have c0 : w.cell? ⟨p, 0, none⟩ = some (.int .i64 way) := h.cell rfl
 have f0 : w.frozen? ⟨p, 0, none⟩ = false := h.free 0
 have c1 : (w.setCell ⟨p, 0, none⟩ (.int .i64 k)).cell? ⟨p, 1, none⟩ = some hv := (h.setWay k).cell rfl
 have f1 : (w.setCell ⟨p, 0, none⟩ (.int .i64 k)).frozen? ⟨p, 1, none⟩ = false := (h.setWay k).free 1
 clear h
 go_enter Tryz.func151, Tryz.ntmps151
 go_wp2_with fail
 exact bodyPost_end (results_none (by exact Tryz.results151) _ _ _) rfl ⟨⟨_, rfl⟩, rfl⟩
def fullW (w : World) (p : Nat) (n : Nat) (c : Cmd) : World := if c.bytes ≤ (n : Int) then w.setCell ⟨p, 0, none⟩ (.int .i64 2) else w
theorem full_any {w : World} {p : Nat} {t : TypeId} {rest : List Value} {way : Int} {ha : Option Addr} {n hc : Nat} {ks : Value} {c : Cmd} {many : Int} (h : FeedBox w p t rest way (.slice ha n hc) ks c many) :
  Calls Tryz.prog 149 #[.pointer (some ⟨p, 0, none⟩)] w fun e w' => (∃ v, e = .returned v) ∧ ∃ m, w' = fullW (w.drewN m) p n c := by
 have hk : ∀ m, FeedBox (w.drewN m) p t rest way (.slice ha n hc) ks c many := fun m => h
 have c1 : w.cell? ⟨p, 1, none⟩ = some (.slice ha n hc) := h.cell rfl
 have c11 : w.cell? ⟨p, 11, none⟩ = some (.int .i64 c.bytes) := h.cell rfl
 have HK := hidZ hk
 clear h hk
 by_cases hb : c.bytes ≤ (n : Int)
 ·have d1 : decide (c.bytes ≤ (n : Int)) = true := by rw [decide_eq_true_eq]; exact hb
  have HB := hidZ hb
  clear hb
  go_enter Tryz.func149, Tryz.ntmps149
  go_wp2_with fail
  go_quiet (fail)
  have c0 := fun m => (HK.out m).cell (j := 0) rfl
  have f0 := fun m => (HK.out m).free 0
  go_wp2_with fail
  exact bodyPost_end (results_none (by exact Tryz.results149) _ _ _) rfl ⟨⟨_, rfl⟩, _, by unfold fullW; rw [if_pos HB.out]⟩
 ·have d1 : decide (c.bytes ≤ (n : Int)) = false := by rw [decide_eq_false_iff_not]; exact hb
  have HB := hidZ hb
  clear hb
  go_enter Tryz.func149, Tryz.ntmps149
  go_wp2_with fail
  go_quiet (fail)
  go_wp2_with fail
  exact bodyPost_end (results_none (by exact Tryz.results149) _ _ _) rfl ⟨⟨_, rfl⟩, nq, by unfold fullW; rw [if_neg (by have := HB.out; omega)]⟩
def Env (n₀ : Nat) (w : World) : Prop := ∃ W0, W0.heap.size ≤ n₀ ∧ HasLen W0 ∧ HasErr W0 ∧ Below W0.heap.size W0 w
theorem Env.len {n₀ : Nat} {w : World} (h : Env n₀ w) : HasLen w := by
 obtain ⟨W0, _, h1, _, h3⟩ := h
 exact h1.below h3
theorem Env.err {n₀ : Nat} {w : World} (h : Env n₀ w) : HasErr w := by
 obtain ⟨W0, _, _, h2, h3⟩ := h
 exact h2.below h3
theorem Env.chg {n₀ : Nat} {M : Nat → Prop} {w w' : World} (h : Env n₀ w) (hc : Chg M w w') (hM : ∀ k, M k → n₀ ≤ k) : Env n₀ w' := by
 obtain ⟨W0, h0, h1, h2, h3⟩ := h
 exact ⟨W0, h0, h1, h2, h3.trans (hc.below (fun k hk => ⟨Nat.lt_of_lt_of_le hk h3.size, fun hm => by have := hM k hm; omega⟩))⟩
theorem Env.of {w : World} (h1 : HasLen w) (h2 : HasErr w) : Env w.heap.size w := ⟨w, Nat.le_refl _, h1, h2, Below.refl _ _⟩
theorem Env.mono {n₀ n₁ : Nat} {w : World} (h : Env n₀ w) (hn : n₀ ≤ n₁) : Env n₁ w := by
 obtain ⟨W0, h0, h⟩ := h
 exact ⟨W0, by omega, h⟩
structure FeedAt (n₀ : Nat) (w : World) (p : Nat) (t : TypeId) (rest : List Value) (hv ks : Value) (st : FSt) : Prop where
 low : n₀ ≤ p
 box : FeedBox w p t rest (st.way : Int) hv ks st.cmd (st.many : Int)
 held : w.ownsRow n₀ 5 1 hv st.held.length (st.held.map u8v)
 keys : Row w 9 1 ks st.cmd.keys.length (st.cmd.keys.map sv)
 tb : t ≠ 5
 ts : t ≠ 9
def FM (p : Nat) (hv : Value) (k : Nat) : Prop := k = p ∨ hv.ownBlock = some k
theorem FeedAt.kept {n₀ : Nat} {M : Nat → Prop} {w w' : World} {p : Nat} {t : TypeId} {rest : List Value} {hv ks : Value} {st : FSt} (h : FeedAt n₀ w p t rest hv ks st) (hc : Chg M w w') (hM : ∀ k, M k → ¬ FM p hv k ∧ ¬ Tag w k 9) : FeedAt n₀ w' p t rest hv ks st :=
 ⟨h.low, h.box.kept hc (fun e => (hM p e).1 (.inl rfl)), owns_grow h.held hc (fun g hg e => (hM g e).1 (.inr hg)), h.keys.kept hc (fun g hg e => (hM g e).2 (h.keys.tag hg)), h.tb, h.ts⟩
theorem FeedAt.below {n₀ : Nat} {w w' : World} {p : Nat} {t : TypeId} {rest : List Value} {hv ks : Value} {st : FSt} (h : FeedAt n₀ w p t rest hv ks st) (hb : Below w.heap.size w w') : FeedAt n₀ w' p t rest hv ks st :=
 h.kept (M := fun _ => False) (Chg.of_below hb) (fun _ e => e.elim)
theorem FeedAt.fm {n₀ : Nat} {w : World} {p : Nat} {t : TypeId} {rest : List Value} {hv ks : Value} {st : FSt} (h : FeedAt n₀ w p t rest hv ks st) {k : Nat} (hk : FM p hv k) : n₀ ≤ k ∧ (Tag w k t ∨ Tag w k 5) := by
 rcases hk with rfl | hk
 ·exact ⟨h.low, .inl h.box.tag⟩
 ·exact ⟨(h.held.lt k hk).1, .inr (owns_tag h.held hk)⟩
theorem FeedAt.fm_str {n₀ : Nat} {w : World} {p : Nat} {t : TypeId} {rest : List Value} {hv ks : Value} {st : FSt} (h : FeedAt n₀ w p t rest hv ks st) {k : Nat} (hk : FM p hv k) : ¬ Tag w k 9 := fun e => by
 rcases (h.fm hk).2 with h1 | h1
 ·exact h.ts (h1.one e)
 ·exact absurd (h1.one e) (by decide)
theorem FeedAt.apart {n₀ : Nat} {w : World} {p : Nat} {t : TypeId} {rest : List Value} {hv ks : Value} {st : FSt} (h : FeedAt n₀ w p t rest hv ks st) : hv.ownBlock ≠ some p := fun e => h.tb (h.box.tag.one (owns_tag h.held e))
theorem FeedAt.begun {n₀ : Nat} {w : World} {p : Nat} {t : TypeId} {rest : List Value} {hv ks : Value} {st : FSt} (h : FeedAt n₀ w p t rest hv ks st) (k : Nat) : FeedAt n₀ (begunW w p (k : Int)) p t rest (.slice none 0 0) ks (beginF st k) :=
 ⟨h.low, h.box.begun _, World.ownsRow_nil _ _ _ _, h.keys.kept (begun_chg (M := fun k => k = p) (Chg.refl _ _) (fun _ => rfl) _) (fun g hg e => by subst e; exact h.ts (h.box.tag.one (h.keys.tag hg))), h.tb, h.ts⟩
abbrev evCells (ks : Value) (e : Ev) : List Value := cmdCells ks e.cmd ++ [sv e.data, .int .u8 (e.told : Int)]
abbrev evV (ks : Value) (e : Ev) : Value := .agg (evCells ks e).toArray
abbrev evZero : Array Value := #[.int .u8 0, .slice none 0 0, .int .u8 0, .string ⟨#[]⟩, .string ⟨#[]⟩, .int .u32 0, .int .i64 0, .int .u64 0, .int .u64 0, .int .i64 0, .bool false, .string ⟨#[]⟩, .int .u8 0]
abbrev KeysAt (w : World) (ks : Value) (L : List (List UInt8)) : Prop := Row w 9 1 ks L.length (L.map sv)
def Said (w' : World) (es : List Ev) (e : Ending) : Prop :=
 (es = [] ∧ e = .returned (.tuple #[evV (.slice none 0 0) (toldE 0), .bool false])) ∨ ∃ ev ke, es = [ev] ∧ e = .returned (.tuple #[evV ke ev, .bool true]) ∧ KeysAt w' ke ev.cmd.keys
def Does (n₀ : Nat) (w : World) (p : Nat) (t : TypeId) (rest : List Value) (hv : Value) (r : FSt × List Ev) (e : Ending) (w' : World) : Prop :=
 ∃ hv' ks', FeedAt n₀ w' p t rest hv' ks' r.1 ∧ Chg (FM p hv) w w' ∧ (∀ g, hv'.ownBlock = some g → hv.ownBlock = some g ∨ w.heap.size ≤ g) ∧ Said w' r.2 e
open Go.RowKit Go.ChangeMaps Go.MapKept
theorem does_box {n₀ : Nat} {w W w3 : World} {p q : Nat} {t : TypeId} {rest : List Value} {hv hv' ks' : Value} {st' : FSt} {cs : Array Value} (hp : p < w.heap.size) (hW : FeedAt n₀ W p t rest hv' ks' st') (hc : Chg (FM p hv) w W) (hq : w.heap.size ≤ q)
  (hb : W.heap[q]? = some (.cells cs 206 (0, 0))) (hg : W.grownBy w3 (some q)) : FeedAt n₀ w3 p t rest hv' ks' st' ∧ Chg (FM p hv) w w3 ∧ Chg (fun k => k = q) W w3 := by
 have hc3 : Chg (fun k => k = q) W w3 := Chg.of_grown hg (fun i _ e => (Option.some.inj e).symm)
 refine ⟨hW.kept hc3 ?_, hc.then hc3 (fun i hi e => by omega), hc3⟩
 rintro k rfl
 have ht : Tag W k 206 := Tag.of hb
 refine ⟨?_, fun e => absurd (ht.one e) (by decide)⟩
 rintro (e | e)
 ·omega
 ·exact absurd (ht.one (owns_tag hW.held e)) (by decide)
theorem FeedAt.plt {n₀ : Nat} {w : World} {p : Nat} {t : TypeId} {rest : List Value} {hv ks : Value} {st : FSt} (h : FeedAt n₀ w p t rest hv ks st) : p < w.heap.size := h.box.tag.lt
theorem FeedAt.alloc {n₀ : Nat} {w : World} {p : Nat} {t : TypeId} {rest : List Value} {hv ks : Value} {st : FSt} (h : FeedAt n₀ w p t rest hv ks st) (o : Obj) : FeedAt n₀ (w.alloc o) p t rest hv ks st :=
 h.below ((Below.refl _ _).alloc (Nat.le_refl _) _)
theorem ten_test (x : UInt8) : ((x.toNat : Int) == 10) = decide (x = 10) := by
 by_cases h : x = 10
 ·rw [h]; rfl
 ·rw [decide_eq_false h, beq_eq_false_iff_ne]
  intro e
  exact h (UInt8.toNat_inj.1 (by show x.toNat = 10; omega))
theorem nil_fresh {hv : Value} {w : World} : ∀ g, (Value.slice none 0 0).ownBlock = some g → hv.ownBlock = some g ∨ w.heap.size ≤ g := fun g e => by simp [Value.ownBlock] at e
theorem chunk_any {n₀ : Nat} {w : World} {p : Nat} {t : TypeId} {rest : List Value} {hv ks : Value} {st : FSt} (h : FeedAt n₀ w p t rest hv ks st) (x : UInt8) :
  Calls Tryz.prog 150 #[.pointer (some ⟨p, 0, none⟩), .int .u8 (x.toNat : Int)] w (Does n₀ w p t rest hv (chunkF st x)) := by
 have hp : p < w.heap.size := h.plt
 have h0 := h.alloc (.cells evZero 206)
 have hbx : (w.alloc (.cells evZero 206)).heap[w.heap.size]? = some (.cells evZero 206 (0, 0)) := heap_alloc_new _ _
 have hc0 : Chg (FM p hv) w (w.alloc (.cells evZero 206)) := (Chg.refl _ _).alloc _
 have H0 := hidZ h0
 have HBX := hidZ hbx
 have HC0 := hidZ hc0
 have ht := ten_test x
 clear h h0 hbx hc0
 by_cases hx : x = 10
 ·rw [decide_eq_true hx] at ht
  have hr : chunkF st x = (beginF (beginF st 4) 0, [toldE 6]) := by unfold chunkF; rw [if_pos hx]; rfl
  rw [hr]
  clear hx hr
  go_enter Tryz.func150, Tryz.ntmps150
  go_wp2_with fail
  refine (begin_any H0.out.box 4).mono ?_
  rintro e w1 ⟨⟨v, rfl⟩, rfl⟩
  go_wp2_with fail
  refine (begin_any (H0.out.begun 4).box 0).mono ?_
  rintro e w2 ⟨⟨v2, rfl⟩, rfl⟩
  have hb2 := (H0.out.begun 4).begun 0
  have hc2 := begun_chg (begun_chg HC0.out (fun _ => .inl rfl) 4) (fun _ => .inl rfl) 0
  have hbx2 : (begunW (begunW (w.alloc (.cells evZero 206)) p 4) p 0).heap[w.heap.size]? = some (.cells evZero 206 (0, 0)) :=
   ((begun_only _ p 4).trans (begun_only _ p 0)).obj HBX.out (by omega)
  have HB2 := hidZ hb2
  have HC2 := hidZ hc2
  have HX2 := hidZ hbx2
  clear hb2 hc2
  change Hid (FeedAt n₀ (begunW (begunW (w.alloc (.cells evZero 206)) p 4) p 0) _ _ _ _ _ _) at HB2
  generalize begunW (begunW (w.alloc (.cells evZero 206)) p 4) p 0 = W2 at *
  go_wp2_with (first
   | ((with_reducible show wpList _ _ _ (⟨none, Op.store _ _ _, _, _, _, _⟩ :: _) _ _); refine wpList_store_whole (by rfl) 206 (.tmp 4) (.tmp 12) (by rfl) w.heap.size (by rfl) (evCells (.slice none 0 0) (toldE 6)).toArray (by rfl) _ 206 hbx2 (by rfl) (by kernel_rfl) (by simp [Value.oneCell']) ?_; intro w3 hr3 hg3 hs3)
   | ((with_reducible show bodyPost _ _ _ Exit.ret _ _); exact bodyPost_ret (v := .tuple #[evV (.slice none 0 0) (toldE 6), .bool true]) (results_row_tmp rfl _ _ w.heap.size _ _ _ _ (by rfl) hr3 Tryz.underlying206 rfl (by kernel_rfl) _ (by rfl)) rfl (by
     obtain ⟨h1, h2, h3⟩ := does_box hp HB2.out HC2.out (Nat.le_refl _) HX2.out hg3
     exact ⟨_, _, h1, h2, nil_fresh, .inr ⟨toldE 6, .slice none 0 0, rfl, rfl, Row.nil _ _ _⟩⟩))
   | fail)
 ·rw [decide_eq_false hx] at ht
  have hr : chunkF st x = (beginF st 4, [toldE 6]) := by unfold chunkF; rw [if_neg hx]
  rw [hr]
  clear hx hr
  go_enter Tryz.func150, Tryz.ntmps150
  go_wp2_with fail
  refine (begin_any H0.out.box 4).mono ?_
  rintro e w1 ⟨⟨v, rfl⟩, rfl⟩
  have hb2 := H0.out.begun 4
  have hc2 := begun_chg HC0.out (fun _ => .inl rfl) 4
  have hbx2 : (begunW (w.alloc (.cells evZero 206)) p 4).heap[w.heap.size]? = some (.cells evZero 206 (0, 0)) :=
   (begun_only _ p 4).obj HBX.out (by omega)
  have HB2 := hidZ hb2
  have HC2 := hidZ hc2
  have HX2 := hidZ hbx2
  clear hb2 hc2
  change Hid (FeedAt n₀ (begunW (w.alloc (.cells evZero 206)) p 4) _ _ _ _ _ _) at HB2
  generalize begunW (w.alloc (.cells evZero 206)) p 4 = W2 at *
  go_wp2_with (first
   | ((with_reducible show wpList _ _ _ (⟨none, Op.store _ _ _, _, _, _, _⟩ :: _) _ _); refine wpList_store_whole (by rfl) 206 (.tmp 4) (.tmp 12) (by rfl) w.heap.size (by rfl) (evCells (.slice none 0 0) (toldE 6)).toArray (by rfl) _ 206 hbx2 (by rfl) (by kernel_rfl) (by simp [Value.oneCell']) ?_; intro w3 hr3 hg3 hs3)
   | ((with_reducible show bodyPost _ _ _ Exit.ret _ _); exact bodyPost_ret (v := .tuple #[evV (.slice none 0 0) (toldE 6), .bool true]) (results_row_tmp rfl _ _ w.heap.size _ _ _ _ (by rfl) hr3 Tryz.underlying206 rfl (by kernel_rfl) _ (by rfl)) rfl (by
     obtain ⟨h1, h2, h3⟩ := does_box hp HB2.out HC2.out (Nat.le_refl _) HX2.out hg3
     exact ⟨_, _, h1, h2, nil_fresh, .inr ⟨toldE 6, .slice none 0 0, rfl, rfl, Row.nil _ _ _⟩⟩))
   | fail)
end Go.Proofs.YtnkkoicbnbjlnaaGreatDoor
