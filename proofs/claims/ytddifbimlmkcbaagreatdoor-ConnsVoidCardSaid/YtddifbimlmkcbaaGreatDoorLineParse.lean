/- lines.Parse: the command of a line, and what is told of it. Conditions: the library's variables MaxLen and ErrRange hold what they must; a line of at most 2^20 bytes. -/
import Derived.Test.YtddifbimlmkcbaaGreatDoorLineLoop
import Derived.Test.YtddifbimlmkcbaaGreatDoorLowA
namespace Go.Proofs.YtddifbimlmkcbaaGreatDoor
open Go.RowKit Go.ChangeMaps Go.MapKept

/-- A command's value, its keys' slice given. -/
abbrev cmdV (ks : Value) (c : Cmd) : Value := .agg #[.int .u8 (c.verb : Int), ks, .int .u8 (c.cverb : Int), sv c.key, sv c.value, .int .u32 (c.flags : Int), .int .i64 c.exp, .int .u64 (c.id : Int), .int .u64 (c.by' : Int), .int .i64 c.bytes, .bool c.quiet]

theorem shapes_below (w : World) : Below w.heap.size w (shapesW w) := by
  unfold shapesW
  exact (((((((Below.refl _ _).alloc (Nat.le_refl _) _).alloc (by simp) _).alloc (by simp; omega) _).alloc (by simp; omega) _).alloc (by simp; omega) _).alloc (by simp; omega) _).alloc (by simp; omega) _
theorem shapes_size (w : World) : (shapesW w).heap.size = w.heap.size + 7 := by simp [shapesW]
theorem shapes_block (w : World) (k : Nat) (hk : k < 7) : (shapesW w).heap[w.heap.size + k]? = some ([.cells #[.int .i64 0, .int .i64 1, .int .i64 2] 169, .map (shapeEs w.heap.size).toArray 13, .cells #[.int .i64 0, .int .i64 1, .int .i64 2, .int .i64 3] 169, .cells #[.int .i64 1] 169, .cells #[.int .i64 4] 169, .cells #[.int .i64 4] 169, .cells #[.int .i64 1] 169][k]'hk) := by
  unfold shapesW
  simp only [heap_at, size_at]
  match k, hk with
  | 0, _ => repeat (rw [if_neg (by omega)])
            rw [if_pos (by omega)]; rfl
  | 1, _ => repeat (rw [if_neg (by omega)])
            rw [if_pos (by omega)]; rfl
  | 2, _ => repeat (rw [if_neg (by omega)])
            rw [if_pos (by omega)]; rfl
  | 3, _ => repeat (rw [if_neg (by omega)])
            rw [if_pos (by omega)]; rfl
  | 4, _ => repeat (rw [if_neg (by omega)])
            rw [if_pos (by omega)]; rfl
  | 5, _ => repeat (rw [if_neg (by omega)])
            rw [if_pos (by omega)]; rfl
  | 6, _ => rw [if_pos (by omega)]; rfl
theorem shapes_rest (w : World) (v : Nat) : ∃ rb rc, restV w.heap.size v = (if (restOf v).length = 0 then .slice none 0 0 else .slice (some ⟨rb, 0, none⟩) (restOf v).length rc) ∧ w.heap.size ≤ rb ∧ rb < w.heap.size + 7 ∧
    ∀ (j f : Nat), (restOf v)[j]? = some f → (shapesW w).cell? ⟨rb, j, none⟩ = some (.int .i64 (f : Int)) := by
  have key : ∀ (k : Nat) (hk : k < 7) (cs : Array Value) (L : List Nat), (shapesW w).heap[w.heap.size + k]? = some (.cells cs 169 (0, 0)) → cs = (L.map (fun f : Nat => Value.int .i64 (f : Int))).toArray → ∀ (j f : Nat), L[j]? = some f → (shapesW w).cell? ⟨w.heap.size + k, j, none⟩ = some (.int .i64 (f : Int)) := by
    intro k hk cs L h1 h2 j f hf
    rw [(block_cell h1 j).1, h2]
    simp [hf]
  by_cases hv : v < 14
  · match v, hv with
    | 0, _ => exact ⟨w.heap.size, 0, rfl, by omega, by omega, fun j f h => by simp [restOf] at h⟩
    | 1, _ => exact ⟨w.heap.size, 0, rfl, by omega, by omega, fun j f h => by simp [restOf] at h⟩
    | 2, _ => exact ⟨w.heap.size, 0, rfl, by omega, by omega, fun j f h => by simp [restOf] at h⟩
    | 3, _ => exact ⟨w.heap.size + 0, 3, rfl, by omega, by omega, key 0 (by omega) _ _ (shapes_block w 0 (by omega)) rfl⟩
    | 4, _ => exact ⟨w.heap.size + 0, 3, rfl, by omega, by omega, key 0 (by omega) _ _ (shapes_block w 0 (by omega)) rfl⟩
    | 5, _ => exact ⟨w.heap.size + 0, 3, rfl, by omega, by omega, key 0 (by omega) _ _ (shapes_block w 0 (by omega)) rfl⟩
    | 6, _ => exact ⟨w.heap.size + 2, 4, rfl, by omega, by omega, key 2 (by omega) _ _ (shapes_block w 2 (by omega)) rfl⟩
    | 7, _ => exact ⟨w.heap.size, 0, rfl, by omega, by omega, fun j f h => by simp [restOf] at h⟩
    | 8, _ => exact ⟨w.heap.size + 3, 1, rfl, by omega, by omega, key 3 (by omega) _ _ (shapes_block w 3 (by omega)) rfl⟩
    | 9, _ => exact ⟨w.heap.size + 4, 1, rfl, by omega, by omega, key 4 (by omega) _ _ (shapes_block w 4 (by omega)) rfl⟩
    | 10, _ => exact ⟨w.heap.size + 5, 1, rfl, by omega, by omega, key 5 (by omega) _ _ (shapes_block w 5 (by omega)) rfl⟩
    | 11, _ => exact ⟨w.heap.size + 6, 1, rfl, by omega, by omega, key 6 (by omega) _ _ (shapes_block w 6 (by omega)) rfl⟩
    | 12, _ => exact ⟨w.heap.size, 0, rfl, by omega, by omega, fun j f h => by simp [restOf] at h⟩
    | 13, _ => exact ⟨w.heap.size, 0, rfl, by omega, by omega, fun j f h => by simp [restOf] at h⟩
  · have h1 : restOf v = [] := by
      simp [restOf, List.getD_eq_getElem?_getD, List.getElem?_eq_none (l := [[], [], [], [0, 1, 2], [0, 1, 2], [0, 1, 2], [0, 1, 2, 3], [], [1], [4], [4], [1], [], []]) (i := v) (by simp; omega)]
    have h2 : restV w.heap.size v = .slice none 0 0 := by
      unfold restV
      rw [List.getD_eq_getElem?_getD, List.getElem?_eq_none (by simp; omega)]; rfl
    exact ⟨w.heap.size, 0, by rw [h1, h2]; rfl, by omega, by omega, fun j f h => by rw [h1] at h; simp at h⟩

/-- What Parse answers. -/
def ParseOk (l : List UInt8) (w : World) (e : Ending) (w' : World) : Prop :=
  ∃ ks, e = .returned (.tuple #[cmdV ks (parseL l).1, .int .u8 ((parseL l).2 : Int)]) ∧ OwnT w' w.heap.size 9 ks ((parseL l).1.keys.map sv) ∧ Below w.heap.size w w'

theorem bcell {W w1 : World} (hb : Below W.heap.size W w1) : (∀ b o, b < W.heap.size → w1.cell? ⟨b, o, none⟩ = W.cell? ⟨b, o, none⟩) ∧ (∀ b o, b < W.heap.size → w1.frozen? ⟨b, o, none⟩ = W.frozen? ⟨b, o, none⟩) :=
  ⟨fun b o h => hb.cell (p := ⟨b, o, none⟩) h, fun b o h => hb.frozen (p := ⟨b, o, none⟩) h⟩
theorem wordsGo_short : ∀ (l cur : List UInt8), ∀ x ∈ wordsGo l cur, x.length ≤ l.length + cur.length := by
  intro l
  induction l with
  | nil =>
    intro cur x hx
    unfold wordsGo at hx
    split at hx <;> simp_all
  | cons c l ih =>
    intro cur x hx
    unfold wordsGo at hx
    split at hx
    · split at hx
      · have := ih _ x hx; simp at this ⊢; omega
      · rcases List.mem_cons.1 hx with h | h
        · subst h; simp
        · have := ih _ x h; simp at this ⊢; omega
    · have := ih _ x hx; simp at this ⊢; omega
theorem words_short (l : List UInt8) : ∀ x ∈ words l, x.length ≤ l.length := fun x hx => by have := wordsGo_short l [] x hx; simpa using this
theorem seg_of {w : World} {B p : Nat} {v : Value} {x : List UInt8} {xs : List (List UInt8)} (h : Strs w B v (x :: xs)) (hp : w.heap.size ≤ p) : Seg w p v (x :: xs) := by
  obtain ⟨g, o, c, rfl, h1, h2, h3, h4, h5⟩ := Own.some h (by simp)
  rw [List.length_map] at *
  exact ⟨g, o, c, rfl, h3, h4, by omega, h2, fun j y hy => (h5 j (sv y) (by rw [List.getElem?_map, hy]; rfl)).1⟩

abbrev zeroA : Array Value := #[.int .u8 0, .slice none 0 0, .int .u8 0, .string ⟨#[]⟩, .string ⟨#[]⟩, .int .u32 0, .int .i64 0, .int .u64 0, .int .u64 0, .int .i64 0, .bool false]
abbrev zeroV : Value := .agg zeroA
theorem parseOk_zero {l : List UInt8} {w w' : World} {t : Nat} (h : parseL l = (noCmd, t)) (hb : Below w.heap.size w w') : ParseOk l w (.returned (.tuple #[zeroV, .int .u8 (t : Int)])) w' :=
  ⟨.slice none 0 0, by rw [h]; rfl, by rw [h]; exact ⟨Own.nil _ _, fun g hg => by simp [Value.ownBlock] at hg⟩, hb⟩

set_option maxRecDepth 100000 in
set_option maxHeartbeats 3200000 in
theorem parse_long' (s : ByteArray) (w : World) (h : 2048 < s.size) (hs : s.size ≤ 1048576) : Calls Tryz.prog 75 #[.string s] w (ParseOk (bs s) w) := by
  have hp : parseL (bs s) = (noCmd, 3) := by unfold parseL; rw [if_pos (by rw [bs_length]; exact h)]
  have HP := Lib.hid hp
  clear hp
  go_enter Tryz.func75, Tryz.ntmps75
  go_wp2_with fail
  exact bodyPost_ret (v := .tuple #[zeroV, .int .u8 3]) (by simp [results, Tryz.results75, go_sem]) rfl (parseOk_zero HP.out ((Below.refl _ _).alloc (Nat.le_refl _) _))

set_option maxRecDepth 100000 in
set_option maxHeartbeats 3200000 in
theorem parse_none' (s : ByteArray) (w : World) (h : s.size ≤ 2048) (hl : words (bs s) = []) (hL : HasLen w) : Calls Tryz.prog 75 #[.string s] w (ParseOk (bs s) w) := by
  have hp : parseL (bs s) = (noCmd, 1) := by unfold parseL; rw [if_neg (by rw [bs_length]; omega), hl]
  have hsz : decide ((2048 : Int) < (s.size : Int)) = false := by rw [decide_eq_false_iff_not]; omega
  have HL := Lib.hid hL
  have HP := Lib.hid hp
  have HW := Lib.hid hl
  clear hL hp hl
  go_enter Tryz.func75, Tryz.ntmps75
  go_wp2_with fail
  refine (words_any s _ (by omega) (HL.out.below ((Below.refl _ _).alloc (Nat.le_refl _) _))).mono ?_
  rintro e w1 ⟨vw, rfl, hw, hb1⟩
  rw [HW.out] at hw
  obtain ⟨a, c, hv⟩ := Own.len hw
  obtain ⟨r1, r2⟩ := bcell hb1
  have hz := hb1.size
  have HV := Lib.hid hw
  have HB1 := Lib.hid hb1
  clear hw hb1
  rw [List.map_nil, List.length_nil] at hv
  have hR1 : w1.heap[w.heap.size]? = some (.cells zeroA 41 (0, 0)) := (HB1.out.block w.heap.size (by simp)).trans (heap_alloc_new _ _)
  have hR2 : ∀ o : Obj, (w1.alloc o).heap[w.heap.size]? = some (.cells zeroA 41 (0, 0)) := fun o => by rw [heap_at, if_neg (by have := lt_of_block hR1; omega)]; exact hR1
  clear r1 r2
  rw [hv]
  go_wp2_with ((with_reducible show wpList _ _ _ (⟨none, Op.store _ _ _, _, _, _, _⟩ :: _) _ _); refine wpList_store_whole (by rfl) 41 (.tmp 2) (.tmp 23) (by rfl) w.heap.size (by rfl) _ (by rfl) _ 41 (hR2 _) (by rfl) (by kernel_rfl) (by simp [Value.oneCell']) ?_; intro w2 hr2 hg2 hs2)
  have hbw : Below w.heap.size w w2 := below_then (((Below.refl _ _).alloc (Nat.le_refl _) _).trans ((HB1.out.mono (by simp)).trans ((Below.refl _ _).alloc (by simp at hz; omega) _))) (by simp at hz ⊢; omega) hg2 (Nat.le_refl _)
  exact bodyPost_ret (v := .tuple #[zeroV, .int .u8 1]) (results_row_tmp rfl _ _ w.heap.size _ _ _ _ (by rfl) hr2 Tryz.underlying41 rfl (by kernel_rfl) _ (by rfl)) rfl (parseOk_zero HP.out hbw)

/-- The words less a last noreply. -/
def lessOf (b : Bool) (l : List (List UInt8)) : List (List UInt8) := if b then l.dropLast else l
theorem lessOf_len (b : Bool) (l : List (List UInt8)) : (lessOf b l).length ≤ l.length := by
  cases b
  · exact Nat.le_refl _
  · show l.dropLast.length ≤ _
    rw [List.length_dropLast]; omega
theorem lessOf_mem {b : Bool} {l : List (List UInt8)} {x : List UInt8} (h : x ∈ lessOf b l) : x ∈ l := by
  cases b
  · exact h
  · exact (List.dropLast_sublist l).subset h
theorem parseL_bad {s : List UInt8} {name : List UInt8} {l : List (List UInt8)} (h : s.length ≤ 2048) (hw : words s = name :: l)
    (hb : verbOf name = 0 ∨ (lessOf (isQuiet (verbOf name) l) l).length < leastOf (verbOf name) ∨ mostOf (verbOf name) < (lessOf (isQuiet (verbOf name) l) l).length) : parseL s = (noCmd, 1) := by
  unfold parseL
  rw [if_neg (by omega), hw]
  exact if_pos hb
theorem parseL_good {s : List UInt8} {name : List UInt8} {l : List (List UInt8)} (h : s.length ≤ 2048) (hw : words s = name :: l)
    (hb : ¬ (verbOf name = 0 ∨ (lessOf (isQuiet (verbOf name) l) l).length < leastOf (verbOf name) ∨ mostOf (verbOf name) < (lessOf (isQuiet (verbOf name) l) l).length)) : parseL s = parseW (verbOf name) (isQuiet (verbOf name) l) (lessOf (isQuiet (verbOf name) l) l) := by
  unfold parseL
  rw [if_neg (by omega), hw]
  exact if_neg hb
theorem most_rest {v : Nat} {l : List (List UInt8)} (h1 : leastOf v ≤ l.length) (h2 : l.length ≤ mostOf v) : (l.drop (manyOf v l)).length ≤ (restOf v).length := by
  rw [List.length_drop]
  unfold manyOf
  split
  · omega
  · rename_i hk
    by_cases hv : v < 14
    · have : ∀ v < 14, keysOf v = false → mostOf v - min (leastOf v) 1 ≤ (restOf v).length := by decide
      have := this v hv (by simpa using hk)
      omega
    · have : mostOf v = 0 := by
        unfold mostOf
        rw [List.getD_eq_getElem?_getD, List.getElem?_eq_none (by simp; omega)]; rfl
      omega
theorem parseW_told {v : Nat} {q : Bool} {l : List (List UInt8)} (h0 : (parseW v q l).2 ≠ 0) (h5 : (parseW v q l).2 ≠ 5) : parseW v q l = (noCmd, (parseW v q l).2) := by
  cases h : (l.take (manyOf v l)).any badKey
  · have h1 := parseW_read (q := q) h
    generalize readAll (cmd0 v q (l.take (manyOf v l))) (restOf v) (l.drop (manyOf v l)) = r at h1
    rw [h1] at h0 h5 ⊢
    split at h1
    · rename_i hr; rw [if_pos hr]
    · rename_i hr
      rw [if_neg hr] at h0 h5
      split at h1
      · rename_i hb; rw [if_pos hb] at h5; simp at h5
      · rename_i hb; rw [if_neg hb] at h0; simp at h0
  · rw [parseW_bad h]
theorem range_cmd {w : World} {p : Nat} {ws ks : Value} {c : Cmd} (h : PAt w p ws ks c) : w.rangeAt p 1 (cmdCells ks c) := fun j v hv => by
  rw [show 1 + j = j + 1 from by omega]
  exact h.cell (j + 1) (by simpa using hv)
/-- What stands ahead of (*parser).parse: the parser in block p, the words l left, the result's block, the verb's shape in block sb. -/
def QuietSt (w W : World) (p sb v rb rc : Nat) (rr ws : Value) (q : Bool) (l : List (List UInt8)) : Prop :=
  PAt W p ws (.slice none 0 0) (cmdQ q) ∧ Seg W p ws l ∧ W.heap[w.heap.size]? = some (.cells zeroA 41 (0, 0)) ∧
    W.heap[sb]? = some (.cells #[.int .u8 (v : Int), .int .i64 (leastOf v : Int), .int .i64 (mostOf v : Int), .bool (quietOf v), .bool (keysOf v), rr] 152 (0, 0)) ∧ Below w.heap.size w W ∧ w.heap.size < p ∧ p ≠ sb ∧ rb ≠ p ∧
    rr = (if (restOf v).length = 0 then .slice none 0 0 else .slice (some ⟨rb, 0, none⟩) (restOf v).length rc) ∧ ∀ (j f : Nat), (restOf v)[j]? = some f → W.cell? ⟨rb, j, none⟩ = some (.int .i64 (f : Int))

theorem QuietSt.drewN {w W : World} {p sb v rb rc : Nat} {rr ws : Value} {q : Bool} {l : List (List UInt8)} (h : QuietSt w W p sb v rb rc rr ws q l) (n : Nat) : QuietSt w (W.drewN n) p sb v rb rc rr ws q l := by
  obtain ⟨h1, h2, h3, h4, h5, h6, h7, h8, h9, h10⟩ := h
  exact ⟨h1, h2, h3, h4, ⟨h5.os, h5.tape, h5.output, h5.size, h5.block⟩, h6, h7, h8, h9, h10⟩

set_option maxRecDepth 100000 in
set_option maxHeartbeats 6400000 in
theorem parse_some' (s : ByteArray) (name : List UInt8) (l : List (List UInt8)) (w : World) (h : s.size ≤ 2048) (hl : words (bs s) = name :: l) (hL : HasLen w) (hE : HasErr w) : Calls Tryz.prog 75 #[.string s] w (ParseOk (bs s) w) := by
  have hsz : decide ((2048 : Int) < (s.size : Int)) = false := by rw [decide_eq_false_iff_not]; omega
  have hll : (name :: l).length ≤ 2048 := by rw [← hl]; have := words_length (bs s); rw [bs_length] at this; omega
  have hxl : ∀ x ∈ name :: l, x.length ≤ 2048 := fun x hx => by rw [← hl] at hx; have := words_short (bs s) x hx; rw [bs_length] at this; omega
  have HX := Lib.hid hxl
  have HL := Lib.hid hL
  have HE := Lib.hid hE
  have HW := Lib.hid hl
  clear hL hE hl hxl
  rw [List.length_cons] at hll
  have hne : (((l.length : Int) + 1) == 0) = false := by rw [beq_eq_false_iff_ne]; omega
  go_enter Tryz.func75, Tryz.ntmps75
  go_wp2_with fail
  refine (words_any s _ (by omega) (HL.out.below ((Below.refl _ _).alloc (Nat.le_refl _) _))).mono ?_
  rintro e w1 ⟨vw, rfl, hw, hb1⟩
  rw [HW.out] at hw
  obtain ⟨a, c, hv⟩ := Own.len hw
  rw [List.length_map, List.length_cons] at hv
  obtain ⟨r1, r2⟩ := bcell hb1
  have hz := hb1.size
  have HV := Lib.hid hw
  have HB1 := Lib.hid hb1
  clear hw hb1
  have hR1 : w1.heap[w.heap.size]? = some (.cells zeroA 41 (0, 0)) := (HB1.out.block w.heap.size (by simp)).trans (heap_alloc_new _ _)
  have hRl := lt_of_block hR1
  have hP2 : PAt (w1.alloc (.cells #[.slice a (l.length + 1) c, .int .u8 0, .slice none 0 0, .int .u8 0, .string ⟨#[]⟩, .string ⟨#[]⟩, .int .u32 0, .int .i64 0, .int .u64 0, .int .u64 0, .int .i64 0, .bool false] 149)) w1.heap.size (.slice a (l.length + 1) c) (.slice none 0 0) (cmdQ false) := heap_alloc_new _ _
  have hG2 := (Below.refl w1.heap.size w1).alloc (Nat.le_refl _) (.cells #[.slice a (l.length + 1) c, .int .u8 0, .slice none 0 0, .int .u8 0, .string ⟨#[]⟩, .string ⟨#[]⟩, .int .u32 0, .int .i64 0, .int .u64 0, .int .u64 0, .int .i64 0, .bool false] 149)
  have hS2 : Seg (w1.alloc (.cells #[.slice a (l.length + 1) c, .int .u8 0, .slice none 0 0, .int .u8 0, .string ⟨#[]⟩, .string ⟨#[]⟩, .int .u32 0, .int .i64 0, .int .u64 0, .int .u64 0, .int .i64 0, .bool false] 149)) w1.heap.size (.slice a (l.length + 1) c) (name :: l) := by
    have h1 := seg_of HV.out (Nat.le_refl _)
    rw [hv] at h1
    exact h1.grown (World.grownBy_alloc _ _ _)
  have hsz2 : (w1.alloc (.cells #[.slice a (l.length + 1) c, .int .u8 0, .slice none 0 0, .int .u8 0, .string ⟨#[]⟩, .string ⟨#[]⟩, .int .u32 0, .int .i64 0, .int .u64 0, .int .u64 0, .int .i64 0, .bool false] 149)).heap.size = w1.heap.size + 1 := size_at _ _
  clear r1 r2
  rw [hv]
  go_wp2_with fail
  generalize w1.alloc (.cells #[.slice a (l.length + 1) c, .int .u8 0, .slice none 0 0, .int .u8 0, .string ⟨#[]⟩, .string ⟨#[]⟩, .int .u32 0, .int .i64 0, .int .u64 0, .int .u64 0, .int .i64 0, .bool false] 149) = W2 at *
  have hp1 : (∀ (b o : Nat), b < w1.heap.size → W2.cell? ⟨b, o, none⟩ = w1.cell? ⟨b, o, none⟩) := fun b o h => hG2.cell (p := ⟨b, o, none⟩) h
  refine (shapes_any W2).mono ?_
  rintro e w' ⟨rfl, rfl⟩
  obtain ⟨rb, rc, hrr, hrb, hrb2, hrcell⟩ := shapes_rest W2 (verbOf name)
  have hmap : (shapesW W2).heap[W2.heap.size + 1]? = some (.map (shapeEs W2.heap.size).toArray 13) := shapes_block W2 1 (by omega)
  have hB3 := shapes_below W2
  have hz3 := shapes_size W2
  have hP3 := hP2.below hB3
  have hS3 := hS2.grown (grown_below hB3 (some w1.heap.size))
  have hR3 : (shapesW W2).heap[w.heap.size]? = some (.cells zeroA 41 (0, 0)) := (hB3.block _ (by omega)).trans ((hG2.block _ hRl).trans hR1)
  have hBall : Below w.heap.size w (shapesW W2) := ((Below.refl _ _).alloc (Nat.le_refl _) _).trans ((HB1.out.mono (by simp)).trans ((hG2.mono (by omega)).trans (hB3.mono (by omega))))
  generalize hpp : w1.heap.size = p at *
  generalize hBB : W2.heap.size = B at *
  generalize shapesW W2 = W3 at *
  have HP3 := Lib.hid hP3
  have HS3 := Lib.hid hS3
  have HR3 := Lib.hid hR3
  have HBA := Lib.hid hBall
  have HMAP := Lib.hid hmap
  have HRC := Lib.hid hrcell
  have HRR := Lib.hid hrr
  have hzp : p < B := by omega
  have hRp : w.heap.size < p := hRl
  clear hP3 hS3 hR3 hBall hmap hrcell hrr hB3 hP2 hS2 hG2 hp1 hpp hBB HV HB1 hR1 hRl hv hz hsz2
  go_wp2_with fail
  refine (word_any p _ _ _ name l _ HP3.out HS3.out).mono ?_
  rintro e w4 ⟨rfl, ws4, hp4, hs4, hg4, _⟩
  have hlk : (Instr.lookup 154 (.map (some (B + 1))) (sv name) true).run Tryz.prog w4 = .ok (.tuple #[shapeV B (verbOf name), .bool (decide (verbOf name ≠ 0))]) w4 := shapes_at ((hg4.block _ (lt_of_block HMAP.out) (by simp; omega)).trans HMAP.out) name (by have := HX.out name (by simp); unfold maxLen; omega)
  unfold shapeV at hlk
  have hrr := HRR.out
  generalize hrv : restV B (verbOf name) = rr at *
  clear hrv
  generalize hdv : decide (verbOf name ≠ 0) = dv at *
  have HDV := Lib.hid hdv
  have HRR' := Lib.hid hrr
  have HP4 := Lib.hid hp4
  have HS4 := Lib.hid hs4
  have HG4 := Lib.hid hg4
  clear hrr hdv hp4 hs4 hg4 HRR
  generalize hV : verbOf name = v at *
  have HVB := Lib.hid hV
  clear hV
  have hrr1 : rr.oneCell' = true := by rw [HRR'.out]; split <;> rfl
  have hsh : (w4.alloc (.cells #[.int .u8 0, .int .i64 0, .int .i64 0, .bool false, .bool false, .slice none 0 0] 152)).heap[w4.heap.size]? = some (.cells #[.int .u8 0, .int .i64 0, .int .i64 0, .bool false, .bool false, .slice none 0 0] 152 (0, 0)) := heap_alloc_new _ _
  go_upto_region 7 with ((with_reducible show wpList _ _ _ (⟨none, Op.store _ _ _, _, _, _, _⟩ :: _) _ _); refine wpList_store_whole (by rfl) 152 (.tmp 5) (.tmp 29) (by rfl) w4.heap.size (by rfl) _ (by rfl) _ 152 hsh (by rfl) (by kernel_rfl) (by simp [Value.oneCell']; exact hrr1) ?_; intro w5 hr5 hg5 hs5)
  have hz4 := HG4.out.size
  have hpz4 : p < w4.heap.size := HP4.out.lt
  have hg45 : w4.grownBy w5 (some p) := by
    have h1 := World.grownBy_alloc w4 (.cells #[.int .u8 0, .int .i64 0, .int .i64 0, .bool false, .bool false, .slice none 0 0] 152) (some p)
    exact ⟨hg5.os.trans h1.os, hg5.tape.trans h1.tape, hg5.output.trans h1.output, Nat.le_trans h1.size hg5.size, fun k hk hne => (hg5.block k (by simp; omega) (by simp; omega)).trans (h1.block k hk hne)⟩
  have hp5 : PAt w5 p ws4 (.slice none 0 0) (cmdQ false) := (HP4.out.grown (World.grownBy_alloc w4 _ none) (by simp)).grown hg5 (by simp; omega)
  have hs5' : Seg w5 p ws4 l := HS4.out.grown hg45
  have hg35 := grown_trans HG4.out hg45
  have hst : QuietSt w w5 p w4.heap.size v rb rc rr ws4 false l := by
    refine ⟨hp5, hs5', (hg35.block _ (lt_of_block HR3.out) (by simp; omega)).trans HR3.out, hr5, below_then HBA.out (by omega) hg35 (by omega), hRp, by omega, by omega, HRR'.out, ?_⟩
    intro j f hf
    exact grown_cell (HRC.out j f hf) hg35 (by omega)
  have HST := Lib.hid hst
  generalize hsb : w4.heap.size = sb at *
  clear hsb hst hp5 hs5' hg35 hg45 hr5 hg5 hs5 hz4 hsh HP4 HS4 HG4 hrr1 HRC HRR' HBA HR3 HP3 HS3 HMAP hlk
  obtain ⟨hp5, hs5, hR5, hsh5, hb5, hRp', hps, hrbp, hrr5, hrc5⟩ := HST.out
  obtain ⟨g4, o4, cap4, rfl, hcap4, hcm4, hgp4, hgl4, hwc4⟩ := id hs5
  have hcl := hp5.cell 0 rfl
  have q1 : w5.cell? ⟨sb, 1, none⟩ = some (.int .i64 (leastOf v : Int)) := (block_cell hsh5 1).1
  have q3 : w5.cell? ⟨sb, 3, none⟩ = some (.bool (quietOf v)) := (block_cell hsh5 3).1
  have HP5 := Lib.hid hp5
  have HS5 := Lib.hid hs5
  have HWC := Lib.hid hwc4
  clear hp5 hs5 hR5 hsh5 hb5 hrr5 hrc5 hwc4
  go_upto_region 8 with fail
  go_cut [54] (fun s54 wx => w5 = wx ∧ ∃ b, s54 = .bool b ∧ b = isQuiet v l)
  case first =>
    cases hq : quietOf v
    · rw [hq] at q3
      have HQ := Lib.hid hq
      clear hq
      go_wp2_with fail
      go_meet
      case rel => exact ⟨rfl, false, rfl, by simp [isQuiet, HQ.out]⟩
    · rw [hq] at q3
      have HQ := Lib.hid hq
      clear hq
      by_cases hlt : leastOf v < l.length
      · have hne : l ≠ [] := by rintro rfl; simp at hlt
        obtain ⟨x, hx⟩ : ∃ x, l[l.length - 1]? = some x := ⟨_, List.getElem?_eq_getElem (by omega)⟩
        have hcx := HWC.out _ _ hx
        have hlast : l.getLast? = some x := by rw [List.getLast?_eq_getElem?, hx]
        have hiq : isQuiet v l = (x == noreply) := by simp [isQuiet, HQ.out, hlt, hlast]
        have HIQ := Lib.hid hiq
        generalize hn : l.length = n at *
        have hix : ∀ W : World, (Instr.indexAt 35 (.slice (some ⟨g4, o4, none⟩) n cap4) (.int .i64 ((n : Int) - 1))).run Tryz.prog W = .ok (.pointer (some ⟨g4, o4 + (n - 1), none⟩)) W := fun W => by
          have h := idx_str' (a := some ⟨g4, o4, none⟩) (n := n) (c := cap4) (k := n - 1) rfl (by omega) W
          rwa [show ((n - 1 : Nat) : Int) = (n : Int) - 1 from by omega] at h
        clear hx hlast hiq hn
        go_wp2_with fail
        go_meet
        case rel => exact ⟨rfl, _, rfl, HIQ.out.symm⟩
      · have hlt' : decide ((leastOf v : Int) < (l.length : Int)) = false := by rw [decide_eq_false_iff_not]; omega
        go_wp2_with fail
        go_meet
        case rel => exact ⟨rfl, false, rfl, by simp [isQuiet, HQ.out]; omega⟩
  case rest =>
    obtain ⟨rfl, b, rfl, hbq⟩ := hcut
    have hbl : b = true → l ≠ [] := by rintro h rfl; rw [hbq] at h; simp [isQuiet] at h
    have HBQ := Lib.hid hbq
    clear hbq
    go_upto_if 54 with fail
    go_cut [] (fun wx => ∃ W5 ws5, W5 = wx ∧ QuietSt w W5 p sb v rb rc rr ws5 b (lessOf b l))
    case first =>
      cases b
      · go_wp2_with fail
        go_meet
        case rel => exact ⟨w5, _, rfl, HST.out⟩
      · have hn := List.length_pos_iff.2 (hbl rfl)
        have hdl : (l.dropLast).length = l.length - 1 := List.length_dropLast
        have f0 := HP5.out.free 0
        have f11 := HP5.out.free 11
        have c11 := HP5.out.cell 11 rfl
        have hwr : IntKind.i64.wrap ((l.length : Int) - 1) = (l.length : Int) - 1 := IntWalk.i64_in _ (by omega)
        have h0 : (0 : Int) ≤ (l.length : Int) - 1 := by omega
        have h1 : (l.length : Int) - 1 ≤ (cap4 : Int) := by omega
        go_wp2_with fail
        go_meet
        case rel =>
          refine ⟨_, .slice (some ⟨g4, o4, none⟩) (l.length - 1) cap4, rfl, ?_⟩
          obtain ⟨hp5, hs5, hR5, hsh5, hb5, hRp', hps, hrbp, hrr5, hrc5⟩ := HST.out
          have hg := grown_trans (grown_set w5 p 11 (.bool true)) (grown_set _ p 0 (.slice (some ⟨g4, o4, none⟩) (l.length - 1) cap4))
          refine ⟨(hp5.set 11 (.bool true) (c' := cmdQ true) rfl).set 0 (.slice (some ⟨g4, o4, none⟩) (l.length - 1) cap4) rfl, ?_, (hg.block _ (lt_of_block hR5) (by simp; omega)).trans hR5, (hg.block _ (lt_of_block hsh5) (by simp; omega)).trans hsh5, below_then hb5 hb5.size hg (by omega), hRp', hps, hrbp, hrr5, fun j f hf => grown_cell (hrc5 j f hf) hg hrbp⟩
          refine ⟨g4, o4, cap4, by simp [lessOf], by simp [lessOf]; omega, hcm4, hgp4, Nat.lt_of_lt_of_le hgl4 hg.size, fun j x hx => ?_⟩
          have hj : j < l.length - 1 := by have := (List.getElem?_eq_some_iff.1 hx).1; simp [lessOf] at this; omega
          have hx' : l[j]? = some x := by
            have h2 : l.dropLast[j]? = some x := hx
            rw [List.getElem?_dropLast, if_pos hj] at h2
            exact h2
          exact grown_cell (HWC.out j x hx') hg hgp4
    case rest =>
      obtain ⟨W5, ws5, rfl, hst5⟩ := hcut
      have hl5m : ∀ x ∈ lessOf b l, x.length ≤ maxLen := fun x hx => by have := HX.out x (List.mem_cons_of_mem _ (lessOf_mem hx)); unfold maxLen; omega
      have HL5M := Lib.hid hl5m
      clear hl5m
      obtain ⟨hp5, hs5, hR5, hsh5, hb5, hRp', hps, hrbp, hrr5, hrc5⟩ := id hst5
      have HST5 := Lib.hid hst5
      generalize hl5 : lessOf b l = l5 at *
      have HL5 := Lib.hid hl5
      have hl5l : l5.length ≤ 3000 := by have := lessOf_len b l; rw [hl5] at this; omega
      obtain ⟨g5, o5, cap5, rfl, _, _, _, _, _⟩ := id hs5
      have hcl5 := hp5.cell 0 rfl
      have q1 : W5.cell? ⟨sb, 1, none⟩ = some (.int .i64 (leastOf v : Int)) := (block_cell hsh5 1).1
      have q2 : W5.cell? ⟨sb, 2, none⟩ = some (.int .i64 (mostOf v : Int)) := (block_cell hsh5 2).1
      clear hp5 hs5 hR5 hsh5 hb5 hrr5 hrc5 hst5 hl5 hcl q3 HP5 HS5 HWC
      go_upto_region 11 with fail
      go_cut [90] (fun s90 wx => ∃ W6 bad, W6 = wx ∧ s90 = .bool bad ∧ bad = (!dv || decide (l5.length < leastOf v) || decide (mostOf v < l5.length)) ∧ QuietSt w W6 p sb v rb rc rr (.slice (some ⟨g5, o5, none⟩) l5.length cap5) b l5)
      case first =>
        cases dv
        · go_quiet (fail)
          go_wp2_with fail
          go_meet
          case rel => exact ⟨_, true, rfl, rfl, by simp, HST5.out.drewN _⟩
        · by_cases hb1 : l5.length < leastOf v
          · have hd1 : decide ((l5.length : Int) < (leastOf v : Int)) = true := by rw [decide_eq_true_eq]; omega
            have hd2 : decide (l5.length < leastOf v) = true := by rw [decide_eq_true_eq]; omega
            go_quiet (fail)
            go_wp2_with fail
            go_meet
            case rel => exact ⟨_, true, rfl, rfl, by simp [hd2], HST5.out.drewN _⟩
          · have hd1 : decide ((l5.length : Int) < (leastOf v : Int)) = false := by rw [decide_eq_false_iff_not]; omega
            have hd2 : decide (l5.length < leastOf v) = false := by rw [decide_eq_false_iff_not]; omega
            by_cases hb2 : mostOf v < l5.length
            · have hd3 : decide ((mostOf v : Int) < (l5.length : Int)) = true := by rw [decide_eq_true_eq]; omega
              have hd4 : decide (mostOf v < l5.length) = true := by rw [decide_eq_true_eq]; omega
              go_quiet (fail)
              go_wp2_with fail
              go_meet
              case rel => exact ⟨_, true, rfl, rfl, by simp [hd4], HST5.out.drewN _⟩
            · have hd3 : decide ((mostOf v : Int) < (l5.length : Int)) = false := by rw [decide_eq_false_iff_not]; omega
              have hd4 : decide (mostOf v < l5.length) = false := by rw [decide_eq_false_iff_not]; omega
              go_quiet (fail)
              go_wp2_with fail
              go_meet
              case rel => exact ⟨_, false, rfl, rfl, by simp [hd2, hd4], HST5.out.drewN _⟩
      case rest =>
        obtain ⟨W6, bad, rfl, rfl, hbad, hst6⟩ := hcut
        obtain ⟨hp6, hs6, hR6, hsh6, hb6, hRp6, hps6, hrb6, hrr6, hrc6⟩ := id hst6
        have hbl : (bs s).length ≤ 2048 := by rw [bs_length]; omega
        have hpb : bad = true → parseL (bs s) = (noCmd, 1) := fun h => parseL_bad hbl HW.out (by
          rw [HVB.out, ← HBQ.out, HL5.out]
          rw [h] at hbad
          have := HDV.out
          simp at hbad this
          rcases hbad.symm with h | h
          · exact .inr (.inr h)
          · rcases h with h | h
            · exact .inl (by rw [h] at this; simpa using this)
            · exact .inr (.inl h))
        have hpg : bad = false → parseL (bs s) = parseW v b l5 ∧ leastOf v ≤ l5.length ∧ l5.length ≤ mostOf v := fun h => by
          rw [h] at hbad
          have := HDV.out
          simp at hbad this
          have hg := parseL_good hbl HW.out (by
            rw [HVB.out, ← HBQ.out, HL5.out]
            rintro (h1 | h1 | h1)
            · rw [h1] at this; simp at this; simp [this] at hbad
            · omega
            · omega)
          rw [HVB.out, ← HBQ.out, HL5.out] at hg
          exact ⟨hg, by omega, by omega⟩
        have HPB := Lib.hid hpb
        have HPG := Lib.hid hpg
        have HST6 := Lib.hid hst6
        clear hpb hpg hst6 hbad HST5 HL5 HDV HVB HBQ HST hbl
        cases bad
        · obtain ⟨hpw, hle, hmo⟩ := HPG.out rfl
          have HPW := Lib.hid hpw
          clear hpw HPG HPB
          have hL5 : ∀ x ∈ l5, x.length ≤ maxLen := HL5M.out
          have hEE : ∀ w', W6.grownBy w' (some p) → HasErr w' := fun w' hg => HE.out.below (below_then hb6 hb6.size hg (by omega))
          have hload := hsh6
          have hcall := lparse_any p v b rr _ l5 W6 hp6 hs6 hEE (by omega) hL5 hle (most_rest hle hmo) rb rc hrr6 hrb6 hrc6
          have HCALL := Lib.hid hcall
          have HB6 := Lib.hid hb6
          have HR6 := Lib.hid hR6
          have HR6' := Lib.hid hR6
          clear hcall hEE hL5 hb6 hR6 hp6 hs6 hrc6 hrr6 hsh6 hcl5 q1 q2
          go_wp2_with ((with_reducible show wpList _ _ _ (⟨_, Op.load _ _, _, _, _, _⟩ :: _) _ _); refine wpList_load_row (by rfl) 152 (.tmp 5) (by rfl) sb (by rfl) 152 _ _ _ hload Tryz.underlying152 rfl (by kernel_rfl) ?_)
          refine HCALL.out.mono ?_
          rintro e w7 ⟨ws7, ks7, c7, rfl, hg7, hp7, hc7⟩
          have hR7 : w7.heap[w.heap.size]? = some (.cells zeroA 41 (0, 0)) := (hg7.block _ (lt_of_block HR6.out) (by simp; omega)).trans HR6.out
          have hB7 : Below w.heap.size w w7 := below_then HB6.out HB6.out.size hg7 (by omega)
          have hrng := range_cmd hp7
          have hpw7 := HPW.out
          have htold := fun h0 h5 => parseW_told (v := v) (q := b) (l := l5) h0 h5
          generalize hT : parseW v b l5 = T at *
          obtain ⟨Tc, T⟩ := T
          simp only at hc7 htold
          have HC7 := Lib.hid hc7
          have HTOLD := Lib.hid htold
          have HPW7 := Lib.hid hpw7
          have HB7 := Lib.hid hB7
          clear hc7 htold hpw7 hB7 hT HPW HCALL HB6 HR6 hg7 hp7
          have hRW : w.heap.size < W6.heap.size := lt_of_block HR6'.out
          by_cases hT0 : T = 0
          · have h0 : ((T : Int) != 0) = false := by rw [hT0]; rfl
            have HT0 := Lib.hid hT0
            have hT : T = 0 ∨ T = 5 := .inl hT0
            clear hT0
            obtain ⟨hcc, hown⟩ := HC7.out hT
            obtain ⟨ka, kc, hka⟩ := hown.1.len
            have hk1 : ks7.oneCell' = true := by rw [hka]; rfl
            have HOWN := Lib.hid hown
            have HCC := Lib.hid hcc
            have HKA := Lib.hid hka
            clear hown hcc hka hT
            go_wp2_with (first
              | ((with_reducible show wpList _ _ _ (⟨_, Op.load _ _, _, _, _, _⟩ :: _) _ _); refine wpList_load_mid (by rfl) 41 (.tmp 105) (by rfl) p 1 (by rfl) _ _ hrng Tryz.underlying41 rfl (by kernel_rfl) ?_)
              | ((with_reducible show wpList _ _ _ (⟨none, Op.store _ _ _, _, _, _, _⟩ :: _) _ _); refine wpList_store_whole (by rfl) 41 (.tmp 2) (.tmp 106) (by rfl) w.heap.size (by rfl) (cmdCells ks7 c7).toArray (by rfl) _ 41 hR7 (by rfl) (by kernel_rfl) (by simp [Value.oneCell']; exact hk1) ?_; intro w8 hr8 hg8 hs8)
              | ((with_reducible show bodyPost _ _ _ Exit.ret _ _); exact bodyPost_ret (v := .tuple #[cmdV ks7 c7, .int .u8 (T : Int)]) (results_row_tmp rfl _ _ w.heap.size _ _ _ _ (by rfl) hr8 Tryz.underlying41 rfl (by kernel_rfl) _ (by rfl)) rfl ⟨ks7, by rw [HPW7.out, HCC.out], by rw [HPW7.out, ← HCC.out]; exact (OwnT.grown HOWN.out hg8 hRW).mono (by omega), below_then HB7.out HB7.out.size hg8 (Nat.le_refl _)⟩))
          · by_cases hT5 : T = 5
            · have h0 : ((T : Int) != 0) = true := by rw [hT5]; rfl
              have h5 : ((T : Int) != 5) = false := by rw [hT5]; rfl
              have HT5 := Lib.hid hT5
              have hT : T = 0 ∨ T = 5 := .inr hT5
              clear hT5 hT0
              obtain ⟨hcc, hown⟩ := HC7.out hT
              obtain ⟨ka, kc, hka⟩ := hown.1.len
              have hk1 : ks7.oneCell' = true := by rw [hka]; rfl
              have HOWN := Lib.hid hown
              have HCC := Lib.hid hcc
              have HKA := Lib.hid hka
              clear hown hcc hka hT
              go_wp2_with (first
                | ((with_reducible show wpList _ _ _ (⟨_, Op.load _ _, _, _, _, _⟩ :: _) _ _); refine wpList_load_mid (by rfl) 41 (.tmp 105) (by rfl) p 1 (by rfl) _ _ hrng Tryz.underlying41 rfl (by kernel_rfl) ?_)
                | ((with_reducible show wpList _ _ _ (⟨none, Op.store _ _ _, _, _, _, _⟩ :: _) _ _); refine wpList_store_whole (by rfl) 41 (.tmp 2) (.tmp 106) (by rfl) w.heap.size (by rfl) (cmdCells ks7 c7).toArray (by rfl) _ 41 hR7 (by rfl) (by kernel_rfl) (by simp [Value.oneCell']; exact hk1) ?_; intro w8 hr8 hg8 hs8)
                | ((with_reducible show bodyPost _ _ _ Exit.ret _ _); exact bodyPost_ret (v := .tuple #[cmdV ks7 c7, .int .u8 (T : Int)]) (results_row_tmp rfl _ _ w.heap.size _ _ _ _ (by rfl) hr8 Tryz.underlying41 rfl (by kernel_rfl) _ (by rfl)) rfl ⟨ks7, by rw [HPW7.out, HCC.out], by rw [HPW7.out, ← HCC.out]; exact (OwnT.grown HOWN.out hg8 hRW).mono (by omega), below_then HB7.out HB7.out.size hg8 (Nat.le_refl _)⟩))
            · have h0 : ((T : Int) != 0) = true := by rw [bne_iff_ne]; omega
              have h5 : ((T : Int) != 5) = true := by rw [bne_iff_ne]; omega
              have HT0 := Lib.hid hT0
              have HT5 := Lib.hid hT5
              clear hT0 hT5
              go_wp2_with (first | ((with_reducible show wpList _ _ _ (⟨none, Op.store _ _ _, _, _, _, _⟩ :: _) _ _); refine wpList_store_whole (by rfl) 41 (.tmp 2) (.tmp 101) (by rfl) w.heap.size (by rfl) _ (by rfl) _ 41 hR7 (by rfl) (by kernel_rfl) (by simp [Value.oneCell']) ?_; intro w8 hr8 hg8 hs8) | ((with_reducible show bodyPost _ _ _ Exit.ret _ _); exact bodyPost_ret (v := .tuple #[zeroV, .int .u8 (T : Int)]) (results_row_tmp rfl _ _ w.heap.size _ _ _ _ (by rfl) hr8 Tryz.underlying41 rfl (by kernel_rfl) _ (by rfl)) rfl (parseOk_zero (HPW7.out.trans (HTOLD.out HT0.out HT5.out)) (below_then HB7.out HB7.out.size hg8 (Nat.le_refl _)))))
        · have HPB1 := Lib.hid (HPB.out rfl)
          clear HPB HPG
          go_wp2_with (first | ((with_reducible show wpList _ _ _ (⟨none, Op.store _ _ _, _, _, _, _⟩ :: _) _ _); refine wpList_store_whole (by rfl) 41 (.tmp 2) (.tmp 91) (by rfl) w.heap.size (by rfl) _ (by rfl) _ 41 hR6 (by rfl) (by kernel_rfl) (by simp [Value.oneCell']) ?_; intro w7 hr7 hg7 hs7) | ((with_reducible show bodyPost _ _ _ Exit.ret _ _); exact bodyPost_ret (v := .tuple #[zeroV, .int .u8 1]) (results_row_tmp rfl _ _ w.heap.size _ _ _ _ (by rfl) hr7 Tryz.underlying41 rfl (by kernel_rfl) _ (by rfl)) rfl (parseOk_zero HPB1.out (below_then hb6 hb6.size hg7 (Nat.le_refl _)))))

/-- lines.Parse: at every line of at most 2^20 bytes. -/
theorem lparseLine_any (s : ByteArray) (w : World) (hs : s.size ≤ 1048576) (hL : HasLen w) (hE : HasErr w) : Calls Tryz.prog 75 #[.string s] w (ParseOk (bs s) w) := by
  by_cases h : 2048 < s.size
  · exact parse_long' s w h hs
  · cases hw : words (bs s) with
    | nil => exact parse_none' s w (by omega) hw hL
    | cons name l => exact parse_some' s name l w (by omega) hw hL hE
theorem lparse_at (l : List UInt8) (w : World) (hs : l.length ≤ 1048576) (hL : HasLen w) (hE : HasErr w) : Calls Tryz.prog 75 #[sv l] w (ParseOk l w) := lparseLine_any ⟨l.toArray⟩ w (by rw [sv_size]; exact hs) hL hE
end Go.Proofs.YtddifbimlmkcbaaGreatDoor
