/- lines.Line: the line of a command. Conditions: the numbers of their kinds; the line of at most 2^20 bytes; the library variables as they must be. -/
import Derived.Test.YtofpaooaiafpbaaDoorLineRange
import Derived.Laws.AppendOwnNone
import Derived.Maps.AppendAt
namespace Go.Proofs.YtofpaooaiafpbaaDoor
open Go.RowKit Go.ChangeMaps Go.MapKept

/-- The fields that are written of a command. -/
def fieldsOf (c : Cmd) : List Nat := if 0 < leastOf c.verb ∨ c.exp ≠ 0 then restOf c.verb else []
/-- A command's words, whatever it says. -/
def lineW (c : Cmd) : List (List UInt8) := names.getD (c.verb - 1) [] :: c.keys ++ (fieldsOf c).map (textF c) ++ (if c.quiet then [noreply] else [])
def lineS (c : Cmd) : List UInt8 := Lib.join (lineW c) [32]
def lineOk (c : Cmd) : Bool := (parseL (lineS c)).2 == 0 && sameC (parseL (lineS c)).1 c
/-- A command's line, if it has one. -/
def lineL (c : Cmd) : List UInt8 × Bool := if c.verb ≠ 0 ∧ c.verb < 14 ∧ lineOk c = true then (lineS c, true) else ([], false)

def LineOk (c : Cmd) (w : World) (e : Ending) (w' : World) : Prop := e = .returned (.tuple #[sv (lineL c).1, .bool (lineL c).2]) ∧ Below w.heap.size w w'

/-- What the loop over the shapes holds. -/
def LineInv (c : Cmd) (B r : Nat) (W wr : World) : Prop :=
  ∃ seen c0, wr.heap[r]? = some (.mapIter (some (B + 1)) 13 seen c0) ∧ 13 ≤ c0 ∧ W.grownBy wr (some r) ∧ ((c.verb ≠ 0 ∧ c.verb < 14 → entryV B c.verb ∈ (leftOf (shapeEs B).toArray seen).toList) ∨ lineL c = ([], false))

theorem below_to {w w1 w2 : World} (h : Below w.heap.size w w1) (hg : w1.grownBy w2 none) : Below w.heap.size w w2 := ⟨hg.os.trans h.os, hg.tape.trans h.tape, hg.output.trans h.output, Nat.le_trans h.size hg.size, fun k hk => (hg.block k (Nat.lt_of_lt_of_le hk h.size) (by simp)).trans (h.block k hk)⟩
theorem row_none {w w' : World} {row : Option Nat} (h : w.grownBy w' none) : w.grownBy w' row := ⟨h.os, h.tape, h.output, h.size, fun k hk _ => h.block k hk (by simp)⟩
theorem own_none {w : World} {B n c : Nat} {L : List (List UInt8)} (h : Strs w B (.slice none n c) L) : L.length = 0 := by
  obtain ⟨a, c', he, _, _, _, h4⟩ := h
  rcases h4 with h4 | ⟨g, o, rfl, _⟩
  · rw [List.map_eq_nil_iff.1 h4]; rfl
  · have := (slice_inj he).1; cases this
theorem own_none_cap {w : World} {B n c : Nat} {L : List (List UInt8)} (h : Strs w B (.slice none n c) L) : c = 0 := by
  obtain ⟨a, c', he, _, _, h3, _⟩ := h
  obtain ⟨h1, _, h2⟩ := slice_inj he
  rw [h2]; exact h3 h1.symm
theorem own_cells {w : World} {B n c : Nat} {ad : Addr} {L : List (List UInt8)} (h : Strs w B (.slice (some ad) n c) L) (ob : Obj) (j : Nat) (x : Value) (hx : (L.map sv)[j]? = some x) : (w.alloc ob).cell? (ad.add j) = some x := by
  obtain ⟨a, c', he, _, _, _, h4⟩ := h
  rcases h4 with h4 | ⟨g, o, ha, _, h5⟩
  · rw [h4] at hx; simp at hx
  · have h1 := (slice_inj he).1
    rw [ha] at h1
    cases h1
    rw [show (⟨g, o, none⟩ : Addr).add j = ⟨g, o + j, none⟩ from Addr.add_mid g o j]
    exact (((Below.refl w.heap.size w).alloc (Nat.le_refl _) ob).cell (p := ⟨g, o + j, none⟩) (cell_lt (h5 j x hx).1)).trans (h5 j x hx).1
theorem one_svs (L : List (List UInt8)) : ∀ u ∈ L.map sv, u.oneCell' = true := fun u hu => by
  obtain ⟨x, _, rfl⟩ := List.mem_map.1 hu; rfl
theorem grown_new {w w' : World} {ob : Obj} (h : (w.alloc ob).grownBy w' (some w.heap.size)) : w.grownBy w' none := by
  have h1 := World.grownBy_alloc w ob none
  exact ⟨h.os.trans h1.os, h.tape.trans h1.tape, h.output.trans h1.output, Nat.le_trans h1.size h.size, fun k hk _ => (h.block k (by simp; omega) (by simp; omega)).trans (h1.block k hk (by simp))⟩
theorem rowKept {w w' : World} {B : Nat} {e : TypeId} {sz n : Nat} {v : Value} {xs : List Value} (h : w.ownsRow B e sz v n xs) (hb : Below w.heap.size w w') : w'.ownsRow B e sz v n xs := by
  obtain ⟨hl, h2⟩ := h
  refine ⟨hl, h2.imp id ?_⟩
  rintro ⟨g, cap, cur, rfl, hg, hh, hr⟩
  exact ⟨g, cap, cur, rfl, hg, (hb.block g (Array.getElem?_eq_some_iff.1 hh).1).trans hh, hr⟩
/-- The words behind i fields. -/
def wordsTo (c : Cmd) (nm : List UInt8) (i : Nat) : List (List UInt8) := nm :: c.keys ++ (if 0 < leastOf c.verb ∨ c.exp ≠ 0 then ((restOf c.verb).take i).map (textF c) else [])
theorem wordsTo_zero (c : Cmd) (nm : List UInt8) : wordsTo c nm 0 = nm :: c.keys := by unfold wordsTo; split <;> simp
theorem wordsTo_len (c : Cmd) (nm : List UInt8) (i : Nat) : (wordsTo c nm i).length ≤ c.keys.length + 5 := by
  have := rest_len c.verb
  unfold wordsTo
  split
  · simp only [List.cons_append, List.length_cons, List.length_append, List.length_map, List.length_take]; omega
  · simp
theorem wordsTo_next {c : Cmd} {nm : List UInt8} {i f : Nat} (hG : 0 < leastOf c.verb ∨ c.exp ≠ 0) (hf : (restOf c.verb)[i]? = some f) : wordsTo c nm (i + 1) = wordsTo c nm i ++ [textF c f] := by
  unfold wordsTo
  rw [if_pos hG, if_pos hG, List.take_add_one, hf]
  simp
theorem wordsTo_same {c : Cmd} {nm : List UInt8} (hG : ¬ (0 < leastOf c.verb ∨ c.exp ≠ 0)) (i j : Nat) : wordsTo c nm i = wordsTo c nm j := by
  unfold wordsTo
  rw [if_neg hG, if_neg hG]
theorem lineW_is (c : Cmd) (nm : List UInt8) (h : nm = names.getD (c.verb - 1) []) : lineW c = wordsTo c nm (restOf c.verb).length ++ (if c.quiet then [noreply] else []) := by
  subst h
  unfold lineW wordsTo fieldsOf
  split
  · rw [List.take_length]
  · rfl
theorem lineW_len (c : Cmd) : (lineW c).length ≤ c.keys.length + 6 := by
  rw [lineW_is c _ rfl, List.length_append]
  generalize names.getD (c.verb - 1) [] = nm
  have := wordsTo_len c nm (restOf c.verb).length
  have h2 : (if c.quiet then [noreply] else [] : List (List UInt8)).length ≤ 1 := by split <;> simp
  omega
theorem join_at {w : World} {B : Nat} {v : Value} {L : List (List UInt8)} (h : Strs w B v L) (hne : L ≠ []) (hN : L.length ≤ 140737488355328) (hlen : (Lib.join L [32]).length ≤ 140737488355328) :
    Calls Tryd.prog 16 #[v, sv [32]] w fun e w' => e = .returned (sv (Lib.join L [32])) ∧ Below w.heap.size w w' := by
  obtain ⟨g, o, c, rfl, _, hg, hle, _, hcell⟩ := Own.some h (by simpa using hne)
  rw [List.length_map] at hle ⊢
  have hm : (L.map (fun l : List UInt8 => (⟨l.toArray⟩ : ByteArray))).map (·.data.toList) = L := by
    rw [List.map_map]
    exact (List.map_congr_left (fun x _ => rfl)).trans (List.map_id L)
  have hx := Tryd.strings_Join g o c (L.map (fun l : List UInt8 => (⟨l.toArray⟩ : ByteArray))) ⟨#[32]⟩ w (fun j x hx => by
    rw [List.getElem?_map] at hx
    cases hl : L[j]? with
    | none => rw [hl] at hx; simp at hx
    | some y => rw [hl] at hx; simp at hx; subst hx; exact (hcell j (sv y) (by rw [List.getElem?_map, hl]; rfl)).1) hg (by simpa using hN) (by simpa using hle) (by rw [hm]; exact hlen)
  rw [List.length_map, hm] at hx
  exact hx
theorem idx_field {a : Option Addr} {g o n c k : Nat} (ha : a = some ⟨g, o, none⟩) (hk : k < n) (W : World) : (Instr.indexAt 46 (.slice a n c) (.int .i64 (k : Int))).run Tryd.prog W = .ok (.pointer (some ⟨g, o + k, none⟩)) W := by
  subst ha
  have h0 : (0 : Int) ≤ (k : Int) := by omega
  have h1 : (k : Int) < (n : Int) := by omega
  have h2 := Tryd.underlying46
  go_simp
theorem entry_start (B : Nat) {v : Nat} (h0 : v ≠ 0) (h : v < 14) : entryV B v ∈ (leftOf (shapeEs B).toArray #[]).toList := by
  have h1 := entry_in B v h0 h
  rw [Array.mem_toList_iff, leftOf, Array.mem_filter]
  exact ⟨Array.mem_toList_iff.1 h1, by simp⟩
set_option maxRecDepth 100000 in
set_option maxHeartbeats 6400000 in
theorem line_any {w : World} {BB : Nat} {kv : Value} {c : Cmd} (hk : Strs w BB kv c.keys) (hc : OkCmd c) (hlen : (lineS c).length ≤ 1048576) (hkl : c.keys.length ≤ 1048576) (hL : HasLen w) (hE : HasErr w) (hP : HasPow w) :
    Calls Tryd.prog 7 #[cmdV kv c] w (LineOk c w) := by
  obtain ⟨i0, hi, hz0, hz1, hz2⟩ := info_parts infoStr
  have Hi := Lib.hid hi
  have Hz := Lib.hid (And.intro hz0 (And.intro hz1 hz2))
  clear hi hz0 hz1 hz2
  obtain ⟨ka, kc, hka⟩ := hk.len
  rw [List.length_map] at hka
  have HK := Lib.hid hk
  have HC := Lib.hid hc
  have HL := Lib.hid hL
  have HE := Lib.hid hE
  have HP := Lib.hid hP
  have HLEN := Lib.hid hlen
  clear hk hc hL hE hP hlen
  have HKA := Lib.hid hka
  rw [hka]
  clear hka
  go_enter Tryd.func7, Tryd.ntmps7
  go_wp2_with fail
  refine (shapes_any _).mono ?_
  rintro e w' ⟨rfl, rfl⟩
  have hb1 : Below w.heap.size w (w.alloc (.cells (cmdCells (.slice ka c.keys.length kc) c).toArray 29)) := (Below.refl _ _).alloc (Nat.le_refl _) _
  have hbox : (w.alloc (.cells (cmdCells (.slice ka c.keys.length kc) c).toArray 29)).heap[w.heap.size]? = some (.cells (cmdCells (.slice ka c.keys.length kc) c).toArray 29 (0, 0)) := heap_alloc_new _ _
  have hz1 : (w.alloc (.cells (cmdCells (.slice ka c.keys.length kc) c).toArray 29)).heap.size = w.heap.size + 1 := size_at _ _
  generalize w.alloc (.cells (cmdCells (.slice ka c.keys.length kc) c).toArray 29) = W1 at *
  have hsb := shapes_below W1
  have hmap := shapes_block W1 1 (by omega)
  have hrest := fun v => shapes_rest W1 v
  have hz2 := shapes_size W1
  have hbox2 := (hsb.block w.heap.size (by omega)).trans hbox
  have hb2 : Below w.heap.size w (shapesW W1) := hb1.trans (hsb.mono (by omega))
  generalize hB : W1.heap.size = B at *
  generalize shapesW W1 = W2 at *
  have hmap' : W2.heap[B + 1]? = some (.map (shapeEs B).toArray 13) := hmap
  have hrg := run_range_map (P := Tryd.prog) W2 50 9 48 (B + 1) (shapeEs B).toArray 13 Tryd.underlying50 hmap'
  have HB2 := Lib.hid hb2
  have HBOX := Lib.hid hbox2
  have HMAP := Lib.hid hmap'
  have HREST := Lib.hid hrest
  clear hb1 hbox hsb hmap hrest hbox2 hb2 hmap' hB hz1
  go_wp2_with fail
  obtain ⟨r, hr⟩ : ∃ r, r = B + 7 := ⟨_, rfl⟩
  have hit : (W2.alloc (.mapIter (some (B + 1)) 13 #[] 13)).heap[r]? = some (.mapIter (some (B + 1)) 13 #[] 13) := by have h := heap_alloc_new W2 (.mapIter (some (B + 1)) 13 #[] 13); rw [hz2, ← hr] at h; exact h
  have hg2 := (Below.refl W2.heap.size W2).alloc (Nat.le_refl _) (.mapIter (some (B + 1)) 13 #[] 13)
  have hbox3 := (hg2.block _ (lt_of_block HBOX.out)).trans HBOX.out
  have hmap3 := (hg2.block _ (lt_of_block HMAP.out)).trans HMAP.out
  have hB3 : Below w.heap.size w (W2.alloc (.mapIter (some (B + 1)) 13 #[] 13)) := HB2.out.trans (hg2.mono (by have := HB2.out.size; omega))
  have hrl : r < (W2.alloc (.mapIter (some (B + 1)) 13 #[] 13)).heap.size := lt_of_block hit
  have hwr : w.heap.size < r := by have := lt_of_block HBOX.out; omega
  have hBr : B + 7 ≤ r := by omega
  have hrc := fun v => (HREST.out v)
  have hrest3 : ∀ v, ∃ rb rc, restV B v = (if (restOf v).length = 0 then .slice none 0 0 else .slice (some ⟨rb, 0, none⟩) (restOf v).length rc) ∧ rb < B + 7 ∧ ∀ (j f : Nat), (restOf v)[j]? = some f → (W2.alloc (.mapIter (some (B + 1)) 13 #[] 13)).cell? ⟨rb, j, none⟩ = some (.int .i64 (f : Int)) := fun v => by
    obtain ⟨rb, rc, h1, _, h3, h4⟩ := hrc v
    exact ⟨rb, rc, h1, h3, fun j f hf => (hg2.cell (p := ⟨rb, j, none⟩) (by show rb < _; omega)).trans (h4 j f hf)⟩
  rw [← hr]
  generalize W2.alloc (.mapIter (some (B + 1)) 13 #[] 13) = W3 at *
  have HBOX3 := Lib.hid hbox3
  have HMAP3 := Lib.hid hmap3
  have HB3 := Lib.hid hB3
  have HR3 := Lib.hid hrest3
  have HIT := Lib.hid hit
  clear hbox3 hmap3 hB3 hg2 hrc hrest3 hit HB2 HBOX HMAP HREST hz2 hr hrg
  go_loopw [4] (fun _ wr => LineInv c B r W3 wr) (fun _ wr => wr.rangeLeft (B + 1) r)
  case atStart => exact ⟨#[], 13, HIT.out, by omega, World.grownBy.refl _ _, .inl fun h => entry_start B h.1 h.2⟩
  case round =>
    obtain ⟨seen, c0, hir, hc0, hgr, hinv⟩ := hrel
    have hmapr := (hgr.block _ (lt_of_block HMAP3.out) (by simp; omega)).trans HMAP3.out
    have hboxr := (hgr.block _ (lt_of_block HBOX3.out) (by simp; omega)).trans HBOX3.out
    have HINV := Lib.hid hinv
    have HGR := Lib.hid hgr
    have HIR := Lib.hid hir
    have HMR := Lib.hid hmapr
    have HBR := Lib.hid hboxr
    clear hinv hgr hir hmapr hboxr
    have tok1 : True := trivial
    go_wp2_with (clear tok1; refine wpList_next_at (by rfl) (.tmp 13) (by rfl) r (B + 1) 13 c0 seen (shapeEs B).toArray 13 (by rfl) HIR.out HMR.out born_lt hc0 ?_ ?_)
    · intro h0
      have hfin : lineL c = ([], false) := by
        rcases HINV.out with h | h
        · unfold lineL
          rw [if_neg]
          rintro ⟨h1, h2, _⟩
          have := h ⟨h1, h2⟩
          rw [h0] at this
          simp at this
        · exact h
      have HFIN := Lib.hid hfin
      clear hfin h0
      go_wp2_with fail
      go_ret2
      exact ⟨by rw [HFIN.out]; rfl, below_then HB3.out HB3.out.size HGR.out (by omega)⟩
    · intro e he0 w5 hir5 hg5 hs5
      have he := Array.mem_toList_iff.2 he0
      obtain ⟨u, hu0, hu, rfl⟩ := entry_of (mem_left he).1
      have hm5 := (hg5.block _ (lt_of_block HMR.out) (by simp; omega)).trans HMR.out
      have hbx5 := (hg5.block _ (lt_of_block HBR.out) (by simp; omega)).trans HBR.out
      obtain ⟨nm, hnm⟩ : ∃ nm, nm = names.getD (u - 1) [] := ⟨_, rfl⟩
      have HNM := Lib.hid hnm
      have hen : (Instr.entry (.pointer (some ⟨r, 0, none⟩))).run Tryd.prog w5 = .ok (.tuple #[sv nm, shapeV B u]) w5 := by
        rw [hnm]
        exact run_entry_at w5 r (B + 1) 13 seen (shapeEs B).toArray 13 (entryV B u) hir5 hm5 (entry_in B u hu0 hu) (born_nodup B)
      clear hnm
      obtain ⟨rb, rc, hrr, hrb, hrcell⟩ := HR3.out u
      have hg35 : W3.grownBy w5 (some r) := grown_trans HGR.out hg5
      have hrc5 : ∀ (j f : Nat), (restOf u)[j]? = some f → w5.cell? ⟨rb, j, none⟩ = some (.int .i64 (f : Int)) := fun j f hf => grown_cell (hrcell j f hf) hg35 (by omega)
      have hB5 : Below w.heap.size w w5 := below_then HB3.out HB3.out.size hg35 (by omega)
      have hlt5 := left_shrinks _ _ _ he
      have hmes : w5.rangeLeft (B + 1) r < wr.rangeLeft (B + 1) r := by
        unfold World.rangeLeft
        rw [hm5, hir5, HMR.out, HIR.out]
        exact hlt5
      have hnext := fun (hv0 : c.verb ≠ 0) (hne : u ≠ c.verb) (h : entryV B c.verb ∈ (leftOf (shapeEs B).toArray seen).toList) => entry_next hu0 hu hv0 h hne
      unfold shapeV at hen
      generalize restV B u = rr at *
      have hrr1 : rr.oneCell' = true := by rw [hrr]; split <;> rfl
      have hv5 : w5.cell? ⟨w.heap.size, 0, none⟩ = some (.int .u8 (c.verb : Int)) := (block_cell hbx5 0).1
      have HS5 := Lib.hid hs5
      have HIR5 := Lib.hid hir5
      have HM5 := Lib.hid hm5
      have HBX5 := Lib.hid hbx5
      have HRR := Lib.hid hrr
      have HRC := Lib.hid hrc5
      have HG35 := Lib.hid hg35
      have HB5 := Lib.hid hB5
      have HMES := Lib.hid hmes
      have HNEXT := Lib.hid hnext
      clear hs5 hir5 hm5 hbx5 hrr hrc5 hg35 hB5 hmes hnext hlt5 he he0 hrcell HIR HMR HBR HGR HR3 hg5
      have hsh : (w5.alloc (.cells #[.int .u8 0, .int .i64 0, .int .i64 0, .bool false, .bool false, .slice none 0 0] 48)).heap[w5.heap.size]? = some (.cells #[.int .u8 0, .int .i64 0, .int .i64 0, .bool false, .bool false, .slice none 0 0] 48 (0, 0)) := heap_alloc_new _ _
      go_upto_region 4 with ((with_reducible show wpList _ _ _ (⟨none, Op.store _ _ _, _, _, _, _⟩ :: _) _ _); refine wpList_store_whole (by rfl) 48 (.tmp 5) (.tmp 18) (by rfl) w5.heap.size (by rfl) _ (by rfl) _ 48 hsh (by rfl) (by kernel_rfl) (by simp [Value.oneCell']; exact hrr1) ?_; intro w6 hr6 hg6 hs6)
      have hg56 : w5.grownBy w6 none := by
        have h1 := World.grownBy_alloc w5 (.cells #[.int .u8 0, .int .i64 0, .int .i64 0, .bool false, .bool false, .slice none 0 0] 48) none
        exact ⟨hg6.os.trans h1.os, hg6.tape.trans h1.tape, hg6.output.trans h1.output, Nat.le_trans h1.size hg6.size, fun k hk hne => (hg6.block k (by simp; omega) (by simp; omega)).trans (h1.block k hk hne)⟩
      have hbl : ∀ k, k < w5.heap.size → w6.heap[k]? = w5.heap[k]? := fun k hk => hg56.block k hk (by simp)
      have s0 : w6.cell? ⟨w5.heap.size, 0, none⟩ = some (.int .u8 (u : Int)) := (block_cell hr6 0).1
      have d0 : w6.cell? ⟨w.heap.size, 0, none⟩ = some (.int .u8 (c.verb : Int)) := by rw [(block_cell ((hbl _ (lt_of_block HBX5.out)).trans HBX5.out) 0).1]; rfl
      have HR6 := Lib.hid hr6
      have HG56 := Lib.hid hg56
      have HBL := Lib.hid hbl
      clear hr6 hg6 hg56 hbl hs6 hsh hen hv5
      by_cases hne : u = c.verb
      · subst hne
        have hfail : ∀ w9, Below w6.heap.size w6 w9 → lineOk c = false → LineInv c B r W3 w9 ∧ w9.rangeLeft (B + 1) r < wr.rangeLeft (B + 1) r := fun w9 hb9 hlo => by
          have hir6 := (HBL.out _ (lt_of_block HIR5.out)).trans HIR5.out
          have hz := HG56.out.size
          have hg9 : w6.grownBy w9 none := ⟨hb9.os, hb9.tape, hb9.output, hb9.size, fun k hk _ => hb9.block k hk⟩
          refine ⟨⟨_, 13, (hb9.block _ (by have := lt_of_block HIR5.out; omega)).trans hir6, Nat.le_refl _, grown_trans HG35.out (row_none (grown_trans HG56.out hg9)), .inr (by unfold lineL; rw [if_neg (by rintro ⟨_, _, h⟩; rw [hlo] at h; cases h)])⟩, ?_⟩
          have h1 := HMES.out
          unfold World.rangeLeft at h1 ⊢
          rwa [hb9.block r (by have := lt_of_block HIR5.out; omega), hb9.block (B + 1) (by have := lt_of_block HM5.out; omega), (HBL.out _ (lt_of_block HIR5.out)), (HBL.out _ (lt_of_block HM5.out))]
        have hsuc : ∀ w9, Below w6.heap.size w6 w9 → lineOk c = true → LineOk c w (.returned (.tuple #[sv (lineS c), .bool true])) w9 := fun w9 hb9 hlo => by
          have hl : lineL c = (lineS c, true) := by unfold lineL; rw [if_pos ⟨hu0, hu, hlo⟩]
          exact ⟨by rw [hl], (below_to HB5.out HG56.out).trans (hb9.mono (by have := HB5.out.size; have := HG56.out.size; omega))⟩
        have HFAIL := Lib.hid hfail
        have HSUC := Lib.hid hsuc
        clear hfail hsuc HINV HNEXT HMES
        go_upto_region 5 with fail
        have hk6 : Strs w6 BB (.slice ka c.keys.length kc) c.keys := by
          have h1 := HK.out
          rw [HKA.out] at h1
          exact strs_below h1 (below_to HB5.out HG56.out)
        have hm6 := hk6.max
        rw [List.length_map] at hm6
        have HK6 := Lib.hid hk6
        have d1 : w6.cell? ⟨w.heap.size, 1, none⟩ = some (.slice ka c.keys.length kc) := by rw [(block_cell ((HBL.out _ (lt_of_block HBX5.out)).trans HBX5.out) 1).1]; rfl
        have d2 : ∀ ob : Obj, (w6.alloc ob).cell? ⟨w.heap.size, 1, none⟩ = some (.slice ka c.keys.length kc) := fun ob => (((Below.refl w6.heap.size w6).alloc (Nat.le_refl _) ob).cell (p := ⟨w.heap.size, 1, none⟩) (cell_lt d1)).trans d1
        clear hk6 s0 d0 d1
        go_cut [6] (fun s6 wx => ∃ W7 v6, W7 = wx ∧ s6 = v6 ∧ W7.ownsRow w6.heap.size 9 1 v6 (1 + c.keys.length) ((nm :: c.keys).map sv) ∧ w6.grownBy W7 none)
        case first =>
          have hrow : (w6.alloc (.cells #[sv nm] 9)).ownsRow w6.heap.size 9 1 (.slice (some ⟨w6.heap.size, 0, none⟩) 1 1) 1 [sv nm] := ⟨rfl, .inr ⟨w6.heap.size, 1, _, rfl, Nat.le_refl _, heap_alloc_new _ _, Nat.le_refl _, by simp [maxLen], rfl, rfl⟩⟩
          have HROW := Lib.hid hrow
          clear hrow
          cases ka with
          | none =>
            have hn0 : c.keys.length = 0 := own_none HK6.out
            have hk0 : c.keys = [] := List.eq_nil_of_length_eq_zero hn0
            have hc0' : kc = 0 := own_none_cap HK6.out
            subst hc0'
            rw [hk0] at d2
            have HK0 := Lib.hid hk0
            clear hk0 hn0
            go_wp2_with (at_builtin; refine wpList_append_own_none (by rfl) _ _ 23 (by rfl) w6.heap.size 9 i0 1 Tryd.underlying23 Hi.out _ _ _ (by rfl) HROW.out (by rfl) ?_)
            go_meet
            case rel => exact ⟨_, _, rfl, rfl, by rw [HK0.out]; exact HROW.out, World.grownBy_alloc _ _ _⟩
          | some ad =>
            have hns : ∀ (ob : Obj) (j : Nat) (x : Value), (c.keys.map sv)[j]? = some x → (w6.alloc ob).cell? (ad.add j) = some x := fun ob j x hx => own_cells HK6.out ob j x hx
            have HNS := Lib.hid hns
            clear hns
            go_wp2_with (at_builtin; refine wpList_append_own _ (by rfl) _ _ 23 (by rfl) w6.heap.size 9 i0 _ 1 16 Tryd.underlying23 Hi.out Hz.out.1 Hz.out.2.1 Hz.out.2.2 rfl (by omega) _ _ _ (by rfl) HROW.out ad c.keys.length kc (c.keys.map sv) (by rfl) (by simp) (HNS.out _) (one_svs _) (by unfold maxLen; omega) (by omega) (by simp) ?_; intro v6 w7 hrow7 hg7 _)
            go_meet
            case rel => exact ⟨_, _, rfl, rfl, by simpa using hrow7, grown_new hg7⟩
        case rest =>
          obtain ⟨W7, v6, rfl, rfl, hrow, hg67⟩ := hcut
          have hb67 : Below w6.heap.size w6 W7 := ⟨hg67.os, hg67.tape, hg67.output, hg67.size, fun k hk => hg67.block k hk (by simp)⟩
          have hsh7 := (hb67.block _ (lt_of_block HR6.out)).trans HR6.out
          obtain ⟨ra, rcc, hrs, hra⟩ : ∃ ra rcc, rr = .slice ra (restOf c.verb).length rcc ∧ (0 < (restOf c.verb).length → ra = some ⟨rb, 0, none⟩) := by
            rw [HRR.out]
            split
            · rename_i h0; exact ⟨none, 0, by rw [h0], fun h => by omega⟩
            · exact ⟨_, rc, rfl, fun _ => rfl⟩
          rw [hrs] at hsh7
          have s5 : W7.cell? ⟨w5.heap.size, 5, none⟩ = some (.slice ra (restOf c.verb).length rcc) := by rw [(block_cell hsh7 5).1]; rfl
          have hrl4 : (restOf c.verb).length ≤ 4 := rest_len c.verb
          have HRA := Lib.hid hra
          have HROW7 := Lib.hid hrow
          have HB67 := Lib.hid hb67
          clear hra hrow hb67 hg67 hsh7 hrs hrr1
          go_wp2_with fail
          have hnI : ((restOf c.verb).length : Int) ≤ 4 := by omega
          go_loopw [6, 32] (fun v s32 wx => ∃ i : Nat, i ≤ (restOf c.verb).length ∧ s32 = .int .i64 i ∧ Below w6.heap.size w6 wx ∧ wx.ownsRow w6.heap.size 9 1 v (wordsTo c nm i).length ((wordsTo c nm i).map sv)) (fun _ s32 _ => (restOf c.verb).length - (intOf s32).toNat)
          case atStart => exact ⟨0, Nat.zero_le _, rfl, HB67.out, by rw [wordsTo_zero]; simpa [Nat.add_comm] using HROW7.out⟩
          case round =>
            obtain ⟨i, hi, rfl, hbr, hrow⟩ := hrel
            by_cases hlt : i < (restOf c.verb).length
            · obtain ⟨f, hf⟩ : ∃ f, (restOf c.verb)[i]? = some f := ⟨_, List.getElem?_eq_getElem hlt⟩
              have hf5 : f < 5 := rest_lt (List.mem_of_getElem? hf)
              have hra := HRA.out (by omega)
              have hix : ∀ W : World, (Instr.indexAt 46 (.slice ra (restOf c.verb).length rcc) (.int .i64 (i : Int))).run Tryd.prog W = .ok (.pointer (some ⟨rb, i, none⟩)) W := fun W => by have h := idx_field (c := rcc) hra hlt W; rwa [Nat.zero_add] at h
              have hrb6 : rb < w6.heap.size := by have := HG56.out.size; have := lt_of_block HIR5.out; omega
              have hfc : wr.cell? ⟨rb, i, none⟩ = some (.int .i64 (f : Int)) := (hbr.cell (p := ⟨rb, i, none⟩) hrb6).trans ((HG56.out.cell_far ⟨rb, i, none⟩ (by have := lt_of_block HIR5.out; show rb < _; omega) (by simp)).trans (HRC.out i f hf))
              have hshr := (hbr.block _ (lt_of_block HR6.out)).trans HR6.out
              have s1 : wr.cell? ⟨w5.heap.size, 1, none⟩ = some (.int .i64 (leastOf c.verb : Int)) := by rw [(block_cell hshr 1).1]; rfl
              have hboxr := (hbr.block _ (by have := lt_of_block HBX5.out; have := HG56.out.size; omega)).trans ((HBL.out _ (lt_of_block HBX5.out)).trans HBX5.out)
              have e6 : wr.cell? ⟨w.heap.size, 6, none⟩ = some (.int .i64 c.exp) := by rw [(block_cell hboxr 6).1]; rfl
              have hpr := HP.out.below ((below_to HB5.out HG56.out).trans (hbr.mono (by have := HB5.out.size; have := HG56.out.size; omega)))
              have HPr := Lib.hid hpr
              have hwl : (wordsTo c nm i).length ≤ 1048600 := by have := wordsTo_len c nm i; omega
              have HF := Lib.hid hf
              have HROW := Lib.hid hrow
              have HBRR := Lib.hid hbr
              have hz6 := hbr.size
              clear hra hpr hf hrow hbr hshr
              by_cases hG : 0 < leastOf c.verb
              · have hg1 : decide ((0 : Int) < (leastOf c.verb : Int)) = true := by rw [decide_eq_true_eq]; omega
                have hg2 : decide (0 < leastOf c.verb) = true := by rw [decide_eq_true_eq]; exact hG
                have HGG := Lib.hid (Or.inl hG : 0 < leastOf c.verb ∨ c.exp ≠ 0)
                clear hG
                go_wp2_with (first
                  | ((with_reducible show wpList _ _ _ (⟨_, Op.load 29 _, _, _, _, _⟩ :: _) _ _); refine wpList_load_row (by rfl) 29 (.tmp 1) (by rfl) w.heap.size (by rfl) 29 _ _ _ hboxr Tryd.underlying29 rfl (by kernel_rfl) ?_)
                  | (go_at_call 15; refine (textF_any hf5 ka c.keys.length kc c wr HC.out HPr.out).mono ?_; rintro e w8 ⟨rfl, hb8⟩; have hrow8 := rowKept HROW.out hb8; have hb88 := hb8.size; have HB8 := Lib.hid hb8; clear hb8; have HROW8 := Lib.hid hrow8; clear hrow8)
                  | (at_builtin; refine wpList_append_own _ (by rfl) _ _ 23 (by rfl) w6.heap.size 9 i0 _ 1 16 Tryd.underlying23 Hi.out Hz.out.1 Hz.out.2.1 Hz.out.2.2 rfl (by omega) _ _ _ (by rfl) (HROW8.out.alloc _) ⟨w8.heap.size, 0, none⟩ 1 1 [sv (textF c f)] (by rfl) (by rfl) (cell_one_new _ _ _) (by simp [Value.oneCell']) (by unfold maxLen; omega) (by omega) (by simp; omega) ?_; intro v9 w9 hrow9 hg9 _))
                have hb8' : Below w6.heap.size w6 w8 := HBRR.out.trans (HB8.out.mono (by omega))
                exact ⟨⟨i + 1, by omega, by go_num, below_append hb8' (Nat.le_refl _) HROW8.out hg9, by rw [wordsTo_next HGG.out HF.out]; simpa using hrow9⟩, by simp only [intOf]; omega⟩
              · have hg1 : decide ((0 : Int) < (leastOf c.verb : Int)) = false := by rw [decide_eq_false_iff_not]; omega
                have hg2 : decide (0 < leastOf c.verb) = false := by rw [decide_eq_false_iff_not]; exact hG
                by_cases hX : c.exp = 0
                · have hx1 : (c.exp != 0) = false := by rw [hX]; rfl
                  have HS := Lib.hid (wordsTo_same (c := c) (nm := nm) (by rintro (h | h); exact hG h; exact h hX) i (i + 1))
                  clear hG hX
                  go_wp2_with fail
                  exact ⟨⟨i + 1, by omega, by go_num, HBRR.out, by rw [← HS.out]; exact HROW.out⟩, by simp only [intOf]; omega⟩
                · have hx1 : (c.exp != 0) = true := by rw [bne_iff_ne]; exact hX
                  have HGG := Lib.hid (Or.inr hX : 0 < leastOf c.verb ∨ c.exp ≠ 0)
                  clear hG hX
                  go_wp2_with (first
                    | ((with_reducible show wpList _ _ _ (⟨_, Op.load 29 _, _, _, _, _⟩ :: _) _ _); refine wpList_load_row (by rfl) 29 (.tmp 1) (by rfl) w.heap.size (by rfl) 29 _ _ _ hboxr Tryd.underlying29 rfl (by kernel_rfl) ?_)
                    | (go_at_call 15; refine (textF_any hf5 ka c.keys.length kc c wr HC.out HPr.out).mono ?_; rintro e w8 ⟨rfl, hb8⟩; have hrow8 := rowKept HROW.out hb8; have hb88 := hb8.size; have HB8 := Lib.hid hb8; clear hb8; have HROW8 := Lib.hid hrow8; clear hrow8)
                    | (at_builtin; refine wpList_append_own _ (by rfl) _ _ 23 (by rfl) w6.heap.size 9 i0 _ 1 16 Tryd.underlying23 Hi.out Hz.out.1 Hz.out.2.1 Hz.out.2.2 rfl (by omega) _ _ _ (by rfl) (HROW8.out.alloc _) ⟨w8.heap.size, 0, none⟩ 1 1 [sv (textF c f)] (by rfl) (by rfl) (cell_one_new _ _ _) (by simp [Value.oneCell']) (by unfold maxLen; omega) (by omega) (by simp; omega) ?_; intro v9 w9 hrow9 hg9 _))
                  have hb8' : Below w6.heap.size w6 w8 := HBRR.out.trans (HB8.out.mono (by omega))
                  exact ⟨⟨i + 1, by omega, by go_num, below_append hb8' (Nat.le_refl _) HROW8.out hg9, by rw [wordsTo_next HGG.out HF.out]; simpa using hrow9⟩, by simp only [intOf]; omega⟩
            · obtain rfl : i = (restOf c.verb).length := by omega
              have hbr8 : Below w.heap.size w wr := (below_to HB5.out HG56.out).trans (hbr.mono (by have := HB5.out.size; have := HG56.out.size; omega))
              have hboxr := (hbr.block _ (by have := lt_of_block HBX5.out; have := HG56.out.size; omega)).trans ((HBL.out _ (lt_of_block HBX5.out)).trans HBX5.out)
              have e10 : wr.cell? ⟨w.heap.size, 10, none⟩ = some (.bool c.quiet) := by rw [(block_cell hboxr 10).1]; rfl
              have hwl := wordsTo_len c nm (restOf c.verb).length
              have HROW := Lib.hid hrow
              have HBRR := Lib.hid hbr
              have HBR8 := Lib.hid hbr8
              have HBX8 := Lib.hid hboxr
              have hz6 := hbr.size
              clear hrow hbr hbr8 hboxr
              go_upto_if 53 with fail
              go_cut [6] (fun v wx => ∃ W8 v8, W8 = wx ∧ v = v8 ∧ W8.ownsRow w6.heap.size 9 1 v8 (lineW c).length ((lineW c).map sv) ∧ Below w6.heap.size w6 W8)
              case first =>
                have hLW := lineW_is c nm HNM.out
                cases hq : c.quiet
                · rw [hq] at hLW
                  have HLW := Lib.hid hLW
                  clear hLW hq
                  go_wp2_with fail
                  go_meet
                  case rel => exact ⟨_, _, rfl, rfl, by rw [HLW.out]; simpa using HROW.out, HBRR.out⟩
                · rw [hq] at hLW
                  have HLW := Lib.hid hLW
                  clear hLW hq
                  go_wp2_with (at_builtin; refine wpList_append_own _ (by rfl) _ _ 23 (by rfl) w6.heap.size 9 i0 _ 1 16 Tryd.underlying23 Hi.out Hz.out.1 Hz.out.2.1 Hz.out.2.2 rfl (by omega) _ _ _ (by rfl) (HROW.out.alloc _) ⟨wr.heap.size, 0, none⟩ 1 1 [sv noreply] (by rfl) (by rfl) (cell_one_new _ _ _) (by simp [Value.oneCell']) (by unfold maxLen; omega) (by omega) (by simp; omega) ?_; intro v9 w9 hrow9 hg9 _)
                  go_meet
                  case rel => exact ⟨_, _, rfl, rfl, by rw [HLW.out]; simpa using hrow9, below_append HBRR.out (Nat.le_refl _) HROW.out hg9⟩
              case rest =>
                obtain ⟨W8, v8, rfl, rfl, hrow8, hb68⟩ := hcut
                have hown8 : Strs W8 w6.heap.size u6 (lineW c) := Own.of_row (e := 9) (by rw [List.length_map]; exact hrow8)
                have hlw := lineW_len c
                have hjoin := join_at hown8 (by unfold lineW; simp) (by omega) (by have := HLEN.out; unfold lineS at this; omega)
                obtain ⟨g9, c9, hv9⟩ := hown8.len
                rw [List.length_map] at hv9
                rw [hv9] at hjoin
                rw [hv9]
                have hb68' : Below w.heap.size w W8 := (below_to HB5.out HG56.out).trans (hb68.mono (by have := HB5.out.size; have := HG56.out.size; omega))
                have hlS : lineS c = Lib.join (lineW c) [32] := rfl
                rw [← hlS] at hjoin
                have HJ := Lib.hid hjoin
                have HB68 := Lib.hid hb68
                have HB8 := Lib.hid hb68'
                clear hjoin hown8 hrow8 hb68 hb68' hlS hv9
                go_wp2_with fail
                refine HJ.out.mono ?_
                rintro e w9 ⟨rfl, hb89⟩
                have hb9 : Below w.heap.size w w9 := HB8.out.trans (hb89.mono (by have := HB8.out.size; omega))
                have hb69 : Below w6.heap.size w6 w9 := HB68.out.trans (hb89.mono HB68.out.size)
                have hpar := lparse_at (lineS c) w9 HLEN.out (HL.out.below hb9) (HE.out.below hb9)
                have HPAR := Lib.hid hpar
                have HB69 := Lib.hid hb69
                have HB9 := Lib.hid hb9
                clear hpar hb69 hb9 hb89
                go_wp2_with fail
                refine HPAR.out.mono ?_
                rintro e w10 ⟨ks, rfl, hok, hb910⟩
                have hlo : lineOk c = ((parseL (lineS c)).2 == 0 && sameC (parseL (lineS c)).1 c) := rfl
                generalize parseL (lineS c) = R at *
                obtain ⟨pc, pt⟩ := R
                simp only at hlo hok ⊢
                obtain ⟨oa, oc, hks⟩ := hok.len
                rw [List.length_map] at hks
                have hk1 : ks.oneCell' = true := by rw [hks]; rfl
                have HLO := Lib.hid hlo
                have HOK := Lib.hid hok
                have HB910 := Lib.hid hb910
                have hz910 := hb910.size
                have hz69 := HB69.out.size
                have hz10 : (w10.alloc (.cells zeroA 29)).heap[w10.heap.size]? = some (.cells zeroA 29 (0, 0)) := heap_alloc_new _ _
                clear hlo hok hb910 hks
                go_upto_region 16 with ((with_reducible show wpList _ _ _ (⟨none, Op.store _ _ _, _, _, _, _⟩ :: _) _ _); refine wpList_store_whole (by rfl) 29 (.tmp 10) (.tmp 62) (by rfl) w10.heap.size (by rfl) (cmdCells ks pc).toArray (by rfl) _ 29 hz10 (by rfl) (by kernel_rfl) (by simp [Value.oneCell']; exact hk1) ?_; intro w11 hr11 hg11 hs11)
                have hg1011 := grown_new hg11
                have hb611 : Below w6.heap.size w6 w11 := by
                  have h1 := HB69.out.trans (HB910.out.mono hz69)
                  exact ⟨hg1011.os.trans h1.os, hg1011.tape.trans h1.tape, hg1011.output.trans h1.output, Nat.le_trans h1.size hg1011.size, fun k hk => (hg1011.block k (Nat.lt_of_lt_of_le hk h1.size) (by simp)).trans (h1.block k hk)⟩
                have hbox11 := (hb611.block _ (by have := lt_of_block HBX5.out; have := HG56.out.size; omega)).trans ((HBL.out _ (lt_of_block HBX5.out)).trans HBX5.out)
                have hs1 : Strs w11 w9.heap.size ks pc.keys := strs_below HOK.out ⟨hg1011.os, hg1011.tape, hg1011.output, hg1011.size, fun k hk => hg1011.block k hk (by simp)⟩
                have hs2 : Strs w11 BB (.slice ka c.keys.length kc) c.keys := strs_below HK6.out hb611
                have hsame := lsame_any (a := pc) (b := c) hs1 hs2
                have HSAME := Lib.hid hsame
                have HB611 := Lib.hid hb611
                have hz611 := hb611.size
                clear hsame hs1 hs2 hb611 hg1011 hg11 hz10 hs11
                by_cases hpt : pt = 0
                · have hp0 : ((pt : Int) == 0) = true := by rw [hpt]; rfl
                  have hlo' : lineOk c = sameC pc c := by rw [HLO.out, hpt]; rfl
                  have HLO2 := Lib.hid hlo'
                  clear hpt hlo'
                  have a0 : w11.cell? ⟨w10.heap.size, 0, none⟩ = some (.int .u8 (pc.verb : Int)) := (block_cell hr11 0).1
                  have a1 : w11.cell? ⟨w10.heap.size, 1, none⟩ = some ks := (block_cell hr11 1).1
                  have a2 : w11.cell? ⟨w10.heap.size, 2, none⟩ = some (.int .u8 (pc.cverb : Int)) := (block_cell hr11 2).1
                  have a3 : w11.cell? ⟨w10.heap.size, 3, none⟩ = some (sv pc.key) := (block_cell hr11 3).1
                  have a4 : w11.cell? ⟨w10.heap.size, 4, none⟩ = some (sv pc.value) := (block_cell hr11 4).1
                  have a5 : w11.cell? ⟨w10.heap.size, 5, none⟩ = some (.int .u32 (pc.flags : Int)) := (block_cell hr11 5).1
                  have a6 : w11.cell? ⟨w10.heap.size, 6, none⟩ = some (.int .i64 pc.exp) := (block_cell hr11 6).1
                  have a7 : w11.cell? ⟨w10.heap.size, 7, none⟩ = some (.int .u64 (pc.id : Int)) := (block_cell hr11 7).1
                  have a8 : w11.cell? ⟨w10.heap.size, 8, none⟩ = some (.int .u64 (pc.by' : Int)) := (block_cell hr11 8).1
                  have a9 : w11.cell? ⟨w10.heap.size, 9, none⟩ = some (.int .i64 pc.bytes) := (block_cell hr11 9).1
                  have a10 : w11.cell? ⟨w10.heap.size, 10, none⟩ = some (.bool pc.quiet) := (block_cell hr11 10).1
                  have b0 : w11.cell? ⟨w.heap.size, 0, none⟩ = some (.int .u8 (c.verb : Int)) := (block_cell hbox11 0).1
                  have b1 : w11.cell? ⟨w.heap.size, 1, none⟩ = some (.slice ka c.keys.length kc) := (block_cell hbox11 1).1
                  have b2 : w11.cell? ⟨w.heap.size, 2, none⟩ = some (.int .u8 (c.cverb : Int)) := (block_cell hbox11 2).1
                  have b3 : w11.cell? ⟨w.heap.size, 3, none⟩ = some (sv c.key) := (block_cell hbox11 3).1
                  have b4 : w11.cell? ⟨w.heap.size, 4, none⟩ = some (sv c.value) := (block_cell hbox11 4).1
                  have b5 : w11.cell? ⟨w.heap.size, 5, none⟩ = some (.int .u32 (c.flags : Int)) := (block_cell hbox11 5).1
                  have b6 : w11.cell? ⟨w.heap.size, 6, none⟩ = some (.int .i64 c.exp) := (block_cell hbox11 6).1
                  have b7 : w11.cell? ⟨w.heap.size, 7, none⟩ = some (.int .u64 (c.id : Int)) := (block_cell hbox11 7).1
                  have b8 : w11.cell? ⟨w.heap.size, 8, none⟩ = some (.int .u64 (c.by' : Int)) := (block_cell hbox11 8).1
                  have b9 : w11.cell? ⟨w.heap.size, 9, none⟩ = some (.int .i64 c.bytes) := (block_cell hbox11 9).1
                  have b10 : w11.cell? ⟨w.heap.size, 10, none⟩ = some (.bool c.quiet) := (block_cell hbox11 10).1
                  clear hr11 hbox11
                  cases hsm : sameC pc c
                  · have hsame2 := HSAME.out
                    rw [hsm] at hsame2
                    have HS2 := Lib.hid hsame2
                    have HSM := Lib.hid (HLO2.out.trans hsm)
                    clear hsame2 hsm
                    go_wp2_with fail
                    refine HS2.out.mono ?_
                    rintro e w12 ⟨rfl, hb12⟩
                    have HEND := Lib.hid (HFAIL.out w12 (HB611.out.trans (hb12.mono hz611)) HSM.out)
                    clear hb12
                    go_wp2_with fail
                    exact HEND.out
                  · have hsame2 := HSAME.out
                    rw [hsm] at hsame2
                    have HS2 := Lib.hid hsame2
                    have HSM := Lib.hid (HLO2.out.trans hsm)
                    clear hsame2 hsm
                    go_wp2_with fail
                    refine HS2.out.mono ?_
                    rintro e w12 ⟨rfl, hb12⟩
                    have HEND := Lib.hid (HSUC.out w12 (HB611.out.trans (hb12.mono hz611)) HSM.out)
                    clear hb12
                    go_wp2_with fail
                    go_ret2
                    exact HEND.out
                · have hp0 : ((pt : Int) == 0) = false := by rw [beq_eq_false_iff_ne]; omega
                  have HEND := Lib.hid (HFAIL.out w11 HB611.out (by rw [HLO.out]; simp [hpt]))
                  clear hpt hr11 hbox11
                  go_wp2_with fail
                  exact HEND.out
      · have hne' : ((u : Int) != (c.verb : Int)) = true := by rw [bne_iff_ne]; omega
        have hne2 : (u != c.verb) = true := by rw [bne_iff_ne]; exact hne
        have HNE := Lib.hid hne
        clear hne
        have HZ := Lib.hid (show LineInv c B r W3 w6 ∧ w6.rangeLeft (B + 1) r < wr.rangeLeft (B + 1) r from by
          have hir6 := (HBL.out _ (lt_of_block HIR5.out)).trans HIR5.out
          refine ⟨⟨_, 13, hir6, Nat.le_refl _, grown_trans HG35.out (row_none HG56.out), HINV.out.imp (fun h hv => HNEXT.out hv.1 HNE.out (h hv)) id⟩, ?_⟩
          have h1 := HMES.out
          unfold World.rangeLeft at h1 ⊢
          rwa [(HBL.out _ (lt_of_block HIR5.out)), (HBL.out _ (lt_of_block HM5.out))])
        clear HINV HNEXT HMES
        go_wp2_with fail
        exact HZ.out
end Go.Proofs.YtofpaooaiafpbaaDoor
