/- Events in memory; a new feed; bytes laid as they are written. No condition. -/
import Derived.Test.YtahpjhnbjkjkiaaGreatDoorFeedIn2
import Derived.Lib.SlBytesConst
namespace Go.Proofs.YtahpjhnbjkjkiaaGreatDoor
open Go.RowKit Go.ChangeMaps Go.MapKept

/-- Events in a row. -/
def EvRow (w : World) (v : Value) (L : List (Value × Ev)) : Prop := Row w 68 13 v L.length (evsCells L) ∧ ∀ x ∈ L, KeysAt w x.1 x.2.cmd.keys
theorem Row.fed {n₀ : Nat} {W W' : World} {p : Nat} {t : TypeId} {rest : List Value} {hv ks : Value} {st : FSt} (h : FeedAt n₀ W p t rest hv ks st) (hc : Chg (FM p hv) W W') {e : TypeId} {sz n : Nat} {v : Value} {xs : List Value} (hr : Row W e sz v n xs) (h1 : e ≠ t) (h2 : e ≠ 5) : Row W' e sz v n xs :=
  hr.kept hc (fun g hg hm => by
    rcases (h.fm hm).2 with h3 | h3
    · exact h1 ((hr.tag hg).one h3)
    · exact h2 ((hr.tag hg).one h3))
theorem EvRow.fed {n₀ : Nat} {W W' : World} {p : Nat} {t : TypeId} {rest : List Value} {hv ks : Value} {st : FSt} (h : FeedAt n₀ W p t rest hv ks st) (te : t ≠ 68) (hc : Chg (FM p hv) W W') {v : Value} {L : List (Value × Ev)} (hr : EvRow W v L) : EvRow W' v L :=
  ⟨hr.1.fed h hc (fun e => te e.symm) (by decide), fun x hx => (hr.2 x hx).fed h hc (fun e => h.ts e.symm) (by decide)⟩
theorem EvRow.below {W W' : World} {v : Value} {L : List (Value × Ev)} (hr : EvRow W v L) (hb : Below W.heap.size W W') : EvRow W' v L := ⟨hr.1.below hb, fun x hx => (hr.2 x hx).below hb⟩
theorem EvRow.kept {M : Nat → Prop} {W W' : World} {v : Value} {L : List (Value × Ev)} (hr : EvRow W v L) (hc : Chg M W W') (hM : ∀ k, M k → ¬ Tag W k 68 ∧ ¬ Tag W k 9) : EvRow W' v L :=
  ⟨hr.1.kept hc (fun g hg e => (hM g e).1 (hr.1.tag hg)), fun x hx => (hr.2 x hx).kept hc (fun g hg e => (hM g e).2 ((hr.2 x hx).tag hg))⟩

abbrev feedZero : Array Value := #[.int .i64 0, .slice none 0 0, .int .u8 0, .slice none 0 0, .int .u8 0, .string ⟨#[]⟩, .string ⟨#[]⟩, .int .u32 0, .int .i64 0, .int .u64 0, .int .u64 0, .int .i64 0, .bool false, .int .i64 0]
theorem feed_new {n₀ : Nat} (w : World) (hn : n₀ ≤ w.heap.size) : FeedAt n₀ (w.alloc (.cells feedZero 46)) w.heap.size 46 [] (.slice none 0 0) (.slice none 0 0) fNew :=
  ⟨hn, heap_alloc_new _ _, World.ownsRow_nil _ _ _ _, Row.nil _ _ _, by decide, by decide⟩
theorem new_any (w : World) : Calls Tryz.prog 13 #[] w fun e w' => e = .returned (.pointer (some ⟨w.heap.size, 0, none⟩)) ∧ w' = w.alloc (.cells feedZero 46) := by
  go_enter Tryz.func13, Tryz.ntmps13
  go_wp2
  go_ret
  exact ⟨rfl, rfl⟩
theorem conv_const (W : World) (C : Array Value) (n c : Nat) : (convert 23 23 (.slice (some ⟨W.heap.size, 0, none⟩) n c)).run Tryz.prog (W.alloc (.cells C 5)) = .ok (.slice (some ⟨W.heap.size, 0, none⟩) n c) (W.alloc (.cells C 5 (C.size, C.size + 1))) := Lib.run_convert_bytes_const (P := Tryz.prog) W 23 5 C n c Tryz.underlying23 Tryz.underlying5
theorem goodF_new : GoodF fNew := ⟨by show 0 ≤ 5; omega, fun e => by have : 0 = 5 := e; omega⟩
/-- The block of a literal of bytes. -/
abbrev litB (bl : List UInt8) : Obj := .cells (bl.map u8v).toArray 5 (bl.length, bl.length + 1)
/-- A row of bytes that is laid new. -/
theorem row_new (w : World) (bl : List UInt8) (hm : bl.length ≤ maxLen) : Row (w.alloc (litB bl)) 5 1 (.slice (some ⟨w.heap.size, 0, none⟩) bl.length bl.length) bl.length (bl.map u8v) := by
  have hb : (w.alloc (litB bl)).heap[w.heap.size]? = some (litB bl) := heap_alloc_new _ _
  refine ⟨by simp, _, _, rfl, Nat.le_refl _, hm, (fun h => by cases h), fun g hg => ?_, .inr ⟨w.heap.size, 0, rfl, fun j x hx => ?_⟩⟩
  · obtain rfl : w.heap.size = g := by simpa [Value.ownBlock] using hg
    exact Tag.of hb
  · rw [Nat.zero_add]
    have hj : j < bl.length := by have := (List.getElem?_eq_some_iff.1 hx).1; simpa using this
    refine ⟨?_, ?_⟩
    · simp only [World.cell?, hb]
      simpa using hx
    · simp only [World.frozen?, hb]
      simp
      omega
/-- What In does with bytes that are laid new. -/
theorem in_lit {n₀ : Nat} {W : World} {p : Nat} {hv ks : Value} {st : FSt} (h : FeedAt n₀ W p 46 [] hv ks st) (hE : Env n₀ W) (hn : n₀ ≤ W.heap.size) (hgd : GoodF st) (bl : List UInt8) (hlen : st.held.length + bl.length < 1048576) :
    Calls Tryz.prog 15 #[.pointer (some ⟨p, 0, none⟩), .slice (some ⟨W.heap.size, 0, none⟩) bl.length bl.length] (W.alloc (litB bl)) (InOk n₀ (W.alloc (litB bl)) p 46 [] hv (runF st bl)) := by
  refine in_any (h.alloc _) (hE.chg (M := fun _ => False) ((Chg.refl _ _).alloc _) (fun _ e => e.elim)) (by simp; omega) hgd hlen (row_new W bl (by unfold maxLen; omega)).bytes (fun _ g hg => .inr ((row_new W bl (by unfold maxLen; omega)).tag hg)) (fun _ g hg e => ?_) ⟨by decide, by decide, by decide⟩ (by decide)
  obtain rfl : W.heap.size = g := by simpa [Value.ownBlock] using hg
  have := (owns_tag h.held e).lt
  omega
/-- What holds behind it, of the world ahead of it. -/
structure Fed (n₀ : Nat) (W : World) (p : Nat) (hv : Value) (r : FSt × List Ev) (w' : World) (hv' ks' ov : Value) (L : List (Value × Ev)) : Prop where
  feed : FeedAt n₀ w' p 46 [] hv' ks' r.1
  chg : Chg (FM p hv) W w'
  evs : L.map (·.2) = r.2
  row : EvRow w' ov L
  cut : ∃ a, ov = .slice a L.length L.length
  fresh : ∀ g, hv'.ownBlock = some g → hv.ownBlock = some g ∨ W.heap.size ≤ g
theorem fed_of {n₀ : Nat} {W : World} {o : Obj} {p : Nat} {hv : Value} {r : FSt × List Ev} {e : Ending} {w' : World} (h : InOk n₀ (W.alloc o) p 46 [] hv r e w') : ∃ hv' ks' ov L, e = .returned ov ∧ Fed n₀ W p hv r w' hv' ks' ov L := by
  obtain ⟨hv', ks', ov, L, he, h1, h2, h3, h4, h5, h6⟩ := h
  exact ⟨hv', ks', ov, L, he, h1, ((Chg.refl _ _).alloc o).then h2 (fun _ _ e => e), h4, ⟨h5.2.1, h6⟩, h5.1, fun g hg => (h3 g hg).imp id (fun h => by simp at h; omega)⟩
theorem FeedAt.lowM {n₀ : Nat} {w : World} {p : Nat} {t : TypeId} {rest : List Value} {hv ks : Value} {st : FSt} (h : FeedAt n₀ w p t rest hv ks st) : ∀ k, FM p hv k → n₀ ≤ k := fun _ hk => (h.fm hk).1
theorem idx_ev {a : Option Addr} {g o n c k : Nat} (ha : a = some ⟨g, o, none⟩) (hk : k < n) (W : World) : (Instr.indexAt 31 (.slice a n c) (.int .i64 (k : Int))).run Tryz.prog W = .ok (.pointer (some ⟨g, o + k * 13, none⟩)) W := by
  subst ha
  have h0 : (0 : Int) ≤ (k : Int) := by omega
  have h1 : (k : Int) < (n : Int) := by omega
  have h2 := Tryz.underlying31
  obtain ⟨i0, hi, hz0, hz1, hz2⟩ := info_parts infoEv
  go_simp
theorem evs_cell {L : List (Value × Ev)} {k j : Nat} {ke : Value} {ev : Ev} {x : Value} (h : L[k]? = some (ke, ev)) (hx : (evCells ke ev)[j]? = some x) : (evsCells L)[k * 13 + j]? = some x := by
  induction L generalizing k with
  | nil => simp at h
  | cons y L ih =>
    have hj : j < 13 := by have := (List.getElem?_eq_some_iff.1 hx).1; simpa using this
    show (evCells y.1 y.2 ++ evsCells L)[k * 13 + j]? = _
    cases k with
    | zero =>
      obtain rfl : y = (ke, ev) := by simpa using h
      rw [Nat.zero_mul, Nat.zero_add, List.getElem?_append_left (by simpa using hj)]
      exact hx
    | succ k =>
      rw [List.getElem?_append_right (by simp; omega)]
      have := ih (k := k) (by simpa using h)
      rw [← this]
      congr 1
      simp
      omega
/-- The cells of an event of a row. -/
theorem EvRow.at {w : World} {v : Value} {L : List (Value × Ev)} (h : EvRow w v L) {k : Nat} {ke : Value} {ev : Ev} (hk : L[k]? = some (ke, ev)) :
    ∃ g o c, v = .slice (some ⟨g, o, none⟩) L.length c ∧ (∀ j x, (evCells ke ev)[j]? = some x → w.cell? ⟨g, o + (k * 13 + j), none⟩ = some x) ∧ KeysAt w ke ev.cmd.keys := by
  obtain ⟨g, o, c, rfl, _, _, _, _, hcell⟩ := h.1.some (by
    intro e
    have := evs_cell (j := 0) hk rfl
    rw [e] at this
    simp at this)
  exact ⟨g, o, c, rfl, fun j x hx => (hcell _ _ (evs_cell hk hx)).1, h.2 _ (List.mem_of_getElem? hk)⟩
end Go.Proofs.YtahpjhnbjkjkiaaGreatDoor
