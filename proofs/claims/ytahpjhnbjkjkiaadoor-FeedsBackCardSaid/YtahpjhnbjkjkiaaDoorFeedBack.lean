/- The law FeedsBack, walked: commands that are written one behind the other come back in their order. Condition: the library's variables MaxLen and ErrRange, and the table of powers, are as they are laid. -/
import Derived.Test.YtahpjhnbjkjkiaaDoorSentAt
import Derived.Test.YtahpjhnbjkjkiaaDoorFeedCuts
import Derived.Test.YtahpjhnbjkjkiaaDoorFeedLives
import Derived.StillTailTactics
namespace Go.Proofs.YtahpjhnbjkjkiaaDoor
open Go.RowKit Go.ChangeMaps Go.MapKept

/-- Numbers and texts as they may be handed in. -/
structure SentIs (x : SentD) : Prop where
  kind : x.kind < 256
  key : x.key.length ≤ maxLen
  data : x.data.length ≤ maxLen
  flags : x.flags < 4294967296
  exp0 : -2147483648 ≤ x.exp
  exp1 : x.exp ≤ 2147483647
/-- Commands in a row that is read. -/
def SentRow (w : World) (v : Value) (L : List SentD) : Prop := L.length ≤ maxLen ∧ (∀ x ∈ L, SentIs x) ∧ ∃ (a : Option Addr) (c : Nat), v = .slice a L.length c ∧
  ∀ (j : Nat) (x : SentD), L[j]? = some x → ∃ g o : Nat, a = some ⟨g, o, none⟩ ∧ g < w.heap.size ∧ ∀ (i : Nat) (u : Value), (sentCells x)[i]? = some u → w.cell? ⟨g, o + (j * 7 + i), none⟩ = some u
theorem SentRow.below {w w' : World} {v : Value} {L : List SentD} (h : SentRow w v L) (hb : Below w.heap.size w w') : SentRow w' v L := by
  obtain ⟨hm, hx, a, c, rfl, hc⟩ := h
  refine ⟨hm, hx, a, c, rfl, fun j x hj => ?_⟩
  obtain ⟨g, o, ha, hg, hcell⟩ := hc j x hj
  exact ⟨g, o, ha, Nat.lt_of_lt_of_le hg hb.size, fun i u hu => (hb.cell (p := ⟨g, o + (j * 7 + i), none⟩) hg).trans (hcell i u hu)⟩
theorem idx_sent {a : Option Addr} {g o n c k : Nat} (ha : a = some ⟨g, o, none⟩) (hk : k < n) (W : World) : (Instr.indexAt 47 (.slice a n c) (.int .i64 (k : Int))).run Tryd.prog W = .ok (.pointer (some ⟨g, o + k * 7, none⟩)) W := by
  subst ha
  have h0 : (0 : Int) ≤ (k : Int) := by omega
  have h1 : (k : Int) < (n : Int) := by omega
  have h2 := Tryd.underlying47
  obtain ⟨i0, hi, hz0, hz1, hz2⟩ := info_parts (show (Tryd.prog.info? 49).map (fun i => (i.zero, i.size, i.bytes)) = some (some (.agg #[.int .u8 0, .string ⟨#[]⟩, .string ⟨#[]⟩, .int .u32 0, .int .i32 0, .bool false, .bool false]), 7, 56) by kernel_rfl)
  go_simp
theorem backText_snoc (bad : Nat) : ∀ (L : List SentD) (i : Nat) (x : SentD), backText bad (L ++ [x]) i = backText bad L i ++ ((if i + L.length = bad then senseless ++ [13, 10] else []) ++ sentText x)
  | [], i, x => by simp [backText]
  | y :: L, i, x => by
    rw [List.cons_append]
    unfold backText
    rw [backText_snoc bad L (i + 1) x, show i + 1 + L.length = i + (y :: L).length from by simp; omega]
    simp
theorem sentText_len {x : SentD} (h : SentOk x) : (sentText x).length ≤ 1500 := by
  have h1 := sentLine_len h
  have h2 := h.data
  unfold sentText
  rw [List.length_append, List.length_append, List.length_cons]
  have h3 : (if x.cr then [13] else ([] : List UInt8)).length ≤ 1 := by cases x.cr <;> simp
  have h4 : (if x.kind % 4 = 3 then [] else x.data ++ [13, 10]).length ≤ 1026 := by split <;> simp <;> omega
  omega
theorem sent_num {x : SentD} (h : SentIs x) (ho : SentOk x) : SentNum x := ⟨h.kind, (ok_plain ho.key).1, ho.data, h.flags, h.exp0, h.exp1⟩
/-- The bytes of a text. -/
theorem conv_text (W : World) (l : List UInt8) (hl : l.length ≤ 1048576) : ∃ (c : Nat) (o : Obj), (convert 9 22 (sv l)).run Tryd.prog W = .ok (.slice (some ⟨W.heap.size, 0, none⟩) l.length c) (W.drew.alloc o) ∧
    BRow (W.drew.alloc o) (.slice (some ⟨W.heap.size, 0, none⟩) l.length c) l ∧ Tag (W.drew.alloc o) W.heap.size 5 := by
  have h := run_bytes_of_string (P := Tryd.prog) W 9 22 5 ⟨l.toArray⟩ Tryd.underlying9 Tryd.underlying22 Tryd.underlying5
  have hsz : (⟨l.toArray⟩ : ByteArray).size = l.length := by simp [ByteArray.size]
  have hb : ∀ o : Obj, (W.drew.alloc o).heap[W.heap.size]? = some o := fun o => heap_alloc_new W.drew o
  refine ⟨_, _, by rw [← hsz]; exact h, ⟨_, _, rfl, ?_, ?_, (fun h => by cases h), .inr ⟨W.heap.size, 0, rfl, ?_, fun j x hx => ?_⟩⟩, ⟨_, _, hb _⟩⟩
  · rw [hsz]; exact grownCap_ge _ _ _ _
  · exact grownCap_le_maxLen _ _ _ _ (by rw [hsz]; unfold maxLen; omega)
  · exact (Array.getElem?_eq_some_iff.1 (hb _)).1
  · have hj : j < l.length := (List.getElem?_eq_some_iff.1 hx).1
    simp only [World.cell?, hb, Nat.zero_add]
    rw [bytesRow_at _ _ _ (by simpa using hj)]
    have hx2 : l[j] = x := (List.getElem?_eq_some_iff.1 hx).2
    simp [hx2]
/-- The feed, and the events that came so far, when c bytes have come. -/
structure BackJ (w : World) (S : List UInt8) (c p : Nat) (W : World) (pv hv ks : Value) (Lp : List (Value × Ev)) : Prop where
  f : FeedAt w.heap.size W p 65 [] hv ks (runF fNew (S.take c)).1
  parts : Parts w pv Lp W
  evs : Lp.map (·.2) = (runF fNew (S.take c)).2
  env : Env w.heap.size W
  low : Below w.heap.size w W
section
variable {w : World} {S : List UInt8} {c k p : Nat} {W W1 W2 : World} {pv hv ks pv' hv' ks' : Value} {Lp M : List (Value × Ev)}
theorem BackJ.below (h : BackJ w S c p W pv hv ks Lp) (hb : Below W.heap.size W W1) : BackJ w S c p W1 pv hv ks Lp := ⟨h.f.below hb, h.parts.kept (M := fun _ => False) (Chg.of_below hb) (fun _ e => e.elim), h.evs, h.env.chg (M := fun _ => False) (Chg.of_below hb) (fun _ e => e.elim), h.low.trans (hb.mono h.low.size)⟩
/-- Bytes have come; their events are not yet with the others. -/
structure BackK (w : World) (p : Nat) (W : World) (pv : Value) (Lp : List (Value × Ev)) : Prop where
  parts : Parts w pv Lp W
  env : Env w.heap.size W
  low : Below w.heap.size w W
theorem BackJ.fed (h : BackJ w S c p W pv hv ks Lp) (hc : Chg (FM p hv) W W1) : BackK w p W1 pv Lp := by
  have hno : ∀ k, FM p hv k → ∀ e, e ≠ 65 → e ≠ 5 → ¬ Tag W k e := fun k hk e h1 h2 he => by
    rcases (h.f.fm hk).2 with h3 | h3
    · exact h1 (he.one h3)
    · exact h2 (he.one h3)
  exact {
    parts := h.parts.kept hc (fun k hk => ⟨hno k hk _ (by decide) (by decide), hno k hk _ (by decide) (by decide)⟩)
    env := h.env.chg hc h.f.lowM
    low := h.low.trans (hc.below (fun k hk => ⟨Nat.lt_of_lt_of_le hk h.low.size, fun e => by have := h.f.lowM k e; omega⟩)) }
theorem BackJ.pushed (h : BackJ w S c p W pv hv ks Lp) (hk : BackK w p W1 pv Lp) (h' : FeedAt w.heap.size W1 p 65 [] hv' ks' (runF (runF fNew (S.take c)).1 ((S.drop c).take k)).1)
    (hev : M.map (·.2) = (runF (runF fNew (S.take c)).1 ((S.drop c).take k)).2) (hp : Parts w pv' (Lp ++ M) W2) (hc2 : Chg (fun j => pv.ownBlock = some j) W1 W2) : BackJ w S (c + k) p W2 pv' hv' ks' (Lp ++ M) := by
  have hM : ∀ j, pv.ownBlock = some j → w.heap.size ≤ j ∧ Tag W1 j 42 := fun j hj => ⟨(hk.parts.row.lt j hj).1, owns_tag hk.parts.row hj⟩
  have hrt : runF fNew (S.take (c + k)) = ((runF (runF fNew (S.take c)).1 ((S.drop c).take k)).1, (runF fNew (S.take c)).2 ++ (runF (runF fNew (S.take c)).1 ((S.drop c).take k)).2) := by
    rw [← runF_append, List.take_add]
  exact {
    f := by
      rw [hrt]
      exact h'.kept hc2 (fun j hj => ⟨fun e => by
        rcases (h'.fm e).2 with h1 | h1
        · exact absurd (h1.one (hM j hj).2) (by decide)
        · exact absurd (h1.one (hM j hj).2) (by decide), fun e => absurd (e.one (hM j hj).2) (by decide)⟩)
    parts := hp
    evs := by rw [List.map_append, h.evs, hev, hrt]
    env := hk.env.chg hc2 (fun j hj => (hM j hj).1)
    low := hk.low.trans (hc2.below (fun j hj => ⟨Nat.lt_of_lt_of_le hj hk.low.size, fun e => by have := (hM j e).1; omega⟩)) }
end
/-- How many commands came back ahead of event i. -/
def atN (bad n i : Nat) : Nat := if bad < n ∧ bad < i then i - 1 else i
theorem back_at {bad : Nat} {L : List SentD} {i : Nat} (hi : i < (backEvs bad L 0).length) :
    (i = bad ∧ bad < L.length ∧ atN bad L.length i = i ∧ atN bad L.length (i + 1) = i ∧ (backEvs bad L 0)[i]? = some (toldE 1)) ∨
    (¬ i = bad ∧ atN bad L.length (i + 1) = atN bad L.length i + 1 ∧ ∃ x, L[atN bad L.length i]? = some x ∧ (backEvs bad L 0)[i]? = some (sentEv x)) := by
  have hc : (0 ≤ bad ∧ bad < L.length) ↔ bad < L.length := by omega
  rw [backEvs_len] at hi
  have hg := backEvs_get bad L 0 i
  rw [hg]
  simp only [Nat.zero_add, hc] at hi ⊢
  by_cases h1 : bad < L.length
  · have ha : ∀ j, atN bad L.length j = if bad < j then j - 1 else j := fun j => by unfold atN; simp [h1]
    rw [if_pos h1] at hi ⊢
    rw [ha, ha]
    by_cases h2 : i = bad
    · left
      rw [if_neg (show ¬ bad < i by omega), if_pos (show bad < i + 1 by omega), if_pos h2]
      exact ⟨h2, h1, rfl, by omega, rfl⟩
    · right
      rw [if_neg h2]
      by_cases h3 : bad < i
      · rw [if_pos h3, if_pos (show bad < i + 1 by omega)]
        obtain ⟨x, hx⟩ : ∃ x, L[i - 1]? = some x := ⟨_, List.getElem?_eq_getElem (by omega)⟩
        exact ⟨by omega, by omega, x, hx, by rw [if_pos h3, hx]; rfl⟩
      · rw [if_neg h3, if_neg (show ¬ bad < i + 1 by omega)]
        obtain ⟨x, hx⟩ : ∃ x, L[i]? = some x := ⟨_, List.getElem?_eq_getElem (by omega)⟩
        exact ⟨by omega, rfl, x, hx, by rw [if_neg h3, hx]; rfl⟩
  · have ha : ∀ j, atN bad L.length j = j := fun j => by unfold atN; simp [h1]
    rw [if_neg h1] at hi ⊢
    right
    rw [ha, ha]
    obtain ⟨x, hx⟩ : ∃ x, L[i]? = some x := ⟨_, List.getElem?_eq_getElem (by omega)⟩
    exact ⟨by omega, rfl, x, hx, by rw [hx]; rfl⟩
theorem back_end {bad : Nat} {L : List SentD} : atN bad L.length (backEvs bad L 0).length = L.length := by
  have hc : (0 ≤ bad ∧ bad < L.length) ↔ bad < L.length := by omega
  rw [backEvs_len]
  simp only [Nat.zero_add, hc]
  unfold atN
  by_cases h1 : bad < L.length
  · simp only [h1, if_true, true_and]
    rw [if_pos (by omega)]; omega
  · simp [h1]
end Go.Proofs.YtahpjhnbjkjkiaaDoor
