/- Plain: the calls that events come to; what holds of the events that a feed tells. No program in sight. Calls in memory; bounds.Calls: the calls of bytes, in new memory. Condition: the library's variables MaxLen and ErrRange are as they are laid; less than 2^20 bytes. -/
import Derived.Test.YtahpjhnbjkjkiaaDoorLowB
import Derived.Test.YtahpjhnbjkjkiaaDoorLowF
import Derived.Test.YtahpjhnbjkjkiaaDoorLowH
import Derived.Maps.AppendAt
namespace Go.Proofs.YtahpjhnbjkjkiaaDoor

theorem okC_plain {s : List UInt8} (h : okB s = true) : s.length ≤ 250 ∧ s ≠ [] := by
  unfold okB look at h
  split at h
  · simp at h
  · rename_i h0
    split at h
    · simp at h
    · exact ⟨by omega, by rintro rfl; simp at h0⟩
/-- The calls of an event: a call is the command's, with a key, and a value, of its own. -/
def callsE (e : Ev) : List Cmd :=
  if e.told ≠ 0 ∨ e.cmd.verb = 12 ∨ e.cmd.verb = 13 then []
  else if e.cmd.verb = 1 ∨ e.cmd.verb = 2 then e.cmd.keys.map (fun k => { e.cmd with key := k })
  else [{ e.cmd with value := e.data }]
def callsL (l : List Ev) : List Cmd := l.flatMap callsE
theorem callsL_nil : callsL [] = [] := rfl
theorem callsL_snoc (l : List Ev) (e : Ev) : callsL (l ++ [e]) = callsL l ++ callsE e := by simp [callsL]
theorem callsL_append (l m : List Ev) : callsL (l ++ m) = callsL l ++ callsL m := by simp [callsL]
/-- A command that a line has. -/
def ParC (c : Cmd) : Prop := ∃ s, parseL s = (c, 0)
structure EvOk (e : Ev) : Prop where
  par : e.told = 0 → ParC e.cmd
  data : e.data.length ≤ 1024
/-- What a feed holds while data comes. -/
def GoodC (st : FSt) : Prop := st.way = 1 ∨ st.way = 2 ∨ st.way = 3 → ParC st.cmd ∧ (st.held.length : Int) ≤ st.cmd.bytes ∧ (st.way = 1 → (st.held.length : Int) < st.cmd.bytes)
theorem goodC_new : GoodC fNew := fun h => by
  have h : (0 : Nat) = 1 ∨ (0 : Nat) = 2 ∨ (0 : Nat) = 3 := h
  omega
theorem par_bytes {c : Cmd} (h : ParC c) : c.bytes ≤ 1024 := by
  obtain ⟨s, hs⟩ := h
  by_cases hv : c.verb = 0
  · have := told_none (s := s) (by rw [hs]; exact hv)
    rw [hs] at this
    rw [show c = noCmd from this.1]; decide
  · have := (line_back hs hv).told
    split at this <;> omega
theorem parse_keys {s : List UInt8} {c : Cmd} {t : Nat} (h : parseL s = (c, t)) (hv : c.verb ≠ 0) : (c.keys = [] ↔ 11 ≤ c.verb) ∧ c.value = [] := by
  by_cases hlen : 2048 < s.length
  · unfold parseL at h
    rw [if_pos hlen] at h; exact absurd (by rw [← (Prod.mk.inj h).1]; rfl) hv
  cases hw : words s with
  | nil =>
    unfold parseL at h
    rw [if_neg hlen, hw] at h; exact absurd (by rw [← (Prod.mk.inj h).1]; rfl) hv
  | cons name l =>
    rw [parseL_some hlen hw] at h
    by_cases hbad : verbOf name = 0 ∨ (tailOf (verbOf name) l).length < leastOf (verbOf name) ∨ mostOf (verbOf name) < (tailOf (verbOf name) l).length
    · rw [if_pos hbad] at h; exact absurd (by rw [← (Prod.mk.inj h).1]; rfl) hv
    · rw [if_neg hbad] at h
      simp only [not_or, Nat.not_lt] at hbad
      obtain ⟨h0, hle, hmo⟩ := hbad
      obtain ⟨h14, hname⟩ := verb_name h0
      generalize verbOf name = v at *
      generalize isQuiet v l = q at *
      generalize tailOf v l = l' at *
      have hp := parseW_is v q l'
      rw [h] at hp
      simp only at hp
      rcases hp with ⟨rfl, _⟩ | ⟨hk, hr, ht⟩
      · exact absurd rfl hv
      obtain ⟨hnd, hlt⟩ := rest_ok v h14
      obtain ⟨_, _, _, _, b5⟩ := readAll_back _ _ _ _ hnd hlt hr
      have hcv : c.verb = v := congrArg (·.1) b5
      have hck : c.keys = l'.take (manyP v l'.length) := congrArg (·.2.1) b5
      have hcl : c.value = [] := congrArg (·.2.2.2.2.1) b5
      refine ⟨?_, hcl⟩
      have hml := many_le hle
      have hkl : c.keys.length = manyP v l'.length := by rw [hck, List.length_take]; omega
      have hz : c.keys = [] ↔ manyP v l'.length = 0 := by
        rw [← hkl]; exact List.length_eq_zero_iff.symm
      rw [hz, hcv]
      have hm : ∀ v < 14, v ≠ 0 → (keysOf v = true → 1 ≤ leastOf v ∧ v < 11) ∧ (keysOf v = false → (min (leastOf v) 1 = 0 ↔ 11 ≤ v)) := by decide
      have hm' := hm v h14 h0
      unfold manyP
      cases hkv : keysOf v
      · simpa using hm'.2 hkv
      · have := hm'.1 hkv
        simp only [if_true]
        omega
theorem toldE_ok {t : Nat} (ht : t ≠ 0) : EvOk (toldE t) := ⟨fun h => absurd h ht, by show 0 ≤ 1024; omega⟩
theorem lineF_ok (st : FSt) (s : List UInt8) : GoodC (lineF st s).1 ∧ ∀ e ∈ (lineF st s).2, EvOk e := by
  rcases hp : parseL s with ⟨d, t⟩
  unfold lineF
  rw [hp]
  simp only
  by_cases h5 : t = 5
  · rw [if_pos h5]
    refine ⟨fun h => ?_, fun e he => ?_⟩
    · have h : (5 : Nat) = 1 ∨ (5 : Nat) = 2 ∨ (5 : Nat) = 3 := h
      omega
    · obtain rfl : e = toldE 5 := by simpa using he
      exact toldE_ok (by omega)
  · rw [if_neg h5]
    by_cases h0 : t = 0
    · subst h0
      rw [if_pos rfl]
      have hpar : ParC d := ⟨s, hp⟩
      by_cases hb : 0 ≤ d.bytes
      · rw [if_pos hb]
        refine ⟨?_, fun e he => by cases he⟩
        unfold fullF
        show GoodC (if d.bytes ≤ (([] : List UInt8).length : Int) then _ else _)
        by_cases hz : d.bytes ≤ (([] : List UInt8).length : Int)
        · rw [if_pos hz]
          exact fun _ => ⟨hpar, by show ((0 : Nat) : Int) ≤ d.bytes; exact hb, fun h => by have h : (2 : Nat) = 1 := h; omega⟩
        · rw [if_neg hz]
          simp only [List.length_nil] at hz
          exact fun _ => ⟨hpar, by show ((0 : Nat) : Int) ≤ d.bytes; omega, fun _ => by show ((0 : Nat) : Int) < d.bytes; omega⟩
      · rw [if_neg hb]
        refine ⟨fun h => ?_, fun e he => ?_⟩
        · have h : (0 : Nat) = 1 ∨ (0 : Nat) = 2 ∨ (0 : Nat) = 3 := h
          omega
        · obtain rfl : e = ⟨d, [], 0⟩ := by simpa using he
          exact ⟨fun _ => hpar, by show 0 ≤ 1024; omega⟩
    · rw [if_neg h0]
      refine ⟨fun h => ?_, fun e he => ?_⟩
      · have h : (0 : Nat) = 1 ∨ (0 : Nat) = 2 ∨ (0 : Nat) = 3 := h
        omega
      · obtain rfl : e = toldE t := by simpa using he
        exact ⟨fun h => absurd h h0, by show 0 ≤ 1024; omega⟩
theorem chunkF_ok (st : FSt) (c : UInt8) : GoodC (chunkF st c).1 ∧ ∀ e ∈ (chunkF st c).2, EvOk e := by
  unfold chunkF
  refine ⟨?_, fun e he => by
    obtain rfl : e = toldE 6 := by simpa using he
    exact toldE_ok (by omega)⟩
  show GoodC (if c = 10 then beginF st 0 else beginF st 4)
  split
  · exact fun h => by
      have h : (0 : Nat) = 1 ∨ (0 : Nat) = 2 ∨ (0 : Nat) = 3 := h
      omega
  · exact fun h => by
      have h : (4 : Nat) = 1 ∨ (4 : Nat) = 2 ∨ (4 : Nat) = 3 := h
      omega
theorem none_ok {st : FSt} (h : GoodC st) : GoodC (st, ([] : List Ev)).1 ∧ ∀ e ∈ (st, ([] : List Ev)).2, EvOk e := ⟨h, fun e he => by cases he⟩
theorem step_ok {st : FSt} (h : GoodC st) (c : UInt8) : GoodC (stepF st c).1 ∧ ∀ e ∈ (stepF st c).2, EvOk e := by
  unfold stepF
  by_cases w0 : st.way = 0
  · rw [if_pos w0]
    unfold gatherF
    split
    · exact lineF_ok _ _
    · split
      · refine ⟨fun h => ?_, fun e he => ?_⟩
        · have h : (4 : Nat) = 1 ∨ (4 : Nat) = 2 ∨ (4 : Nat) = 3 := h
          omega
        · obtain rfl : e = toldE 3 := by simpa using he
          exact toldE_ok (by omega)
      · exact none_ok (fun h => by
          have h : st.way = 1 ∨ st.way = 2 ∨ st.way = 3 := h
          omega)
  rw [if_neg w0]
  by_cases w1 : st.way = 1
  · rw [if_pos w1]
    obtain ⟨h1, h2, h3⟩ := h (.inl w1)
    have h3 := h3 w1
    refine none_ok ?_
    unfold fullF
    show GoodC (if st.cmd.bytes ≤ ((st.held ++ [c]).length : Int) then _ else _)
    split
    · exact fun _ => ⟨h1, by show ((st.held ++ [c]).length : Int) ≤ st.cmd.bytes; rw [List.length_append]; simp only [List.length_cons, List.length_nil]; omega, fun h => by have h : (2 : Nat) = 1 := h; omega⟩
    · exact fun _ => ⟨h1, by show ((st.held ++ [c]).length : Int) ≤ st.cmd.bytes; omega, fun _ => by show ((st.held ++ [c]).length : Int) < st.cmd.bytes; omega⟩
  rw [if_neg w1]
  by_cases w2 : st.way = 2
  · rw [if_pos w2]
    obtain ⟨h1, h2, h3⟩ := h (.inr (.inl w2))
    split
    · exact none_ok (fun _ => ⟨h1, h2, fun h => by have h : (3 : Nat) = 1 := h; omega⟩)
    · exact chunkF_ok _ _
  rw [if_neg w2]
  by_cases w3 : st.way = 3
  · rw [if_pos w3]
    obtain ⟨h1, h2, h3⟩ := h (.inr (.inr w3))
    split
    · refine ⟨fun h => ?_, fun e he => ?_⟩
      · have h : (0 : Nat) = 1 ∨ (0 : Nat) = 2 ∨ (0 : Nat) = 3 := h
        omega
      · obtain rfl : e = ⟨st.cmd, st.held, 0⟩ := by simpa using he
        exact ⟨fun _ => h1, by have := par_bytes h1; show st.held.length ≤ 1024; omega⟩
    · exact chunkF_ok _ _
  rw [if_neg w3]
  split
  · split
    · exact none_ok (fun h => by
        have h : (0 : Nat) = 1 ∨ (0 : Nat) = 2 ∨ (0 : Nat) = 3 := h
        omega)
    · exact none_ok h
  · split
    · exact none_ok (fun h => by
        have h : (0 : Nat) = 1 ∨ (0 : Nat) = 2 ∨ (0 : Nat) = 3 := h
        omega)
    · exact none_ok (fun h' => by
        have h' : st.way = 1 ∨ st.way = 2 ∨ st.way = 3 := h'
        exact h h')
theorem run_ok : ∀ (bl : List UInt8) {st : FSt}, GoodC st → GoodC (runF st bl).1 ∧ ∀ e ∈ (runF st bl).2, EvOk e
  | [], st, h => ⟨h, fun e he => by cases he⟩
  | c :: bl, st, h => by
    obtain ⟨h1, h2⟩ := step_ok h c
    obtain ⟨h3, h4⟩ := run_ok bl h1
    rw [runF_cons]
    refine ⟨h3, fun e he => ?_⟩
    rcases List.mem_append.1 he with he | he
    · exact h2 e he
    · exact h4 e he
theorem par_keys {c : Cmd} (h : ParC c) : c.keys.length ≤ 2048 := by
  obtain ⟨s, hs⟩ := h
  have := (parse_short s).2
  rwa [hs] at this
theorem callsE_len {e : Ev} (h : EvOk e) : (callsE e).length ≤ 2048 := by
  unfold callsE
  split
  · simp
  · rename_i h1
    split
    · rw [List.length_map]
      exact par_keys (h.par (by
        refine Classical.byContradiction fun h0 => h1 (.inl h0)))
    · simp
theorem callsL_len : ∀ {l : List Ev}, (∀ e ∈ l, EvOk e) → (callsL l).length ≤ 2048 * l.length
  | [], _ => by simp [callsL]
  | e :: l, h => by
    have h1 := callsE_len (h e (by simp))
    have h2 := callsL_len (l := l) (fun x hx => h x (by simp [hx]))
    show (callsE e ++ callsL l).length ≤ _
    rw [List.length_append, List.length_cons]
    omega
/-- A call's key, and its value, are no longer than may be; just that of a flush is empty. -/
structure CallOk (c : Cmd) : Prop where
  key : c.key.length ≤ 250
  value : c.value.length ≤ 1024
  empty : c.key = [] ↔ c.cverb = 11
theorem callsE_ok {e : Ev} (h : EvOk e) : ∀ c ∈ callsE e, CallOk c := by
  intro c hc
  unfold callsE at hc
  split at hc
  · cases hc
  · rename_i h1
    simp only [not_or, Decidable.not_not] at h1
    obtain ⟨s, hs⟩ := h.par h1.1
    by_cases hv : e.cmd.verb = 0
    · have ht := told_none (s := s) (by rw [hs]; exact hv)
      rw [hs] at ht
      exact absurd rfl ht.2
    · have hb := line_back hs hv
      have hk := parse_keys hs hv
      have hlt := hb.lt
      split at hc
      · rename_i hg
        obtain ⟨k, hkm, rfl⟩ := List.mem_map.1 hc
        have ho := okC_plain (hb.keysOk k hkm)
        have hval : e.cmd.value = [] := hk.2
        refine ⟨ho.1, by show e.cmd.value.length ≤ 1024; rw [hval]; simp, ⟨fun h0 => absurd h0 ho.2, fun h11 => ?_⟩⟩
        have h11 : e.cmd.cverb = 11 := h11
        rw [hb.cverb] at h11
        omega
      · obtain rfl : c = { e.cmd with value := e.data } := by simpa using hc
        have hkey : e.cmd.key = e.cmd.keys.headD [] := hb.key
        have hcv := hb.cverb
        refine ⟨?_, h.data, ?_⟩
        · show e.cmd.key.length ≤ 250
          rw [hkey]
          cases hks : e.cmd.keys with
          | nil => simp
          | cons k ks =>
            have := (okC_plain (hb.keysOk k (by rw [hks]; simp))).1
            simpa using this
        · show e.cmd.key = [] ↔ e.cmd.cverb = 11
          rw [hcv, hkey]
          cases hks : e.cmd.keys with
          | nil =>
            have := hk.1.1 hks
            simp only [List.headD_nil, true_iff]
            omega
          | cons k ks =>
            have h2 : ¬ e.cmd.keys = [] := by rw [hks]; simp
            have h3 := (okC_plain (hb.keysOk k (by rw [hks]; simp))).2
            rw [hk.1] at h2
            simp only [List.headD_cons]
            constructor
            · exact fun h => absurd h h3
            · omega
end Go.Proofs.YtahpjhnbjkjkiaaDoor
namespace Go.Proofs.YtahpjhnbjkjkiaaDoor
open Go.RowKit Go.ChangeMaps Go.MapKept

abbrev callCells (c : Cmd) : List Value := [.int .u8 (c.cverb : Int), sv c.key, sv c.value, .int .u32 (c.flags : Int), .int .i64 c.exp, .int .u64 (c.id : Int), .int .u64 (c.by' : Int)]
abbrev callZero : Array Value := #[.int .u8 0, .string ⟨#[]⟩, .string ⟨#[]⟩, .int .u32 0, .int .i64 0, .int .u64 0, .int .u64 0]
def callsCells (C : List Cmd) : List Value := C.flatMap callCells
theorem callsCells_snoc (C : List Cmd) (c : Cmd) : callsCells (C ++ [c]) = callsCells C ++ callCells c := by simp [callsCells]
theorem infoCall : (Tryd.prog.info? 37).map (fun i => (i.zero, i.size, i.bytes)) = some (some (.agg callZero), 7, 72) := by kernel_rfl
theorem clipC_nil (w : World) : Calls Tryd.prog 32 #[.slice none 0 0] w fun e w' => e = .returned (.slice none 0 0) ∧ w = w' := by
  go_enter Tryd.func32, Tryd.ntmps32
  go_wp2
  go_ret
  exact ⟨rfl, rfl⟩
theorem clipC_some (a : Addr) (n c : Nat) (w : World) (_h : n ≤ c) (_hc : c ≤ maxLen) : Calls Tryd.prog 32 #[.slice (some a) n c] w fun e w' => e = .returned (.slice (some a) n n) ∧ w = w' := by
  unfold maxLen at _hc
  go_enter Tryd.func32, Tryd.ntmps32
  go_wp2
  go_ret
  exact ⟨rfl, rfl⟩
theorem clipC_any {w : World} {B n : Nat} {v : Value} {xs : List Value} (h : w.ownsRow B 37 7 v n xs) :
    Calls Tryd.prog 32 #[v] w fun e w' => (∃ v', e = .returned v' ∧ Clipped w 37 7 B v' n xs) ∧ w = w' := by
  have hr := Row.of_owns h
  rcases h.2 with ⟨rfl, rfl⟩ | ⟨g, cap, cur, rfl, hB, hh, hn, hm, _, _⟩
  · exact (clipC_nil w).mono fun e w' ⟨he, hw⟩ => ⟨⟨_, he, ⟨_, rfl⟩, hr, fun g hg => by simp [Value.ownBlock] at hg⟩, hw⟩
  · refine (clipC_some _ n cap w hn hm).mono fun e w' ⟨he, hw⟩ => ⟨⟨_, he, ⟨_, rfl⟩, ?_, fun k hk => by simp [Value.ownBlock] at hk; omega⟩, hw⟩
    obtain ⟨h0, a, c, he, h1, h2, h3, h4, h5⟩ := hr
    obtain ⟨rfl, _, rfl⟩ := slice_inj he
    exact ⟨h0, _, n, rfl, Nat.le_refl _, by omega, (fun h => by cases h), h4, h5⟩
/-- Calls that are gathered. -/
structure CallJ (w : World) (W : World) (ov : Value) (C : List Cmd) : Prop where
  row : W.ownsRow w.heap.size 37 7 ov C.length (callsCells C)
  low : Below w.heap.size w W
theorem CallJ.below {w W W' : World} {ov : Value} {C : List Cmd} (h : CallJ w W ov C) (hb : Below W.heap.size W W') : CallJ w W' ov C := ⟨owns_grow h.row (Chg.of_below (M := fun _ => False) hb) (fun _ _ e => e), h.low.trans (hb.mono h.low.size)⟩
/-- One call more. -/
theorem CallJ.push {w W w1 : World} {ov ov' : Value} {C : List Cmd} {c : Cmd} (h : CallJ w W ov C) (hown : w1.ownsRow w.heap.size 37 7 ov' (C.length + 1) (callsCells C ++ callCells c)) (hg : W.grownBy w1 ov.ownBlock) :
    CallJ w w1 ov' (C ++ [c]) ∧ Chg (fun k => ov.ownBlock = some k) W w1 := by
  have hc : Chg (fun k => ov.ownBlock = some k) W w1 := Chg.of_grown hg (fun _ _ e => e)
  refine ⟨⟨by rw [List.length_append, callsCells_snoc]; exact hown, ?_⟩, hc⟩
  exact h.low.trans (hc.below (fun k hk => ⟨Nat.lt_of_lt_of_le hk h.low.size, fun e => by have := (h.row.lt k e).1; omega⟩))
theorem CallJ.tags {w W : World} {ov : Value} {C : List Cmd} (h : CallJ w W ov C) {k : Nat} (hk : ov.ownBlock = some k) {t : TypeId} (ht : t ≠ 37) : ¬ Tag W k t := fun e => ht (e.one (owns_tag h.row hk))
/-- One call more, that was laid in a block of its own first. -/
theorem CallJ.pushed {w W w1 : World} {ov ov' : Value} {C : List Cmd} {c : Cmd} {o : Obj} (h : CallJ w W ov C) (hown : w1.ownsRow w.heap.size 37 7 ov' (C.length + 1) (callsCells C ++ callCells c)) (hg : (W.alloc o).grownBy w1 ov.ownBlock) :
    CallJ w w1 ov' (C ++ [c]) ∧ Chg (fun k => ov.ownBlock = some k) W w1 ∧ ∀ k, ov.ownBlock = some k → ∀ t, t ≠ 37 → ¬ Tag W k t := by
  obtain ⟨h1, h2⟩ := (h.below ((Below.refl _ _).alloc (Nat.le_refl _) o)).push hown hg
  exact ⟨h1, ((Chg.refl _ _).alloc o).then (M' := fun k => ov.ownBlock = some k) h2 (fun _ _ e => e), fun k hk t ht => h.tags hk ht⟩
theorem callsE_skip {e : Ev} (h : e.told ≠ 0 ∨ e.cmd.verb = 12 ∨ e.cmd.verb = 13) : callsE e = [] := by unfold callsE; rw [if_pos h]
theorem callsE_gets {e : Ev} (h0 : e.told = 0) (h : e.cmd.verb = 1 ∨ e.cmd.verb = 2) : callsE e = e.cmd.keys.map (fun k => { e.cmd with key := k }) := by
  unfold callsE
  rw [if_neg (by omega), if_pos h]
theorem callsE_one {e : Ev} (h0 : e.told = 0) (h1 : e.cmd.verb ≠ 1) (h2 : e.cmd.verb ≠ 2) (h3 : e.cmd.verb ≠ 12) (h4 : e.cmd.verb ≠ 13) : callsE e = [{ e.cmd with value := e.data }] := by
  unfold callsE
  rw [if_neg (by omega), if_neg (by omega)]
theorem take_evs {L : List (Value × Ev)} {i : Nat} {x : Value × Ev} (h : L[i]? = some x) : (L.take (i + 1)).map (·.2) = (L.take i).map (·.2) ++ [x.2] := by
  obtain ⟨hi, he⟩ := List.getElem?_eq_some_iff.1 h
  rw [List.take_succ_eq_append_getElem hi, he]
  simp
theorem take_keys {L : List (List UInt8)} {i : Nat} {x : List UInt8} (f : List UInt8 → Cmd) (h : L[i]? = some x) : (L.take (i + 1)).map f = (L.take i).map f ++ [f x] := by
  obtain ⟨hi, he⟩ := List.getElem?_eq_some_iff.1 h
  rw [List.take_succ_eq_append_getElem hi, he]
  simp
def CallsOk (C : List Cmd) (w : World) (e : Ending) (w' : World) : Prop := ∃ v, e = .returned v ∧ Clipped w' 37 7 w.heap.size v C.length (callsCells C) ∧ Below w.heap.size w w'
set_option maxRecDepth 100000 in
set_option maxHeartbeats 16000000 in
theorem boundsCalls_any {w : World} {bv : Value} {bl : List UInt8} (hb : BRow w bv bl) (hlen : bl.length < 1048576) (hL : HasLen w) (hE : HasErr w) :
    Calls Tryd.prog 24 #[bv] w (CallsOk (callsL (runF fNew bl).2) w) := by
  obtain ⟨ba, bc, rfl⟩ := hb.len
  obtain ⟨i0, hi0, hz0, hz1, hz2⟩ := info_parts infoCall
  have Hi := Lib.hid hi0
  have Hz := Lib.hid (And.intro hz0 (And.intro hz1 hz2))
  have ha := Chg.alloc (M := fun _ => False) (Chg.refl _ w) (.cells feedZero 65)
  have hb0 : Below w.heap.size w (w.alloc (.cells feedZero 65)) := (Below.refl _ _).alloc (Nat.le_refl _) _
  have h0 := feed_new (n₀ := w.heap.size) w (Nat.le_refl _)
  have hin := in_any h0 ((Env.of hL hE).chg ha (fun _ e => e.elim)) hb0.size goodF_new (by show 0 + bl.length < _; omega) (hb.below hb0) (fun hne g hg => .inl (hb.blk hne hg)) (fun _ _ _ e => by simp [Value.ownBlock] at e) ⟨by decide, by decide, by decide⟩ (by decide)
  have HIN := Lib.hid hin
  have H0 := Lib.hid h0
  have HB0 := Lib.hid hb0
  clear hin h0 hb0 ha hb hL hE hi0 hz0 hz1 hz2
  go_enter Tryd.func24, Tryd.ntmps24
  go_wp2_with fail
  refine (new_any w).mono ?_
  rintro e w0 ⟨rfl, rfl⟩
  go_wp2_with fail
  refine HIN.out.mono ?_
  rintro e w1 ⟨hv1, ks1, ev1, L, rfl, hf1, hc1, -, hev, hcut, hkw⟩
  obtain ⟨ea, rfl⟩ : ∃ a, ev1 = .slice a L.length L.length := hcut.1
  have hrow : EvRow w1 (.slice ea L.length L.length) L := ⟨hcut.2.1, hkw⟩
  have hlow : Below w.heap.size w w1 := HB0.out.trans (hc1.below (fun k hk => ⟨Nat.lt_of_lt_of_le hk HB0.out.size, fun hm => by have := H0.out.lowM k hm; omega⟩))
  have hfew : L.length ≤ 1048576 := by
    have := run_few bl fNew
    rw [← hev, List.length_map] at this
    omega
  have hok : ∀ e ∈ L.map (·.2), EvOk e := by rw [hev]; exact (run_ok bl goodC_new).2
  have HEV := Lib.hid hev
  have hst : CallJ w w1 (.slice none 0 0) [] := ⟨World.ownsRow_nil _ _ _ _, hlow⟩
  have HROW := Lib.hid hrow
  have HST := Lib.hid hst
  have HOK := Lib.hid hok
  clear hcut hkw hf1 hc1 hlow hrow hst hok hev HIN H0 HB0
  go_wp2_with fail
  go_loopw [3, 13] (fun s3 s13 wr => ∃ (i : Nat) (ov : Value), s13 = .int .i64 (i : Int) ∧ s3 = ov ∧ i ≤ L.length ∧ CallJ w wr ov (callsL ((L.take i).map (·.2))) ∧ EvRow wr (.slice ea L.length L.length) L) (fun _ s13 _ => L.length - (intOf s13).toNat)
  case atStart => exact ⟨0, _, rfl, rfl, Nat.zero_le _, by rw [List.take_zero]; exact HST.out, HROW.out⟩
  case round =>
    obtain ⟨i, ov, rfl, rfl, hi, hj, hrow⟩ := hrel
    clear HST HROW w1
    by_cases hlt : i < L.length
    · obtain ⟨⟨ke, ev⟩, hx⟩ : ∃ x, L[i]? = some x := ⟨_, List.getElem?_eq_getElem hlt⟩
      obtain ⟨g1, o1, c1, hs1, hcell1, hk1⟩ := hrow.at hx
      obtain ⟨ka, kc, rfl⟩ := hk1.len
      obtain ⟨rfl, -, -⟩ := slice_inj hs1
      obtain ⟨b1, hbb1⟩ : ∃ b, b = o1 + i * 13 := ⟨_, rfl⟩
      have ix1 : ∀ W : World, (Instr.indexAt 27 (.slice (some ⟨g1, o1, none⟩) L.length L.length) (.int .i64 (i : Int))).run Tryd.prog W = .ok (.pointer (some ⟨g1, b1, none⟩)) W := fun W => by rw [hbb1]; exact idx_ev rfl hlt W
      have y0 : wr.cell? ⟨g1, b1, none⟩ = some (.int .u8 (ev.cmd.verb : Int)) := by
        have h := hcell1 0 _ rfl
        rwa [show o1 + (i * 13 + 0) = b1 from by omega] at h
      have y1 : wr.cell? ⟨g1, b1 + 1, none⟩ = some (.slice ka ev.cmd.keys.length kc) := by
        have h := hcell1 1 _ rfl
        rwa [show o1 + (i * 13 + 1) = b1 + 1 from by omega] at h
      have y2 : wr.cell? ⟨g1, b1 + 2, none⟩ = some (.int .u8 (ev.cmd.cverb : Int)) := by
        have h := hcell1 2 _ rfl
        rwa [show o1 + (i * 13 + 2) = b1 + 2 from by omega] at h
      have y3 : wr.cell? ⟨g1, b1 + 3, none⟩ = some (sv ev.cmd.key) := by
        have h := hcell1 3 _ rfl
        rwa [show o1 + (i * 13 + 3) = b1 + 3 from by omega] at h
      have y4 : wr.cell? ⟨g1, b1 + 4, none⟩ = some (sv ev.cmd.value) := by
        have h := hcell1 4 _ rfl
        rwa [show o1 + (i * 13 + 4) = b1 + 4 from by omega] at h
      have y5 : wr.cell? ⟨g1, b1 + 5, none⟩ = some (.int .u32 (ev.cmd.flags : Int)) := by
        have h := hcell1 5 _ rfl
        rwa [show o1 + (i * 13 + 5) = b1 + 5 from by omega] at h
      have y6 : wr.cell? ⟨g1, b1 + 6, none⟩ = some (.int .i64 ev.cmd.exp) := by
        have h := hcell1 6 _ rfl
        rwa [show o1 + (i * 13 + 6) = b1 + 6 from by omega] at h
      have y7 : wr.cell? ⟨g1, b1 + 7, none⟩ = some (.int .u64 (ev.cmd.id : Int)) := by
        have h := hcell1 7 _ rfl
        rwa [show o1 + (i * 13 + 7) = b1 + 7 from by omega] at h
      have y8 : wr.cell? ⟨g1, b1 + 8, none⟩ = some (.int .u64 (ev.cmd.by' : Int)) := by
        have h := hcell1 8 _ rfl
        rwa [show o1 + (i * 13 + 8) = b1 + 8 from by omega] at h
      have y9 : wr.cell? ⟨g1, b1 + 9, none⟩ = some (.int .i64 ev.cmd.bytes) := by
        have h := hcell1 9 _ rfl
        rwa [show o1 + (i * 13 + 9) = b1 + 9 from by omega] at h
      have y10 : wr.cell? ⟨g1, b1 + 10, none⟩ = some (.bool ev.cmd.quiet) := by
        have h := hcell1 10 _ rfl
        rwa [show o1 + (i * 13 + 10) = b1 + 10 from by omega] at h
      have y11 : wr.cell? ⟨g1, b1 + 11, none⟩ = some (sv ev.data) := by
        have h := hcell1 11 _ rfl
        rwa [show o1 + (i * 13 + 11) = b1 + 11 from by omega] at h
      have y12 : wr.cell? ⟨g1, b1 + 12, none⟩ = some (.int .u8 (ev.told : Int)) := by
        have h := hcell1 12 _ rfl
        rwa [show o1 + (i * 13 + 12) = b1 + 12 from by omega] at h
      have hevok : EvOk ev := HOK.out ev (List.mem_map.2 ⟨_, List.mem_of_getElem? hx, rfl⟩)
      have hlc : (callsL ((L.take i).map (·.2))).length ≤ 2048 * 1048576 := by
        have h1 := callsL_len (l := (L.take i).map (·.2)) (fun e he => HOK.out e (by
          obtain ⟨x, hx, rfl⟩ := List.mem_map.1 he
          exact List.mem_map.2 ⟨x, List.mem_of_mem_take hx, rfl⟩))
        rw [List.length_map, List.length_take] at h1
        omega
      have htk : callsL ((L.take (i + 1)).map (·.2)) = callsL ((L.take i).map (·.2)) ++ callsE ev := by rw [take_evs hx, callsL_snoc]
      have HTK := Lib.hid htk
      generalize callsL ((L.take i).map (·.2)) = C at *
      have hbe : ∀ o1 o2, Below wr.heap.size wr ((wr.alloc o1).alloc o2) := fun o1 o2 => ((Below.refl _ _).alloc (Nat.le_refl _) o1).alloc (by simp) o2
      have HBE := Lib.hid hbe
      have HJ := Lib.hid hj
      have HROW := Lib.hid hrow
      have HK1 := Lib.hid hk1
      have hlow := hj.low.size
      obtain ⟨va, vc, rfl⟩ := row_slice hj.row
      have hskip : callsE ev = [] → ∀ q1 q2, CallJ w ((wr.alloc q1).alloc q2) (.slice va C.length vc) (callsL ((L.take (i + 1)).map (·.2))) ∧ EvRow ((wr.alloc q1).alloc q2) (.slice (some ⟨g1, o1, none⟩) L.length L.length) L := fun he _ _ => by
        rw [HTK.out, he, List.append_nil]
        exact ⟨HJ.out.below (HBE.out _ _), HROW.out.below (HBE.out _ _)⟩
      have HSKIP := Lib.hid hskip
      clear hskip htk hbe hj hrow hk1 hbb1 hs1 hcell1 hx
      by_cases h0 : ev.told = 0
      · have t0 : ((ev.told : Int) != 0) = false := by rw [bne_eq_false_iff_eq]; omega
        by_cases h12 : ev.cmd.verb = 12
        · have t1 : ((ev.cmd.verb : Int) == 12) = true := by rw [beq_iff_eq]; omega
          have HS := Lib.hid (HSKIP.out (callsE_skip (.inr (.inl h12))))
          clear HSKIP HBE HJ HROW HK1 HTK hevok
          go_wp2_with fail
          go_roundw
          case rel => exact ⟨i + 1, _, by go_num, rfl, by omega, (HS.out _ _).1, (HS.out _ _).2⟩
          case measure => simp [intOf]; omega
        have t1 : ((ev.cmd.verb : Int) == 12) = false := by rw [beq_eq_false_iff_ne]; omega
        by_cases h13 : ev.cmd.verb = 13
        · have t2 : ((ev.cmd.verb : Int) == 13) = true := by rw [beq_iff_eq]; omega
          have HS := Lib.hid (HSKIP.out (callsE_skip (.inr (.inr h13))))
          clear HSKIP HBE HJ HROW HK1 HTK hevok
          go_wp2_with fail
          go_roundw
          case rel => exact ⟨i + 1, _, by go_num, rfl, by omega, (HS.out _ _).1, (HS.out _ _).2⟩
          case measure => simp [intOf]; omega
        have t2 : ((ev.cmd.verb : Int) == 13) = false := by rw [beq_eq_false_iff_ne]; omega
        by_cases hg : ev.cmd.verb = 1 ∨ ev.cmd.verb = 2
        · have hce := callsE_gets h0 hg
          have hkl := par_keys (hevok.par h0)
          obtain ⟨wo, rfl⟩ : ∃ wo : World, wo = wr := ⟨_, rfl⟩
          obtain ⟨pb, hpb⟩ : ∃ pb, pb = wo.heap.size + 1 := ⟨_, rfl⟩
          have hbx : ∀ o1, ((wo.alloc o1).alloc (.cells (callCells ev.cmd).toArray 37)).heap[pb]? = some (.cells (callCells { ev.cmd with key := ev.cmd.key }).toArray 37 (0, 0)) := fun o1 => by rw [heap_at, if_pos (by simp; exact hpb)]
          have HBX := Lib.hid hbx
          have HPB := Lib.hid hpb
          have HCE := Lib.hid hce
          clear hbx hce hevok HSKIP hpb
          rcases hg with hg | hg
          all_goals
            first
              | (have t3 : ((ev.cmd.verb : Int) == 1) = true := by rw [beq_iff_eq]; omega)
              | (have t3 : ((ev.cmd.verb : Int) == 1) = false := by rw [beq_eq_false_iff_ne]; omega
                 have t4 : ((ev.cmd.verb : Int) == 2) = true := by rw [beq_iff_eq]; omega)
            clear hg h12 h13 h0
            go_wp2_with fail
            rw [← HPB.out]
            go_loopw [3, 52] (fun s3 s52 wr => ∃ (j : Nat) (ov : Value) (y : List UInt8), s52 = .int .i64 (j : Int) ∧ s3 = ov ∧ j ≤ ev.cmd.keys.length ∧ CallJ w wr ov (C ++ (ev.cmd.keys.take j).map (fun k => { ev.cmd with key := k })) ∧ wr.heap[pb]? = some (.cells (callCells { ev.cmd with key := y }).toArray 37 (0, 0)) ∧
              ov.ownBlock ≠ some pb ∧ EvRow wr (.slice (some ⟨g1, o1, none⟩) L.length L.length) L ∧ KeysAt wr (.slice ka ev.cmd.keys.length kc) ev.cmd.keys) (fun _ s52 _ => ev.cmd.keys.length - (intOf s52).toNat)
            case atStart =>
              refine ⟨0, _, ev.cmd.key, rfl, rfl, Nat.zero_le _, ?_, HBX.out _, ?_, HROW.out.below (HBE.out _ _), HK1.out.below (HBE.out _ _)⟩
              · rw [List.take_zero, List.map_nil, List.append_nil]; exact HJ.out.below (HBE.out _ _)
              · intro e
                have h1 := (HJ.out.row.lt _ e).2
                have h2 := HPB.out
                omega
            case round =>
              obtain ⟨j, ov, y, rfl, rfl, hj, hcj, hbx, hne, hrow, hkw⟩ := hrel
              clear HBX
              have HC := Lib.hid hcj
              have HBXr := Lib.hid hbx
              have HNE := Lib.hid hne
              have HRW := Lib.hid hrow
              have HKWr := Lib.hid hkw
              obtain ⟨va2, vc2, rfl⟩ := row_slice hcj.row
              have hmj : ((ev.cmd.keys.take j).map (fun k => { ev.cmd with key := k })).length = j := by rw [List.length_map, List.length_take]; omega
              by_cases hlt2 : j < ev.cmd.keys.length
              · obtain ⟨x, hx⟩ : ∃ x, ev.cmd.keys[j]? = some x := ⟨_, List.getElem?_eq_getElem hlt2⟩
                obtain ⟨g2, o2, c2, hs2, -, hc2, -⟩ := hkw.at (k := j) (x := sv x) (by rw [List.getElem?_map, hx]; rfl)
                obtain ⟨rfl, -, -⟩ := slice_inj hs2
                have ix2 := fun W => idx_str' (a := some ⟨g2, o2, none⟩) (c := kc) rfl hlt2 W
                have z0 : wr.cell? ⟨pb, 0, none⟩ = some (.int .u8 (ev.cmd.cverb : Int)) := (block_cell hbx 0).1
                have z1 : wr.cell? ⟨pb, 1, none⟩ = some (sv y) := (block_cell hbx 1).1
                have zf : wr.frozen? ⟨pb, 1, none⟩ = false := (block_cell hbx 1).2
                have z2 : wr.cell? ⟨pb, 2, none⟩ = some (sv ev.cmd.value) := (block_cell hbx 2).1
                have z3 : wr.cell? ⟨pb, 3, none⟩ = some (.int .u32 (ev.cmd.flags : Int)) := (block_cell hbx 3).1
                have z4 : wr.cell? ⟨pb, 4, none⟩ = some (.int .i64 ev.cmd.exp) := (block_cell hbx 4).1
                have z5 : wr.cell? ⟨pb, 5, none⟩ = some (.int .u64 (ev.cmd.id : Int)) := (block_cell hbx 5).1
                have z6 : wr.cell? ⟨pb, 6, none⟩ = some (.int .u64 (ev.cmd.by' : Int)) := (block_cell hbx 6).1
                have hst : Chg (fun k => k = pb) wr (wr.setCell ⟨pb, 1, none⟩ (sv x)) := Chg.set (M := fun k => k = pb) (Chg.refl _ _) (fun _ => rfl) _
                have hbx1 : (wr.setCell ⟨pb, 1, none⟩ (sv x)).heap[pb]? = some (.cells (callCells { ev.cmd with key := x }).toArray 37 (0, 0)) := Go.Joins.block_setCell (i := 1) hbx (sv x)
                have hpt : ∀ t, t ≠ 37 → ¬ Tag wr pb t := fun t ht e => ht (e.one (Tag.of hbx))
                have hlo : w.heap.size ≤ pb := by have := HPB.out; omega
                have hcj1 : CallJ w (wr.setCell ⟨pb, 1, none⟩ (sv x)) (.slice va2 (C ++ (ev.cmd.keys.take j).map (fun k => { ev.cmd with key := k })).length vc2) (C ++ (ev.cmd.keys.take j).map (fun k => { ev.cmd with key := k })) := ⟨owns_grow hcj.row hst (fun g hg e => by subst e; exact hne hg), hcj.low.trans (hst.below (fun k hk => ⟨Nat.lt_of_lt_of_le hk hcj.low.size, fun e => by omega⟩))⟩
                have hrow1 := hrow.kept hst (fun k hk => by subst hk; exact ⟨hpt _ (by decide), hpt _ (by decide)⟩)
                have hkw1 : KeysAt (wr.setCell ⟨pb, 1, none⟩ (sv x)) (.slice (some ⟨g2, o2, none⟩) ev.cmd.keys.length kc) ev.cmd.keys := hkw.kept hst (fun g hg e => by subst e; exact hpt _ (by decide) (hkw.tag hg))
                have htk2 : C ++ (ev.cmd.keys.take (j + 1)).map (fun k => { ev.cmd with key := k }) = (C ++ (ev.cmd.keys.take j).map (fun k => { ev.cmd with key := k })) ++ [{ ev.cmd with key := x }] := by rw [take_keys (fun k => ({ ev.cmd with key := k } : Cmd)) hx, List.append_assoc]
                have hsz1 : w.heap.size ≤ (wr.setCell ⟨pb, 1, none⟩ (sv x)).heap.size := hcj1.low.size
                have hpl : pb < wr.heap.size := (Array.getElem?_eq_some_iff.1 hbx).1
                have HCJ1 := Lib.hid hcj1
                have HBX1 := Lib.hid hbx1
                have HRW1 := Lib.hid hrow1
                have HKW1 := Lib.hid hkw1
                have HTK2 := Lib.hid htk2
                have hll : (C ++ (ev.cmd.keys.take j).map (fun k => { ev.cmd with key := k })).length ≤ 2048 * 1048576 + 2048 := by rw [List.length_append, hmj]; omega
                clear hcj hbx hne hrow hkw hst hbx1 hpt hcj1 hrow1 hkw1 htk2 hs2 hx hmj
                generalize C ++ (ev.cmd.keys.take j).map (fun k => { ev.cmd with key := k }) = D at *
                go_wp2_with (first | (at_builtin; refine wpList_append_own_at _ (by rfl) _ _ 58 (by rfl) w.heap.size 37 i0 (.agg callZero) 7 72 Tryd.underlying58 Hi.out Hz.out.1 Hz.out.2.1 Hz.out.2.2 rfl (by omega) _ _ _ (by rfl) (HCJ1.out.row.alloc _) ⟨wr.heap.size, 0, none⟩ 1 1 (callCells { ev.cmd with key := x }) (by rfl) rfl (World.news_of_block (cs := ((callCells { ev.cmd with key := x })).toArray) (by rw [heap_at, if_pos (by simp)])) (by simp [Value.oneCell']) (by unfold maxLen; omega) (by omega) (by simp at hsz1 ⊢; omega) ?_; intro ov' w2 hown2 hg2 _ hat2) | fail)
                obtain ⟨hcj2, hch2, hno⟩ := HCJ1.out.pushed (c := { ev.cmd with key := x }) hown2 hg2
                have hrow2 := HRW1.out.kept hch2 (fun k hk => ⟨hno k hk _ (by decide), hno k hk _ (by decide)⟩)
                have hkw2 := HKW1.out.kept hch2 (fun g hg e => hno g e _ (by decide) (HKW1.out.tag hg))
                have hbx2 := hch2.obj HBX1.out (fun e => HNE.out e)
                have hne2 : ov'.ownBlock ≠ some pb := fun e => by
                  rcases hat2 with h | h
                  · rw [h] at e; exact HNE.out e
                  · rw [h] at e
                    have := Option.some.inj e
                    simp at this
                    omega
                go_roundw
                case rel => exact ⟨j + 1, _, x, by go_num, rfl, by omega, by rw [HTK2.out]; exact hcj2, hbx2, hne2, hrow2, hkw2⟩
                case measure => simp [intOf]; omega
              · obtain rfl : j = ev.cmd.keys.length := by omega
                have hfin : CallJ w wr (.slice va2 (C ++ (ev.cmd.keys.take ev.cmd.keys.length).map (fun k => { ev.cmd with key := k })).length vc2) (callsL ((L.take (i + 1)).map (·.2))) := by
                  rw [HTK.out, HCE.out]
                  have := HC.out
                  rwa [List.take_of_length_le (Nat.le_refl _)] at this ⊢
                have HF := Lib.hid hfin
                clear hcj hbx hne hrow hkw hfin hmj
                generalize (C ++ (ev.cmd.keys.take ev.cmd.keys.length).map (fun k => { ev.cmd with key := k })).length = nn at *
                go_wp2_with fail
                go_roundw
                case rel => exact ⟨i + 1, _, by go_num, rfl, by omega, HF.out, HRW.out⟩
                case measure => simp [intOf]; omega
        · have h1n : ev.cmd.verb ≠ 1 := fun h => hg (.inl h)
          have h2n : ev.cmd.verb ≠ 2 := fun h => hg (.inr h)
          have hce := callsE_one h0 h1n h2n h12 h13
          have t3 : ((ev.cmd.verb : Int) == 1) = false := by rw [beq_eq_false_iff_ne]; omega
          have t4 : ((ev.cmd.verb : Int) == 2) = false := by rw [beq_eq_false_iff_ne]; omega
          have HCE := Lib.hid hce
          clear hce h0 h12 h13 hg h1n h2n HSKIP HK1 hevok
          go_wp2_with (first | (at_builtin; refine wpList_append_own_at _ (by rfl) _ _ 58 (by rfl) w.heap.size 37 i0 (.agg callZero) 7 72 Tryd.underlying58 Hi.out Hz.out.1 Hz.out.2.1 Hz.out.2.2 rfl (by omega) _ _ _ (by rfl) (((HJ.out.row.alloc _).alloc _).alloc _) ⟨wr.heap.size + 2, 0, none⟩ 1 1 (callCells { ev.cmd with value := ev.data }) (by rfl) rfl (World.news_of_block (cs := ((callCells { ev.cmd with value := ev.data })).toArray) (by rw [heap_at, if_pos (by simp)])) (by simp [Value.oneCell']) (by unfold maxLen; omega) (by omega) (by simp; omega) ?_; intro ov' w2 hown2 hg2 _ hat2) | fail)
          obtain ⟨hcj2, hch2, hno⟩ := (HJ.out.below (HBE.out _ _)).pushed (c := { ev.cmd with value := ev.data }) hown2 hg2
          have hcj2' : CallJ w w2 ov' (callsL ((L.take (i + 1)).map (·.2))) := by rw [HTK.out, HCE.out]; exact hcj2
          have hrow2 := (HROW.out.below (HBE.out _ _)).kept hch2 (fun k hk => ⟨hno k hk _ (by decide), hno k hk _ (by decide)⟩)
          go_roundw
          case rel => exact ⟨i + 1, _, by go_num, rfl, by omega, hcj2', hrow2⟩
          case measure => simp [intOf]; omega
      · have t0 : ((ev.told : Int) != 0) = true := by rw [bne_iff_ne]; omega
        have HS := Lib.hid (HSKIP.out (callsE_skip (.inl h0)))
        clear HSKIP HBE HJ HROW HK1 HTK hevok
        go_wp2_with fail
        go_roundw
        case rel => exact ⟨i + 1, _, by go_num, rfl, by omega, (HS.out _ _).1, (HS.out _ _).2⟩
        case measure => simp [intOf]; omega
    · obtain rfl : i = L.length := by omega
      rw [List.take_of_length_le (Nat.le_refl _)] at hj
      have HJ := Lib.hid hj
      obtain ⟨va, vc, rfl⟩ := row_slice hj.row
      have hcl := clipC_any hj.row
      have HCL := Lib.hid hcl
      clear hj hrow hcl
      have HLOW := Lib.hid HJ.out.low
      clear HJ
      generalize hnn : (callsL (L.map (·.2))).length = nn at *
      have HNN := Lib.hid hnn
      clear hnn
      go_wp2_with fail
      refine HCL.out.mono ?_
      rintro e w' ⟨⟨v', rfl, hcv⟩, rfl⟩
      have HCV := Lib.hid hcv
      clear hcv
      go_wp2_with fail
      go_ret
      exact ⟨_, rfl, by rw [← HEV.out, HNN.out]; exact HCV.out, HLOW.out⟩
end Go.Proofs.YtahpjhnbjkjkiaaDoor
