/- A map of records in memory: which records it has, looked up, put, taken away, counted. No condition. -/
import Derived.Test.YtaooangnnlopcaaGreatDoorMapSpec
import Derived.Test.YtaooangnnlopcaaGreatDoorLowA
import Derived.Maps.OwnSet
namespace Go.Proofs.YtaooangnnlopcaaGreatDoor
open Go.RowKit Go.ChangeMaps Go.MapKept

instance : LawfulBEq ByteArray where
  eq_of_beq h := (MapKept.bytes_beq _ _).1 h
  rfl := (MapKept.bytes_beq _ _).2 rfl
abbrev ItemD.val (x : ItemD) : Value := .agg #[.string x.key, .string x.value, .int .u32 x.flags, .int .u64 x.id, .int .i64 x.dies, .int .i64 x.gen]
def entV (x : ItemD) : Value × Value := (.string x.key, x.val)
def entE (e : MapEntry) : Value × Value := (e.key, e.val)
/-- Block b is a map of these records. -/
def MapObj (w : World) (b : Nat) (L : List ItemD) : Prop :=
  ∃ (es : Array MapEntry) (clock : Nat) (E : List ItemD), w.heap[b]? = some (.map es clock) ∧ es.toList.map entE = E.map entV ∧ E.Perm L ∧ (L.map (·.key)).Nodup

theorem atL_iff {L : List ItemD} (hn : (L.map (·.key)).Nodup) {k : ByteArray} {x : ItemD} : atL L k = some x ↔ x ∈ L ∧ x.key = k := by
  unfold atL
  induction L with
  | nil => simp
  | cons y L ih =>
    rw [List.map_cons, List.nodup_cons] at hn
    have ih := ih hn.2
    rw [List.find?_cons]
    by_cases hy : y.key = k
    · rw [show (y.key == k) = true from beq_iff_eq.2 hy]
      simp only [Option.some.injEq, List.mem_cons]
      constructor
      · rintro rfl; exact ⟨.inl rfl, hy⟩
      · rintro ⟨h | h, hk⟩
        · exact h.symm
        · exact absurd (List.mem_map.2 ⟨x, h, hk.trans hy.symm⟩) hn.1
    · rw [show (y.key == k) = false from beq_eq_false_iff_ne.2 hy]
      simp only [List.mem_cons]
      rw [ih]
      constructor
      · rintro ⟨h, hk⟩; exact ⟨.inr h, hk⟩
      · rintro ⟨h | h, hk⟩
        · subst h; exact absurd hk hy
        · exact ⟨h, hk⟩
theorem atL_none {L : List ItemD} {k : ByteArray} : atL L k = none ↔ ∀ x ∈ L, x.key ≠ k := by
  unfold atL
  rw [List.find?_eq_none]
  constructor
  · intro h x hx e; exact h x hx (beq_iff_eq.2 e)
  · intro h x hx e; exact h x hx (beq_iff_eq.1 e)
theorem nodup_keys {E L : List ItemD} (hp : E.Perm L) (hn : (L.map (·.key)).Nodup) : (E.map (·.key)).Nodup := (hp.map _).nodup_iff.2 hn
theorem atL_perm {E L : List ItemD} (hp : E.Perm L) (hn : (L.map (·.key)).Nodup) (k : ByteArray) : atL E k = atL L k := by
  cases h : atL L k with
  | none => rw [atL_none] at h ⊢; exact fun x hx => h x (hp.mem_iff.1 hx)
  | some x =>
    rw [atL_iff hn] at h
    rw [atL_iff (nodup_keys hp hn)]
    exact ⟨hp.mem_iff.2 h.1, h.2⟩
theorem without_idx : ∀ {E : List ItemD} (_ : (E.map (·.key)).Nodup) {i : Nat} {x : ItemD} (_ : E[i]? = some x), withoutL E x.key = E.take i ++ E.drop (i + 1)
  | [], _, _, _, h => by simp at h
  | y :: E, hn, 0, x, h => by
    obtain rfl : y = x := by simpa using h
    rw [List.map_cons, List.nodup_cons] at hn
    unfold withoutL
    rw [List.filter_cons, if_neg (by simp)]
    simp only [List.take_zero, List.nil_append, Nat.zero_add, List.drop_one, List.tail_cons]
    rw [List.filter_eq_self]
    intro z hz
    simp only [Bool.not_eq_true', beq_eq_false_iff_ne, ne_eq]
    exact fun e => hn.1 (List.mem_map.2 ⟨z, hz, e⟩)
  | y :: E, hn, i + 1, x, h => by
    rw [List.map_cons, List.nodup_cons] at hn
    have h' : E[i]? = some x := by simpa using h
    have hx : y.key ≠ x.key := fun e => hn.1 (List.mem_map.2 ⟨x, List.mem_of_getElem? h', e.symm⟩)
    unfold withoutL
    rw [List.filter_cons, if_pos (by simp [hx])]
    have ih := without_idx hn.2 h'
    unfold withoutL at ih
    rw [ih]
    rfl
theorem perm_put {E L : List ItemD} (hp : E.Perm L) (hn : (L.map (·.key)).Nodup) {i : Nat} {x y : ItemD} (h : E[i]? = some x) : (E.set i y).Perm (withoutL L x.key ++ [y]) := by
  have h1 := without_idx (nodup_keys hp hn) h
  have hi : i < E.length := (List.getElem?_eq_some_iff.1 h).1
  have h2 : E.set i y = E.take i ++ y :: E.drop (i + 1) := List.set_eq_take_append_cons_drop .. |>.trans (if_pos hi)
  rw [h2]
  refine (List.perm_middle).trans ?_
  rw [← h1]
  refine List.Perm.trans ?_ (List.perm_append_comm (l₁ := [y]))
  exact List.Perm.cons y (hp.filter _)
theorem perm_erase {E L : List ItemD} (hp : E.Perm L) (hn : (L.map (·.key)).Nodup) {i : Nat} {x : ItemD} (h : E[i]? = some x) : (E.eraseIdx i).Perm (withoutL L x.key) := by
  have h1 := without_idx (nodup_keys hp hn) h
  rw [List.eraseIdx_eq_take_drop_succ, ← h1]
  exact hp.filter _
theorem without_none {L : List ItemD} {k : ByteArray} (h : atL L k = none) : withoutL L k = L := by
  unfold withoutL
  rw [List.filter_eq_self]
  intro z hz
  simp only [Bool.not_eq_true', beq_eq_false_iff_ne, ne_eq]
  exact atL_none.1 h z hz
theorem nodup_without {L : List ItemD} (hn : (L.map (·.key)).Nodup) (k : ByteArray) : ((withoutL L k).map (·.key)).Nodup := (hn.sublist ((List.filter_sublist).map _))
theorem mem_without {L : List ItemD} {k : ByteArray} {x : ItemD} : x ∈ withoutL L k ↔ x ∈ L ∧ x.key ≠ k := by
  unfold withoutL
  rw [List.mem_filter]
  simp
theorem nodup_put {L : List ItemD} (hn : (L.map (·.key)).Nodup) {k : ByteArray} {y : ItemD} (hy : y.key = k) : ((withoutL L k ++ [y]).map (·.key)).Nodup := by
  rw [List.map_append, List.nodup_append]
  refine ⟨nodup_without hn k, by simp, ?_⟩
  intro a ha b hb e
  obtain ⟨x, hx, rfl⟩ := List.mem_map.1 ha
  simp only [List.map_cons, List.map_nil, List.mem_singleton] at hb
  exact (mem_without.1 hx).2 (by rw [← hy]; exact e.trans hb)

theorem findNow_hit : ∀ {es : List MapEntry} {E : List ItemD} {k : ByteArray} {x : ItemD} (i0 : Nat), es.map entE = E.map entV → atL E k = some x →
    ∃ i e, Instr.findNow .string (.string k) es i0 = some (some (i0 + i, x.val)) ∧ E[i]? = some x ∧ es[i]? = some e ∧ e.key = .string x.key
  | [], [], _, _, _, _, h => by simp [atL] at h
  | [], _ :: _, _, _, _, h, _ => by simp at h
  | _ :: _, [], _, _, _, h, _ => by simp at h
  | e :: es, y :: E, k, x, i0, h, hf => by
    simp only [List.map_cons, List.cons.injEq, entE, entV, Prod.mk.injEq] at h
    obtain ⟨⟨hk, hv⟩, hr⟩ := h
    unfold atL at hf
    rw [List.find?_cons] at hf
    by_cases hy : y.key = k
    · rw [show (y.key == k) = true from beq_iff_eq.2 hy] at hf
      obtain rfl : y = x := by simpa using hf
      refine ⟨0, e, ?_, rfl, rfl, hk⟩
      simp [Instr.findNow, Instr.sameNow, hk, hy, hv]
    · rw [show (y.key == k) = false from beq_eq_false_iff_ne.2 hy] at hf
      obtain ⟨i, e', h1, h2, h3, h4⟩ := findNow_hit (es := es) (E := E) (k := k) (x := x) (i0 + 1) hr hf
      refine ⟨i + 1, e', ?_, by simpa using h2, by simpa using h3, h4⟩
      have hb : (k == y.key) = false := beq_eq_false_iff_ne.2 (fun e => hy e.symm)
      simp only [Instr.findNow, Instr.sameNow, hk, hb]
      rw [h1, show i0 + 1 + i = i0 + (i + 1) from by omega]
theorem findNow_miss : ∀ {es : List MapEntry} {E : List ItemD} {k : ByteArray} (i0 : Nat), es.map entE = E.map entV → atL E k = none → Instr.findNow .string (.string k) es i0 = some none
  | [], [], _, _, _, _ => rfl
  | [], _ :: _, _, _, h, _ => by simp at h
  | _ :: _, [], _, _, h, _ => by simp at h
  | e :: es, y :: E, k, i0, h, hf => by
    simp only [List.map_cons, List.cons.injEq, entE, entV, Prod.mk.injEq] at h
    obtain ⟨⟨hk, hv⟩, hr⟩ := h
    have hy : y.key ≠ k := atL_none.1 hf y (List.mem_cons_self ..)
    have hf' : atL E k = none := atL_none.2 fun x hx => atL_none.1 hf x (List.mem_cons_of_mem _ hx)
    have hb : (k == y.key) = false := beq_eq_false_iff_ne.2 (fun e => hy e.symm)
    simp only [Instr.findNow, Instr.sameNow, hk, hb]
    exact findNow_miss (i0 + 1) hr hf'
theorem map_erase {α β : Type} (f : α → β) : ∀ (l : List α) (i : Nat), (l.eraseIdx i).map f = (l.map f).eraseIdx i
  | [], _ => rfl
  | _ :: _, 0 => rfl
  | a :: l, i + 1 => by simp [List.eraseIdx_cons_succ, map_erase f l i]
section
variable {w : World} {b : Nat} {L : List ItemD}
theorem MapObj.lt (h : MapObj w b L) : b < w.heap.size := by
  obtain ⟨es, clock, E, hb, he, hp, hn⟩ := h
  exact (Array.getElem?_eq_some_iff.1 hb).1
theorem MapObj.kept {M : Nat → Prop} {w' : World} (h : MapObj w b L) (hc : Chg M w w') (hM : ¬ M b) : MapObj w' b L := by
  obtain ⟨es, clock, E, hb, he, hp, hn⟩ := h
  exact ⟨es, clock, E, hc.obj hb hM, he, hp, hn⟩
theorem MapObj.below {w' : World} (h : MapObj w b L) (hb : Below w.heap.size w w') : MapObj w' b L := h.kept (M := fun _ => False) (Chg.of_below hb) (fun e => e)
theorem str_keyed : Go.Maps.Keyed Tryz.prog 9 := Go.Maps.string_keyed Tryz.underlying9
theorem key_str {k : ByteArray} (h : k.size ≤ maxLen) : keyOf Tryz.prog 9 (.string k) = some (.string k.data.toList) := WideMaps.keyOf_string_mk Tryz.underlying9 h
theorem zeroItem (w : World) : (zeroValue 38).run Tryz.prog w = .ok noItem.val w := by kernel_rfl
/-- 'x, is := m[k]'. -/
theorem MapObj.look (h : MapObj w b L) {k : ByteArray} (hk : k.size ≤ maxLen) : (Instr.lookup 55 (.map (some b)) (.string k) true).run Tryz.prog w = .ok (.tuple #[(wasL L k).val, .bool (atL L k).isSome]) w := by
  obtain ⟨es, clock, E, hb, he, hp, hn⟩ := h
  have hat := atL_perm hp hn k
  unfold wasL
  cases hf : atL L k with
  | none =>
    rw [hf] at hat
    exact run_lookup_miss str_keyed Tryz.underlying55 Tryz.underlying9 hb (key_str hk) (findNow_miss 0 he hat) (zeroItem w) true
  | some x =>
    rw [hf] at hat
    obtain ⟨i, e, h1, h2, h3, h4⟩ := findNow_hit 0 he hat
    exact run_lookup_hit str_keyed Tryz.underlying55 Tryz.underlying9 hb (key_str hk) h1 true
theorem look_no {k : ByteArray} (hk : k.size ≤ maxLen) (w : World) : (Instr.lookup 55 (.map none) (.string k) true).run Tryz.prog w = .ok (.tuple #[noItem.val, .bool false]) w := by
  have hck := fun em => str_keyed.check w em (key_str hk)
  simp [Instr.lookup, run_underlying Tryz.underlying55, hck, Instr.findKey, run_underlying Tryz.underlying9, Instr.findNow, Result.andThen, noItem]
/-- 'm[x.Key] = x'. -/
theorem MapObj.put (h : MapObj w b L) {x : ItemD} (hk : x.key.size ≤ maxLen) : ∃ w', (Instr.mapUpdate 55 (.map (some b)) (.string x.key) x.val).run Tryz.prog w = .ok () w' ∧ MapObj w' b (withoutL L x.key ++ [x]) ∧ Chg (fun k => k = b) w w' := by
  obtain ⟨es, clock, E, hb, he, hp, hn⟩ := h
  have hat := atL_perm hp hn x.key
  have hck := str_keyed.check w false (key_str hk)
  have hset : ∀ o, Chg (fun k => k = b) w (setBlock w b o) := fun o => ⟨rfl, rfl, rfl, by simp [setBlock], fun k _ hk => heap_setBlock_other hb _ hk⟩
  cases hf : atL L x.key with
  | none =>
    rw [hf] at hat
    have hff : (Instr.findKey 9 (.string x.key) es.toList).run Tryz.prog w = .ok none w := run_findKey Tryz.underlying9 (findNow_miss 0 he hat)
    refine ⟨setBlock w b (.map (es.push ⟨.string x.key, x.val, clock⟩) (clock + 1)), ?_, ⟨_, _, E ++ [x], heap_setBlock_same hb _, ?_, ?_, nodup_put hn rfl⟩, hset _⟩
    · simp [Instr.mapUpdate, run_underlying Tryz.underlying55, MapKept.run_getObj_map hb, hck, hff, MapKept.run_setObj_map _ hb, Result.andThen, setBlock]
    · rw [Array.toList_push, List.map_append, he, List.map_append]; rfl
    · rw [without_none hf]
      exact hp.append_right _
  | some y =>
    rw [hf] at hat
    have hy := (atL_iff (nodup_keys hp hn)).1 hat
    obtain ⟨i, e, h1, h2, h3, h4⟩ := findNow_hit 0 he hat
    rw [Nat.zero_add] at h1
    have hff : (Instr.findKey 9 (.string x.key) es.toList).run Tryz.prog w = .ok (some (i, y.val)) w := run_findKey Tryz.underlying9 h1
    have h5 : es[i]? = some e := by rw [← Array.getElem?_toList]; exact h3
    have h6 : e.key = .string x.key := by rw [h4, hy.2]
    have hks : (Instr.keyThatStays e.key (.string x.key)).run Tryz.prog w = .ok (.string x.key) w := by
      rw [h6]
      simp [Instr.keyThatStays, Instr.sameBits]
    refine ⟨setBlock w b (.map (es.modify i fun e => { e with key := .string x.key, val := x.val }) clock), ?_, ⟨_, _, E.set i x, heap_setBlock_same hb _, ?_, ?_, nodup_put hn rfl⟩, hset _⟩
    · simp [Instr.mapUpdate, run_underlying Tryz.underlying55, MapKept.run_getObj_map hb, hck, hff, MapKept.run_setObj_map _ hb, Result.andThen, setBlock, h5, hks]
    · apply List.ext_getElem?
      intro j
      have hj := congrArg (fun l => l[j]?) he
      simp only [List.getElem?_map] at hj ⊢
      rw [Array.getElem?_toList, Array.getElem?_modify, List.getElem?_set]
      rw [Array.getElem?_toList] at hj
      have hil : i < E.length := (List.getElem?_eq_some_iff.1 h2).1
      by_cases hij : i = j
      · subst hij
        rw [if_pos rfl, if_pos rfl, if_pos hil, h5]
        rfl
      · rw [if_neg hij, if_neg hij]; exact hj
    · have := perm_put (y := x) hp hn h2
      rwa [hy.2] at this
/-- 'delete(m, k)'. -/
theorem MapObj.drop (h : MapObj w b L) {k : ByteArray} (hk : k.size ≤ maxLen) (ty : TypeId) : ∃ w', (Builtin.delete_ #[55, 9] ty #[.map (some b), .string k]).run Tryz.prog w = .ok (.tuple #[]) w' ∧ MapObj w' b (withoutL L k) ∧ Chg (fun k => k = b) w w' := by
  obtain ⟨es, clock, E, hb, he, hp, hn⟩ := h
  have hat := atL_perm hp hn k
  have hck := fun em => str_keyed.check w em (key_str hk)
  have hset : ∀ o, Chg (fun k => k = b) w (setBlock w b o) := fun o => ⟨rfl, rfl, rfl, by simp [setBlock], fun k _ hk => heap_setBlock_other hb _ hk⟩
  cases hf : atL L k with
  | none =>
    rw [hf] at hat
    have hff : (Instr.findKey 9 (.string k) es.toList).run Tryz.prog w = .ok none w := run_findKey Tryz.underlying9 (findNow_miss 0 he hat)
    refine ⟨setBlock w b (.map es clock), ?_, ⟨_, _, E, heap_setBlock_same hb _, he, ?_, nodup_without hn k⟩, hset _⟩
    · simp [Builtin.delete_, run_underlying Tryz.underlying55, MapKept.run_getObj_map hb, hck, hff, MapKept.run_setObj_map _ hb, Result.andThen, setBlock]
    · rw [without_none hf]; exact hp
  | some y =>
    rw [hf] at hat
    have hy := (atL_iff (nodup_keys hp hn)).1 hat
    obtain ⟨i, e, h1, h2, h3, h4⟩ := findNow_hit 0 he hat
    rw [Nat.zero_add] at h1
    have hff : (Instr.findKey 9 (.string k) es.toList).run Tryz.prog w = .ok (some (i, y.val)) w := run_findKey Tryz.underlying9 h1
    refine ⟨setBlock w b (.map (es.eraseIdxIfInBounds i) clock), ?_, ⟨_, _, E.eraseIdx i, heap_setBlock_same hb _, ?_, ?_, nodup_without hn k⟩, hset _⟩
    · simp [Builtin.delete_, run_underlying Tryz.underlying55, MapKept.run_getObj_map hb, hck, hff, MapKept.run_setObj_map _ hb, Result.andThen, setBlock]
    · rw [Array.toList_eraseIdxIfInBounds, map_erase, he, map_erase]
    · have := perm_erase hp hn h2
      rwa [hy.2] at this
theorem MapObj.len (h : MapObj w b L) (ty : TypeId) : (Builtin.len_ #[55] ty #[.map (some b)]).run Tryz.prog w = .ok (.int .i64 (L.length : Int)) w := by
  obtain ⟨es, clock, E, hb, he, hp, hn⟩ := h
  have e1 : es.size = L.length := by
    rw [← hp.length_eq, ← List.length_map (f := entV), ← he, List.length_map, Array.length_toList]
  rw [← e1]
  simp [Builtin.len_, run_underlying Tryz.underlying55, MapKept.run_getObj_map hb, goInt, Result.andThen]
end
end Go.Proofs.YtaooangnnlopcaaGreatDoor
