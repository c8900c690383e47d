/- A slice that lies in the midst of a block of the caller's own (what `s = s[1:]` leaves), and append onto it. No condition. -/
import Derived.Test.YtddifbimlmkcbaaGreatDoorLowA
import Derived.Maps.AppendAt
import Derived.Deep.AppendSrc
namespace Go.Proofs.YtddifbimlmkcbaaGreatDoor
open Go.RowKit Go.ChangeMaps Go.MapKept
theorem mid_cell0 {w : World} {p : Nat} {cs : Array Value} {t : TypeId} (h : w.heap[p]? = some (.cells cs t (0, 0))) (j : Nat) : w.cell? ⟨p, j, none⟩ = cs[j]? ∧ w.frozen? ⟨p, j, none⟩ = false := by
  constructor
  · simp [World.cell?, h]
  · simp [World.frozen?, h]
theorem setCells_grownM : ∀ (vs : List Value) (o : Nat) (w : World) (b : Nat), w.grownBy (w.setCells b o vs) (some b) ∧ (w.setCells b o vs).heap.size = w.heap.size
  | [], _, w, _ => ⟨World.grownBy.refl _ _, rfl⟩
  | v :: r, o, w, b => by
    obtain ⟨h1, h2⟩ := setCells_grownM r (o + 1) (w.setCell ⟨b, o, none⟩ v) b
    have h0 : w.grownBy (w.setCell ⟨b, o, none⟩ v) (some b) := ⟨rfl, rfl, rfl, by simp, fun k _ hk => Below.heap_setCell w ⟨b, o, none⟩ v k (fun e => hk (by rw [e]))⟩
    refine ⟨⟨h1.os.trans h0.os, h1.tape.trans h0.tape, h1.output.trans h0.output, Nat.le_trans h0.size h1.size, fun k hk hne => (h1.block k (Nat.lt_of_lt_of_le hk h0.size) hne).trans (h0.block k hk hne)⟩, ?_⟩
    show ((w.setCell ⟨b, o, none⟩ v).setCells b (o + 1) r).heap.size = _
    rw [h2]; simp
theorem setCells_listM : ∀ (vs A old C : List Value) (w : World) (b : Nat) (t : TypeId), w.heap[b]? = some (.cells (A ++ old ++ C).toArray t (0, 0)) → old.length = vs.length →
    (w.setCells b A.length vs).heap[b]? = some (.cells (A ++ vs ++ C).toArray t (0, 0))
  | [], A, old, C, w, b, t, h, hl => by
    obtain rfl : old = [] := List.eq_nil_of_length_eq_zero (by simpa using hl)
    exact h
  | v :: vs, A, [], C, w, b, t, h, hl => by simp at hl
  | v :: vs, A, u :: old, C, w, b, t, h, hl => by
    have h1 := heap_setCell_same w b A.length _ t v h
    have h2 : (A ++ u :: old ++ C).toArray.setIfInBounds A.length v = ((A ++ [v]) ++ old ++ C).toArray := by
      rw [List.setIfInBounds_toArray]
      congr 1
      simp
    rw [h2] at h1
    have h3 := setCells_listM vs (A ++ [v]) old C (w.setCell ⟨b, A.length, none⟩ v) b t h1 (by simpa using hl)
    rw [List.length_append] at h3
    show ((w.setCell ⟨b, A.length, none⟩ v).setCells b (A.length + 1) vs).heap[b]? = _
    rw [show A ++ v :: vs ++ C = A ++ [v] ++ vs ++ C from by simp]
    exact h3


/-- v is a slice of n things of `size` cells, xs, at place o of a block of the caller's own, whose cells behind it are spare as far as its capacity goes. -/
def MidRow (w : World) (base : Nat) (e : TypeId) (size : Nat) (v : Value) (n : Nat) (xs : List Value) : Prop :=
  xs.length = n * size ∧ (v = .slice none 0 0 ∧ n = 0 ∨ ∃ g o cap cur, v = .slice (some ⟨g, o, none⟩) n cap ∧ base ≤ g ∧ w.heap[g]? = some (.cells cur e (0, 0)) ∧ n ≤ cap ∧ cap ≤ maxLen ∧ o + cap * size ≤ cur.size ∧ (cur.toList.drop o).take (n * size) = xs)
theorem MidRow.nil (w : World) (base : Nat) (e : TypeId) (size : Nat) : MidRow w base e size (.slice none 0 0) 0 [] := ⟨by simp, .inl ⟨rfl, rfl⟩⟩
theorem MidRow.of_owns {w : World} {base : Nat} {e : TypeId} {size : Nat} {v : Value} {n : Nat} {xs : List Value} (h : w.ownsRow base e size v n xs) : MidRow w base e size v n xs := by
  obtain ⟨h1, h2⟩ := h
  refine ⟨h1, ?_⟩
  rcases h2 with h2 | ⟨g, cap, cur, h3, h4, h5, h6, h7, h8, h9⟩
  · exact .inl h2
  · exact .inr ⟨g, 0, cap, cur, h3, h4, h5, h6, h7, by omega, by rw [List.drop_zero]; exact h9⟩
theorem MidRow.tag {w : World} {base : Nat} {e : TypeId} {size : Nat} {v : Value} {n : Nat} {xs : List Value} (h : MidRow w base e size v n xs) {g : Nat} (hg : v.ownBlock = some g) : Tag w g e ∧ base ≤ g := by
  obtain ⟨-, ⟨rfl, -⟩ | ⟨g', o, cap, cur, rfl, h4, h5, -⟩⟩ := h
  · simp [Value.ownBlock] at hg
  · obtain rfl : g' = g := by simpa [Value.ownBlock] using hg
    exact ⟨Tag.of h5, h4⟩
theorem MidRow.kept {w w' : World} {base : Nat} {e : TypeId} {size : Nat} {v : Value} {n : Nat} {xs : List Value} (h : MidRow w base e size v n xs) {M : Nat → Prop} (hc : Chg M w w') (hM : ∀ g, v.ownBlock = some g → ¬ M g) : MidRow w' base e size v n xs := by
  obtain ⟨h1, h2 | ⟨g, o, cap, cur, rfl, h4, h5, h6⟩⟩ := h
  · exact ⟨h1, .inl h2⟩
  · exact ⟨h1, .inr ⟨g, o, cap, cur, rfl, h4, hc.obj h5 (fun e => hM g rfl e), h6⟩⟩
/-- Its cells. -/
theorem MidRow.cell {w : World} {base : Nat} {e : TypeId} {size : Nat} {g o n cap : Nat} {xs : List Value} (h : MidRow w base e size (.slice (some ⟨g, o, none⟩) n cap) n xs) {j : Nat} {u : Value} (hj : xs[j]? = some u) : w.cell? ⟨g, o + j, none⟩ = some u := by
  obtain ⟨h1, ⟨h2, -⟩ | ⟨g', o', cap', cur, h3, h4, h5, h6, h7, h8, h9⟩⟩ := h
  · cases h2
  · obtain ⟨rfl, rfl⟩ : g = g' ∧ o = o' := by simpa using (Value.slice.inj h3).1
    rw [(mid_cell0 h5 (o + j)).1]
    rw [← h9] at hj
    have hlt : j < n * size := by
      have := (List.getElem?_eq_some_iff.1 hj).1
      rw [List.length_take] at this
      omega
    rw [List.getElem?_take_of_lt hlt, List.getElem?_drop] at hj
    rw [← Array.getElem?_toList]
    exact hj
theorem MidRow.row {w : World} {base : Nat} {e : TypeId} {size : Nat} {v : Value} {n : Nat} {xs : List Value} (h : MidRow w base e size v n xs) : Row w e size v n xs := by
  have h0 := h
  obtain ⟨h1, ⟨rfl, rfl⟩ | ⟨g, o, cap, cur, rfl, h4, h5, h6, h7, h8, h9⟩⟩ := h
  · obtain rfl : xs = [] := List.eq_nil_of_length_eq_zero (by omega)
    exact Row.nil w e size
  · exact ⟨h1, _, cap, rfl, h6, h7, (fun h => by cases h), (fun g' hg' => (h0.tag hg').1), .inr ⟨g, o, rfl, fun j x hx => ⟨h0.cell hx, (mid_cell0 h5 _).2⟩⟩⟩
/-- Without its first one. -/
theorem MidRow.tail {w : World} {base : Nat} {e : TypeId} {size : Nat} {g o n cap : Nat} {x xs : List Value} (h : MidRow w base e size (.slice (some ⟨g, o, none⟩) (n + 1) cap) (n + 1) (x ++ xs)) (hx : x.length = size) {c2 : Nat} (hc : n ≤ c2) (hc2 : c2 + 1 ≤ cap) :
    MidRow w base e size (.slice (some ⟨g, o + size, none⟩) n c2) n xs := by
  obtain ⟨h1, ⟨h2, -⟩ | ⟨g', o', cap', cur, h3, h4, h5, h6, h7, h8, h9⟩⟩ := h
  · cases h2
  · obtain ⟨⟨rfl, rfl⟩, rfl⟩ : (g = g' ∧ o = o') ∧ cap = cap' := by
      have := Value.slice.inj h3
      exact ⟨by simpa using this.1, this.2.2⟩
    rw [List.length_append, hx, Nat.succ_mul] at h1
    refine ⟨by omega, .inr ⟨g, o + size, c2, cur, rfl, h4, h5, hc, by omega, ?_, ?_⟩⟩
    · have : (c2 + 1) * size ≤ cap * size := Nat.mul_le_mul_right _ hc2
      rw [Nat.succ_mul] at this
      omega
    · have h10 := congrArg (List.drop size) h9
      rw [List.drop_append_of_le_length (by omega), ← hx, List.drop_length, List.nil_append, hx, List.drop_take, List.drop_drop, Nat.succ_mul, Nat.add_sub_cancel] at h10
      exact h10

section
variable {P : Program}
theorem mid_grown (w : World) (base : Nat) (e : TypeId) (z : Value) (size : Nat) (hzs : z.cells.size = size) (n m old : Nat) (xs news : List Value) (hx : xs.length = n * size) (hl : news.length = m * size) (h63 : n + m ≤ maxLen) (hbase : base ≤ w.heap.size) (row : Option Nat) :
    MidRow (w.drew.alloc (.cells ((xs ++ news).toArray ++ Builtin.zeroCells z.cells (grownCap w (n + m) old e - (n + m))) e)) base e size (.slice (some ⟨w.heap.size, 0, none⟩) (n + m) (grownCap w (n + m) old e)) (n + m) (xs ++ news) ∧
      w.grownBy (w.drew.alloc (.cells ((xs ++ news).toArray ++ Builtin.zeroCells z.cells (grownCap w (n + m) old e - (n + m))) e)) row := by
  have hge := grownCap_ge w (n + m) old e
  have hcm : grownCap w (n + m) old e ≤ maxLen := grownCap_le_maxLen w (n + m) old e h63
  have hlen : (xs ++ news).length = (n + m) * size := by rw [List.length_append, hx, hl, Nat.add_mul]
  refine ⟨⟨hlen, .inr ⟨w.heap.size, 0, _, _, rfl, hbase, heap_alloc_new w.drew _, hge, hcm, ?_, ?_⟩⟩, ⟨rfl, rfl, rfl, by simp, fun k hk _ => heap_alloc_old w.drew _ hk⟩⟩
  · rw [Array.size_append, List.size_toArray, size_zeroCells, hzs, hlen, ← Nat.add_mul, Nat.zero_add]
    exact Nat.le_of_eq (congrArg (· * size) (by omega))
  · rw [List.drop_zero, Array.toList_append, ← hlen]
    exact List.take_left
/-- append onto such a slice, whatever is appended: in its own block, if there is room; else in a new one. -/
theorem run_append_mid (w : World) (base : Nat) (t tx ty e : TypeId) (i : TypeInfo) (z : Value) (size bytes : Nat) (ht : P.underlying t = some (.slice e)) (hi : P.info? e = some i) (hz : i.zero = some z)
    (hsize : i.size = size) (hby : i.bytes = bytes) (hzs : z.cells.size = size)
    (v : Value) (n : Nat) (xs : List Value) (hown : MidRow w base e size v n xs)
    (x : Value) (m : Nat) (news : List Value) (hs : Src P size tx x m news w)
    (h63 : n + m ≤ maxLen) (hbytes : (n + m) * bytes ≤ 140737488355328) (hbase : base ≤ w.heap.size) :
    ∃ v' w', (Builtin.append_ #[t, tx] ty #[v, x]).run P w = .ok v' w' ∧ MidRow w' base e size v' (n + m) (xs ++ news) ∧ w.grownBy w' v.ownBlock ∧ (v'.ownBlock = v.ownBlock ∨ v'.ownBlock = some w.heap.size) := by
  subst hsize
  subst hby
  have hsmall : n + m ≤ 9223372036854775807 := by simp only [maxLen] at h63; omega
  have hl := hs.newsLen
  have hx := hown.1
  rcases hown.2 with ⟨rfl, rfl⟩ | ⟨g, o, cap, cur, rfl, hbg, hg, hnc, hcm, hcs, htake⟩
  · have hx0 : xs = [] := List.eq_nil_of_length_eq_zero (by simpa using hx)
    subst hx0
    by_cases hm : m = 0
    · subst hm
      have hn : news = [] := List.eq_nil_of_length_eq_zero (by simpa using hl)
      subst hn
      refine ⟨.slice none 0 0, w, ?_, MidRow.nil _ _ _ _, ⟨rfl, rfl, rfl, Nat.le_refl _, fun _ _ _ => rfl⟩, .inl rfl⟩
      have hc := hs.cells
      have hk := hs.len
      rcases hs.kind with ⟨e', hk'⟩ | hk' <;> simp [Builtin.append_, run_underlying ht, run_underlying hk', sizeOf, typeInfo, hi, hk, hc]
    · have hr := run_append_grow_src (P := P) w t tx ty e i z ht hi hz none 0 0 [] (by simp [Builtin.firstCells]) x m news hs (by omega) (by omega) (growslice_fits (by omega) hbytes)
      have hgr := mid_grown w base e z i.size hzs 0 m 0 [] news (by simp) hl h63 hbase (Value.ownBlock (.slice none 0 0))
      exact ⟨_, _, hr, hgr.1, hgr.2, .inr rfl⟩
  · by_cases hroom : n + m ≤ cap
    · have hfit : o + n * i.size + news.length ≤ cur.size := by
        have : (n + m) * i.size ≤ cap * i.size := Nat.mul_le_mul_right _ hroom
        rw [Nat.add_mul] at this
        omega
      have hcell : ∀ j, j < news.length → (w.cell? ⟨g, o + n * i.size + j, none⟩).isSome = true ∧ w.frozen? ⟨g, o + n * i.size + j, none⟩ = false := fun j hj => by
        obtain ⟨h1, h2⟩ := mid_cell0 hg (o + n * i.size + j)
        rw [h1]
        exact ⟨by rw [Array.getElem?_eq_getElem (by omega)]; rfl, h2⟩
      have hr := run_append_room_src (P := P) w t tx ty e i ht hi g o n cap x m news hs hroom (fun j hj => (hcell j hj).1) (fun j hj => (hcell j hj).2)
      have hcl : cur.toList.length = cur.size := Array.length_toList
      have hk : o + n * i.size ≤ cur.toList.length := by omega
      have hA : (cur.toList.take (o + n * i.size)).length = o + n * i.size := by rw [List.length_take]; omega
      have hAo : (cur.toList.take (o + n * i.size)).drop o = xs := by rw [List.drop_take, Nat.add_sub_cancel_left]; exact htake
      have hold : ((cur.toList.drop (o + n * i.size)).take news.length).length = news.length := by rw [List.length_take, List.length_drop]; omega
      have hg2 : w.heap[g]? = some (.cells (cur.toList.take (o + n * i.size) ++ (cur.toList.drop (o + n * i.size)).take news.length ++ (cur.toList.drop (o + n * i.size)).drop news.length).toArray e (0, 0)) := by
        rw [List.append_assoc, List.take_append_drop, List.take_append_drop]; exact hg
      have hset := setCells_listM news _ _ _ w g e hg2 hold
      rw [hA] at hset
      have hgr := (setCells_grownM news (o + n * i.size) w g).1
      have hlen : (xs ++ news).length = (n + m) * i.size := by rw [List.length_append, hx, hl, Nat.add_mul]
      refine ⟨_, _, hr, ⟨hlen, .inr ⟨g, o, cap, _, rfl, hbg, hset, hroom, hcm, ?_, ?_⟩⟩, hgr, .inl rfl⟩
      · rw [List.size_toArray, List.length_append, List.length_append, hA, List.length_drop, List.length_drop]
        omega
      · show List.take ((n + m) * i.size) (List.drop o (cur.toList.take (o + n * i.size) ++ news ++ _)) = _
        rw [List.append_assoc, List.drop_append_of_le_length (by omega), hAo, ← List.append_assoc, ← hlen]
        exact List.take_left
    · have hr := run_append_grow_src (P := P) w t tx ty e i z ht hi hz (some ⟨g, o, none⟩) n cap xs (run_firstCells_some w.drew i.size n ⟨g, o, none⟩ n cap xs hx (fun j u hj => by
          rw [Addr.add_lit]
          exact hown.cell hj)) x m news hs (by omega) (by omega) (growslice_fits (by omega) hbytes)
      have hgr := mid_grown w base e z i.size hzs n m cap xs news hx hl h63 hbase (Value.ownBlock (.slice (some ⟨g, o, none⟩) n cap))
      exact ⟨_, _, hr, hgr.1, hgr.2, .inr rfl⟩
/-- The same, at the operation. -/
theorem wpList_append_mid {w : World} {ops : Array Oper} {rest : List Oper} {o : Oper} {a : Act} {Q : Exit → Act → World → Prop} (hgd : o.guard = none) (s x : Operand) (t tx : TypeId)
    (ho : o.op = .call { callee := .builtin .append, args := #[s, x], argTypes := #[t, tx] })
    (base : Nat) (e : TypeId) (i : TypeInfo) (z : Value) (size bytes : Nat) (ht : P.underlying t = some (.slice e)) (hi : P.info? e = some i) (hz : i.zero = some z)
    (hsize : i.size = size) (hby : i.bytes = bytes) (hzs : z.cells.size = size)
    (v : Value) (n : Nat) (xs : List Value) (hs : a.eval s = v) (hown : MidRow w base e size v n xs)
    (xv : Value) (m : Nat) (news : List Value) (hx : a.eval x = xv) (hsrc : Src P size tx xv m news w)
    (h63 : n + m ≤ maxLen) (hbytes : (n + m) * bytes ≤ 140737488355328) (hbase : base ≤ w.heap.size)
    (h : ∀ v' w', MidRow w' base e size v' (n + m) (xs ++ news) → w.grownBy w' v.ownBlock → (v'.ownBlock = v.ownBlock ∨ v'.ownBlock = some w.heap.size) → wpList P ops Q rest (a.put o.dst v') w') :
    wpList P ops Q (o :: rest) a w := by
  refine wpList_plain hgd fun K hK => ?_
  obtain ⟨v', w', hr, h2, h3, h4⟩ := run_append_mid (P := P) w base t tx o.type e i z size bytes ht hi hz hsize hby hzs v n xs hown xv m news hsrc h63 hbytes hbase
  unfold Oper.wp execOp
  simp only [ho, resolve, invoke, builtin, Sem.run_bind, Sem.run_pure, Result.andThen_ok, List.map_toArray, List.map_cons, List.map_nil, hs, hx, hr]
  exact hK _ _ (h v' w' h2 h3 h4)
end
end Go.Proofs.YtddifbimlmkcbaaGreatDoor
