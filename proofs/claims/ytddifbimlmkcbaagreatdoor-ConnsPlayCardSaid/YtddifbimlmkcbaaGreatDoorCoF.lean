/- Answers in a row; the laws' size of answers. No condition. What the laws' run of a connection leaves: all calls answered, in any chunks, soon or late. Condition: the library's variables are as they are laid. -/
import Derived.Test.YtddifbimlmkcbaaGreatDoorCoE
import Derived.BigRegion
import Derived.Test.YtddifbimlmkcbaaGreatDoorFeedCuts
import Derived.Maps.AppendAt
namespace Go.Proofs.YtddifbimlmkcbaaGreatDoor
open Go.RowKit Go.ChangeMaps Go.MapKept
/-- An answer, whose numbers are of their kinds. -/
structure AnsIs (a : AnsD) : Prop where
  ok : a.Ok
  key : a.item.key.size ≤ maxLen
  value : a.item.value.size ≤ maxLen
/-- Answers in a row. -/
def AnsRow (W : World) (v : Value) (A : List AnsD) : Prop := A.length ≤ maxLen ∧ (∀ a ∈ A, AnsIs a) ∧ ∃ a c, v = .slice a A.length c ∧ ∀ j x, A[j]? = some x → ∃ g o, a = some ⟨g, o, none⟩ ∧ g < W.heap.size ∧ ∀ i u, (ansCells x)[i]? = some u → W.cell? ⟨g, o + (j * 8 + i), none⟩ = some u
theorem AnsRow.below {W W' : World} {v : Value} {A : List AnsD} (h : AnsRow W v A) (hb : Below W.heap.size W W') : AnsRow W' v A := by
  obtain ⟨h1, h2, a, c, h3, h4⟩ := h
  refine ⟨h1, h2, a, c, h3, fun j x hj => ?_⟩
  obtain ⟨g, o, h5, h6, h7⟩ := h4 j x hj
  exact ⟨g, o, h5, Nat.lt_of_lt_of_le h6 hb.size, fun i u hu => (hb.cell (p := ⟨g, o + (j * 8 + i), none⟩) h6).trans (h7 i u hu)⟩
theorem AnsRow.len {W : World} {v : Value} {A : List AnsD} (h : AnsRow W v A) : ∃ a c, v = .slice a A.length c := by
  obtain ⟨h1, h2, a, c, h3, h4⟩ := h
  exact ⟨a, c, h3⟩
theorem AnsRow.at {W : World} {a : Option Addr} {n c : Nat} {A : List AnsD} (h : AnsRow W (.slice a n c) A) {j : Nat} {x : AnsD} (hj : A[j]? = some x) : ∃ g o b, a = some ⟨g, o, none⟩ ∧ g < W.heap.size ∧ b = o + j * 8 ∧ AnsIs x ∧ W.cell? ⟨g, b, none⟩ = some (.int .u8 x.kind) ∧ W.cell? ⟨g, b + 1, none⟩ = some (.int .u64 x.number) ∧ W.cell? ⟨g, b + 2, none⟩ = some (.string x.item.key) ∧ W.cell? ⟨g, b + 3, none⟩ = some (.string x.item.value) ∧
    W.cell? ⟨g, b + 4, none⟩ = some (.int .u32 x.item.flags) ∧ W.cell? ⟨g, b + 5, none⟩ = some (.int .u64 x.item.id) ∧ W.cell? ⟨g, b + 6, none⟩ = some (.int .i64 x.item.dies) ∧ W.cell? ⟨g, b + 7, none⟩ = some (.int .i64 x.item.gen) := by
  obtain ⟨h1, h2, a', c', h3, h4⟩ := h
  obtain ⟨rfl, -, rfl⟩ := slice_inj h3
  obtain ⟨g, o, h5, h6, h7⟩ := h4 j x hj
  exact ⟨g, o, _, h5, h6, rfl, h2 x (List.mem_of_getElem? hj), h7 0 _ rfl, h7 1 _ rfl, h7 2 _ rfl, h7 3 _ rfl, h7 4 _ rfl, h7 5 _ rfl, h7 6 _ rfl, h7 7 _ rfl⟩
end Go.Proofs.YtddifbimlmkcbaaGreatDoor
namespace Go.Proofs.YtddifbimlmkcbaaGreatDoor
open Go.RowKit Go.ChangeMaps Go.MapKept
/-- The answer to a call. -/
def ansF (A : List AnsD) (n : Nat) : AnsD := A.getD (n % A.length) missA
theorem ansF_mem (A : List AnsD) (n : Nat) : ansF A n = missA ∨ ansF A n ∈ A := by
  unfold ansF
  rw [List.getD_eq_getElem?_getD]
  cases h : A[n % A.length]? with
  | none => exact .inl rfl
  | some x => exact .inr (List.mem_of_getElem? h)
structure AnsSmall (A : List AnsD) : Prop where
  ok : ∀ a ∈ A, AnsIs a
  small : ∀ a ∈ A, a.item.key.size + a.item.value.size ≤ 1048576
theorem AnsSmall.at {A : List AnsD} (h : AnsSmall A) (n : Nat) : (ansF A n).Ok ∧ (ansF A n).item.key.size + (ansF A n).item.value.size ≤ 1048576 := by
  rcases ansF_mem A n with e | e
  · rw [e]; exact ⟨missA_ok, missA_small⟩
  · exact ⟨(h.ok _ e).ok, h.small _ e⟩
theorem RunI.fit {A : List AnsD} {bl : List UInt8} {c : Nat} {m : ConnM} {C : List Cmd} (h : RunI (ansF A) bl c m C) (hA : AnsSmall A) (hc : c ≤ bl.length) (hl : bl.length ≤ 4000) :
    FitM 4000 100000000000 m ∧ C.length + (restM (ansF A) m C.length).calls.length ≤ bl.length ∧ m.calls.length ≤ (restM (ansF A) m C.length).calls.length := by
  obtain ⟨h1, h2, h3⟩ := h.small (K := 2300000) (fun c n last => tellM_len c (ansF A n) (hA.at n).1 (hA.at n).2 last) hc
  exact ⟨⟨h.good, h.gf, h.gc, Nat.le_trans h.held (by omega), h.wok, Nat.le_trans h.wlen (by omega), by omega, by omega⟩, h1, h2⟩
/-- A run under way: c bytes have come. -/
structure RunJ (w : World) (bl : List UInt8) (A : List AnsD) (p : Nat) (c : Nat) (W : World) (rv cv : Value) (m : ConnM) (C : List Cmd) (S : Nat → Prop) : Prop where
  rest : BRow W rv (bl.drop c)
  rlow : bl ≠ [] → ∀ g, rv.ownBlock = some g → g < w.heap.size
  cj : CJ w p m W S
  row : W.ownsRow w.heap.size 39 7 cv C.length (callsCells C)
  apart : ∀ k, cv.ownBlock = some k → ¬ S k
  run : RunI (ansF A) bl c m C
  cle : c ≤ bl.length
section
variable {w : World} {bl : List UInt8} {A : List AnsD} {p c : Nat} {W W' : World} {rv cv : Value} {m m' : ConnM} {C : List Cmd} {S : Nat → Prop}
/-- The connection alone has changed. -/
theorem RunJ.step (h : RunJ w bl A p c W rv cv m C S) (hs : CStep w.heap.size W p S m' W') {c' : Nat} {rv' : Value} (hr : BRow W rv' (bl.drop c')) (hrb : rv'.ownBlock = rv.ownBlock) (hrun : RunI (ansF A) bl c' m' C) (hle : c' ≤ bl.length) : ∃ S', RunJ w bl A p c' W' rv' cv m' C S' := by
  obtain ⟨S', h1, h2, h3⟩ := h.cj.step hs
  refine ⟨S', ?_, fun hne g hg => h.rlow hne g (by rw [← hrb]; exact hg), h1, owns_grow h.row h2 (fun g hg e => h.apart g hg e), fun k hk e => ?_, hrun, hle⟩
  · refine hr.kept h2 (fun hne g hg e => ?_)
    have h4 := h.rlow (by rintro rfl; simp at hne) g (by rw [← hrb]; exact hg)
    have h5 := h.cj.is.low e
    omega
  · rcases h3 k e with h4 | h4
    · exact h.apart k hk h4
    · have := (h.row.lt k hk).2
      omega
theorem RunJ.below (h : RunJ w bl A p c W rv cv m C S) (hb : Below W.heap.size W W') : RunJ w bl A p c W' rv cv m C S :=
  ⟨h.rest.below hb, h.rlow, h.cj.below hb, row_below h.row hb, h.apart, h.run, h.cle⟩
/-- A call more is laid to the others. -/
theorem RunJ.push (h : RunJ w bl A p c W rv cv m C S) {cv' : Value} {x : Cmd} (hown : W'.ownsRow w.heap.size 39 7 cv' (C.length + 1) (callsCells C ++ callCells x)) (hg : W.grownBy W' cv.ownBlock) (hat : ∀ g, cv'.ownBlock = some g → cv.ownBlock = some g ∨ W.heap.size ≤ g) :
    CJ w p m W' S ∧ BRow W' rv (bl.drop c) ∧ W'.ownsRow w.heap.size 39 7 cv' (C ++ [x]).length (callsCells (C ++ [x])) ∧ (∀ k, cv'.ownBlock = some k → ¬ S k) ∧ Chg (fun k => cv.ownBlock = some k) W W' := by
  have hc : Chg (fun k => cv.ownBlock = some k) W W' := Chg.of_grown hg (fun _ _ e => e)
  have hno : ∀ k, cv.ownBlock = some k → ¬ S k ∧ ¬ Tag W k 9 := fun k hk => ⟨h.apart k hk, fun e => absurd ((owns_tag h.row hk).one e) (by decide)⟩
  have hlo : ∀ k, cv.ownBlock = some k → w.heap.size ≤ k := fun k hk => (h.row.lt k hk).1
  refine ⟨⟨h.cj.is.kept hc hno, h.cj.env.chg hc hlo, h.cj.low.trans (hc.below (fun k hk => ⟨Nat.lt_of_lt_of_le hk h.cj.low.size, fun e => by have := hlo k e; omega⟩))⟩, ?_, by rw [List.length_append, callsCells_snoc]; exact hown, fun k hk e => ?_, hc⟩
  · refine h.rest.kept hc (fun hne g hg e => ?_)
    have h4 := h.rlow (by rintro rfl; simp at hne) g hg
    have h5 := hlo g e
    omega
  · rcases hat k hk with h4 | h4
    · exact h.apart k h4 e
    · have := h.cj.is.far e
      omega
end
end Go.Proofs.YtddifbimlmkcbaaGreatDoor
