/- A map of one's own, beside blocks that are written to. No condition. -/
import Derived.Test.YtaooangnnlopcaaDoorMapsCount1
import Derived.Test.YtaooangnnlopcaaDoorMapsKeep1
namespace Go.Proofs.YtaooangnnlopcaaDoor
open Go.RowKit Go.ChangeMaps Go.MapKept
theorem LvAt.base {w w0 W : World} {p : Nat} {m : MapM} {bs : List (Nat × Array Value)} (h : LvAt w0 W p m bs) (hb : Below w.heap.size w w0) : LvAt w W p m bs :=
  ⟨h.map, Nat.le_trans hb.size h.low, fun k hk => Nat.le_trans hb.size (h.new k hk), hb.trans (h.bel.mono hb.size), h.held⟩
theorem KpAt.add {w W : World} {p : Nat} {m : MapM} {bs : List (Nat × Array Value × TypeId)} (h : KpAt w W p m bs) {q : Nat} {cs : Array Value} {t : TypeId} (hq : q ≠ p) (hr : W.heap[q]? = some (.cells cs t (0, 0))) : KpAt w W p m ((q, cs, t) :: bs) :=
  ⟨h.lv, fun x hx => by
    rcases List.mem_cons.1 hx with rfl | hx
    · exact ⟨hq, hr⟩
    · exact h.kept x hx⟩
theorem LvAt.set {w W : World} {p : Nat} {m : MapM} {q i : Nat} {v : Value} {cs : Array Value} {t : TypeId} (h : LvAt w W p m []) (hp : q ≠ p) (hr : W.heap[q]? = some (.cells cs t (0, 0))) (hq : w.heap.size ≤ q) : LvAt w (W.setCell ⟨q, i, none⟩ v) p m [] := by
  have hc : Chg (fun k => k = q) W (W.setCell ⟨q, i, none⟩ v) := Chg.set (M := fun k => k = q) (Chg.refl _ _) (fun _ => rfl) _
  have hm := h.map.kept hc (fun e => hp e.symm) (fun b ⟨es, clock, hb⟩ e => by
    subst e
    rw [hr] at hb
    cases hb)
  obtain ⟨mb, h0, -, -⟩ := h.map.cells
  refine ⟨hm, h.low, fun k hk => h.new k ?_, h.bel.setCell hq _, fun x hx => by cases hx⟩
  rw [hc.cell h0 (fun e => hp e.symm)] at hk
  rw [h0]
  exact hk
theorem KpAt.set {w W : World} {p : Nat} {m : MapM} {bs : List (Nat × Array Value × TypeId)} {q i : Nat} {v : Value} {cs : Array Value} {t : TypeId} (h : KpAt w W p m ((q, cs, t) :: bs)) (hq : w.heap.size ≤ q) (hd : ∀ x ∈ bs, x.1 ≠ q) : KpAt w (W.setCell ⟨q, i, none⟩ v) p m ((q, cs.setIfInBounds i v, t) :: bs) := by
  have h1 := h.kept _ (.head _)
  refine ⟨h.lv.set h1.1 h1.2 hq, fun x hx => ?_⟩
  rcases List.mem_cons.1 hx with rfl | hx
  · exact ⟨h1.1, Go.Joins.block_setCell h1.2 v⟩
  · refine ⟨(h.kept x (.tail _ hx)).1, ?_⟩
    rw [Below.heap_setCell _ _ _ _ (by show x.1 ≠ q; exact hd x hx)]
    exact (h.kept x (.tail _ hx)).2
theorem KpAt.less {w W : World} {p : Nat} {m : MapM} {b : Nat × Array Value × TypeId} {bs : List (Nat × Array Value × TypeId)} (h : KpAt w W p m (b :: bs)) : KpAt w W p m bs := ⟨h.lv, fun x hx => h.kept x (.tail _ hx)⟩
/-- A block written over whole. -/
theorem KpAt.over {w W W' : World} {p : Nat} {m : MapM} {bs : List (Nat × Array Value × TypeId)} {q : Nat} {cs cs' : Array Value} {t : TypeId} (h : KpAt w W p m ((q, cs, t) :: bs)) (hq : w.heap.size ≤ q) (hd : ∀ x ∈ bs, x.1 ≠ q) (hr : W'.heap[q]? = some (.cells cs' t (0, 0))) (hg : W.grownBy W' (some q)) : KpAt w W' p m ((q, cs', t) :: bs) := by
  have h1 := h.kept _ (.head _)
  have hc : Chg (fun k => k = q) W W' := Chg.of_grown hg (fun i _ e => by cases e; rfl)
  have hm := h.lv.map.kept hc (fun e => h1.1 e.symm) (fun b ⟨es, clock, hb⟩ e => by
    subst e
    rw [h1.2] at hb
    cases hb)
  obtain ⟨mb, h0, -, -⟩ := h.lv.map.cells
  refine ⟨⟨hm, h.lv.low, fun k hk => h.lv.new k ?_, h.lv.bel.trans (hc.below (fun k hk => ⟨Nat.lt_of_lt_of_le hk h.lv.bel.size, fun e => by omega⟩)), fun x hx => by cases hx⟩, fun x hx => ?_⟩
  · rw [hc.cell h0 (fun e => h1.1 e.symm)] at hk
    rw [h0]
    exact hk
  · rcases List.mem_cons.1 hx with rfl | hx
    · exact ⟨h1.1, hr⟩
    · exact ⟨(h.kept x (.tail _ hx)).1, hc.obj (h.kept x (.tail _ hx)).2 (hd x hx)⟩
theorem kp_do {w W : World} {p : Nat} {m : MapM} {bs : List (Nat × Array Value × TypeId)} {c : CallD} {ep : Nat} (h : KpAt w W p m bs) (hme : m.epoch < 18446744073709551616) (he : ep < 18446744073709551616) (hc : CallFit c) (hid : m.ids < 18446744073709551615) (hE : HasErr w) (hP : HasPow w) : Calls Tryd.prog 12 #[.pointer (some ⟨p, 0, none⟩), .agg #[.int .u8 c.verb, .string c.key, .string c.value, .int .u32 c.flags, .int .i64 c.exp, .int .u64 c.id, .int .u64 c.by'], .int .u64 (ep : Int)] W fun e w' => e = .returned (.agg (doesM m c ep).1.cells) ∧ KpAt w w' p (doesM m c ep).2 bs := by
  refine (does_any h.lv.map hme he hc.key hc.verb hc.exp hc.by' hid (hE.below h.lv.bel) (hP.below h.lv.bel)).mono ?_
  rintro e w1 ⟨rfl, hm1, hc⟩
  exact ⟨rfl, h.step hm1 hc⟩
theorem KpAt.drewN {w W : World} {p : Nat} {m : MapM} {bs : List (Nat × Array Value × TypeId)} (h : KpAt w W p m bs) (n : Nat) : KpAt w (W.drewN n) p m bs := ⟨⟨h.lv.map, h.lv.low, h.lv.new, low_drewM h.lv.bel n, h.lv.held⟩, h.kept⟩
/-- A test that lets what follows go on only where P holds. -/
def MayGo (v : Value) (P : Prop) : Prop := ∃ b : Bool, v = .bool b ∧ (b = false → P)
theorem mayGo_yes {P : Prop} : MayGo (.bool true) P := ⟨true, rfl, fun h => by cases h⟩
theorem mayGo_no {P : Prop} (h : P) : MayGo (.bool false) P := ⟨false, rfl, fun _ => h⟩
section
variable {w W : World} {p : Nat} {m : MapM} {bs : List (Nat × Array Value)} {c : CallD} {ep : Nat}
theorem lv_do (h : LvAt w W p m bs) (hme : m.epoch < 18446744073709551616) (he : ep < 18446744073709551616) (hc : CallFit c) (hid : m.ids < 18446744073709551615) (hE : HasErr w) (hP : HasPow w) : Calls Tryd.prog 12 #[.pointer (some ⟨p, 0, none⟩), .agg #[.int .u8 c.verb, .string c.key, .string c.value, .int .u32 c.flags, .int .i64 c.exp, .int .u64 c.id, .int .u64 c.by'], .int .u64 (ep : Int)] W fun e w' => e = .returned (.agg (doesM m c ep).1.cells) ∧ LvAt w w' p (doesM m c ep).2 bs := by
  refine (does_any h.map hme he hc.key hc.verb hc.exp hc.by' hid (hE.below h.bel) (hP.below h.bel)).mono ?_
  rintro e w1 ⟨rfl, hm1, hc⟩
  exact ⟨rfl, h.step hm1 hc⟩
end
theorem fit_get {k : ByteArray} (hk : k.size ≤ maxLen) : CallFit (getC k) := ⟨by show (0 : Int) ≤ 1 ∧ (1 : Int) ≤ 255; omega, hk, by show 0 ≤ maxLen; omega, by show (0 : Int) ≤ 0 ∧ (0 : Int) ≤ 4294967295; omega, by show -9223372036854775808 ≤ (0 : Int) ∧ (0 : Int) ≤ 9223372036854775807; omega, by show (0 : Int) ≤ 0 ∧ (0 : Int) ≤ 18446744073709551615; omega, by show (0 : Int) ≤ 0 ∧ (0 : Int) ≤ 18446744073709551615; omega⟩
def setC (k : ByteArray) : CallD := ⟨3, k, ⟨#[]⟩, 0, 0, 0, 0⟩
theorem fit_set {k : ByteArray} (hk : k.size ≤ maxLen) : CallFit (setC k) := ⟨by show (0 : Int) ≤ 3 ∧ (3 : Int) ≤ 255; omega, hk, by show 0 ≤ maxLen; omega, by show (0 : Int) ≤ 0 ∧ (0 : Int) ≤ 4294967295; omega, by show -9223372036854775808 ≤ (0 : Int) ∧ (0 : Int) ≤ 9223372036854775807; omega, by show (0 : Int) ≤ 0 ∧ (0 : Int) ≤ 18446744073709551615; omega, by show (0 : Int) ≤ 0 ∧ (0 : Int) ≤ 18446744073709551615; omega⟩
theorem fit_flush {n : Nat} (hn : n ≤ 20) : CallFit (flushC n) := ⟨by show (0 : Int) ≤ 11 ∧ (11 : Int) ≤ 255; omega, by show 0 ≤ maxLen; omega, by show 0 ≤ maxLen; omega, by show (0 : Int) ≤ 0 ∧ (0 : Int) ≤ 4294967295; omega, by show -9223372036854775808 ≤ (n : Int) ∧ (n : Int) ≤ 9223372036854775807; omega, by show (0 : Int) ≤ 0 ∧ (0 : Int) ≤ 18446744073709551615; omega, by show (0 : Int) ≤ 0 ∧ (0 : Int) ≤ 18446744073709551615; omega⟩
theorem LvAt.less {w W : World} {p : Nat} {m : MapM} {b : Nat × Array Value} {bs : List (Nat × Array Value)} (h : LvAt w W p m (b :: bs)) : LvAt w W p m bs := ⟨h.map, h.low, h.new, h.bel, fun x hx => h.held x (.tail _ hx)⟩
end Go.Proofs.YtaooangnnlopcaaDoor
