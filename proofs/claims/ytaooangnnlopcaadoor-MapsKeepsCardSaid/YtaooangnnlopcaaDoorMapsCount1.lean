/- A map of one's own, and blocks of any kind kept beside it; the calls of MapsCounts. Condition: the library's tables lie as they are laid. -/
import Derived.Test.YtaooangnnlopcaaDoorMapsCount0
namespace Go.Proofs.YtaooangnnlopcaaDoor
open Go.RowKit Go.ChangeMaps Go.MapKept
structure KpAt (w W : World) (p : Nat) (m : MapM) (bs : List (Nat × Array Value × TypeId)) : Prop where
  lv : LvAt w W p m []
  kept : ∀ x ∈ bs, x.1 ≠ p ∧ W.heap[x.1]? = some (.cells x.2.1 x.2.2 (0, 0))
theorem KpAt.step {w W W' : World} {p : Nat} {m m' : MapM} {bs : List (Nat × Array Value × TypeId)} (h : KpAt w W p m bs) (hm : MapAt W' p m') (hc : MChg W p W') : KpAt w W' p m' bs :=
  ⟨h.lv.step hm hc, fun x hx => ⟨(h.kept x hx).1, hc.chg.obj (h.kept x hx).2 (fun hM => by
    have h2 := h.kept x hx
    rcases MM.kind h.lv.map hM with e | ⟨es, clock, e⟩
    · exact h2.1 e
    · rw [h2.2] at e; cases e)⟩⟩
theorem KpAt.below {w W W' : World} {p : Nat} {m : MapM} {bs : List (Nat × Array Value × TypeId)} (h : KpAt w W p m bs) (hb : Below W.heap.size W W') : KpAt w W' p m bs :=
  h.step (h.lv.map.below hb) (MChg.below hb h.lv.map.lt)
theorem KpAt.put {w W W' : World} {p : Nat} {m : MapM} {bs : List (Nat × Array Value × TypeId)} {cs : Array Value} {t : TypeId} {o : Obj} (h : KpAt w W p m bs) (hr : W'.heap[W.heap.size]? = some (.cells cs t (0, 0))) (hg : (W.alloc o).grownBy W' (some W.heap.size)) : KpAt w W' p m ((W.heap.size, cs, t) :: bs) := by
  have hb : Below W.heap.size W W' := grown_below ((Below.refl _ _).alloc (Nat.le_refl _) o) (by rw [size_at]; omega) hg (fun k hk => by cases hk; exact Nat.le_refl _)
  have h2 := h.below hb
  refine ⟨h2.lv, fun x hx => ?_⟩
  rcases List.mem_cons.1 hx with rfl | hx
  · exact ⟨by have := h.lv.map.lt; simp only; omega, hr⟩
  · exact h2.kept x hx
theorem text_at {n : Nat} (hn : n < 18446744073709551616) (w : World) (hP : HasPow w) : Calls Tryd.prog 18 #[.int .u64 (n : Int)] w fun e w' => e = .returned (.string ⟨(Lib.decDigits n).toArray⟩) ∧ Below w.heap.size w w' :=
  text_any (n : Int) (by omega) (by omega) w hP
section
variable {w W : World} {p : Nat} {bs : List (Nat × Array Value × TypeId)}
/-- A call done, where what it does is known. -/
theorem kp_does {m m' : MapM} {c : CallD} {a : AnsD} (h : KpAt w W p m bs) (he : doesM m c 0 = (a, m')) (hm : m.epoch = 0) (hkl : c.key.size ≤ maxLen) (hv0 : 0 ≤ c.verb ∧ c.verb ≤ 255) (hx : -9223372036854775808 ≤ c.exp ∧ c.exp ≤ 9223372036854775807) (hby : 0 ≤ c.by' ∧ c.by' ≤ 18446744073709551615) (hid : m.ids < 18446744073709551615) (hE : HasErr w) (hP : HasPow w) : Calls Tryd.prog 12 #[.pointer (some ⟨p, 0, none⟩), .agg #[.int .u8 c.verb, .string c.key, .string c.value, .int .u32 c.flags, .int .i64 c.exp, .int .u64 c.id, .int .u64 c.by'], .int .u64 0] W fun e w' => e = .returned (.agg a.cells) ∧ KpAt w w' p m' bs := by
  refine (does_any (c := c) (ep := 0) h.lv.map (by rw [hm]; decide) (by decide) hkl hv0 hx hby hid (hE.below h.lv.bel) (hP.below h.lv.bel)).mono ?_
  rintro e w1 ⟨rfl, hm1, hc⟩
  rw [he] at hm1 ⊢
  exact ⟨rfl, h.step hm1 hc⟩
theorem kp_at {v : ByteArray} {f : Int} {i : Nat} {d : Int} (h : KpAt w W p (oneM v f i d) bs) : Calls Tryd.prog 13 #[.pointer (some ⟨p, 0, none⟩), .string ⟨#[107]⟩] W fun e w' => e = .returned (.tuple #[.agg #[.string ⟨#[107]⟩, .string v, .int .u32 f, .int .u64 (i : Int), .int .i64 d, .int .i64 0], .bool true]) ∧ KpAt w w' p (oneM v f i d) bs := by
  refine (mapsAt_any (k := kK) h.lv.map (by decide)).mono ?_
  rintro e w1 ⟨rfl, hb⟩
  refine ⟨?_, h.below hb⟩
  unfold oneM
  rw [was_one, atL_one]
  rfl
end
end Go.Proofs.YtaooangnnlopcaaDoor
