/- Plain: byte by byte a feed tells what the document has of all bytes. No condition, no program in sight. -/
import Derived.Test.YtahpjhnbjkjkiaaGreatDoorFeedSpec
namespace Go.Proofs.YtahpjhnbjkjkiaaGreatDoor

theorem line10_le : ∀ b : List UInt8, line10 b ≤ b.length
  | [] => Nat.le_refl _
  | c :: b => by
    rw [line10]
    split
    · omega
    · have := line10_le b
      simp only [List.length_cons]; omega
/-- Bytes without a 10, or up to the first one. -/
theorem line10_cut : ∀ b : List UInt8, (line10 b = b.length ∧ ∀ c ∈ b, c ≠ 10) ∨ ∃ p q, b = p ++ 10 :: q ∧ p.length = line10 b ∧ ∀ c ∈ p, c ≠ 10
  | [] => .inl ⟨rfl, by simp⟩
  | c :: b => by
    by_cases hc : c = 10
    · subst hc
      exact .inr ⟨[], b, rfl, by rw [line10, if_pos rfl]; rfl, by simp⟩
    · rcases line10_cut b with ⟨h1, h2⟩ | ⟨p, q, rfl, h2, h3⟩
      · refine .inl ⟨by rw [line10, if_neg hc, h1]; rfl, fun x hx => ?_⟩
        rcases List.mem_cons.1 hx with rfl | hx
        · exact hc
        · exact h2 x hx
      · refine .inr ⟨c :: p, q, rfl, by rw [line10, if_neg hc, ← h2]; rfl, fun x hx => ?_⟩
        rcases List.mem_cons.1 hx with rfl | hx
        · exact hc
        · exact h3 x hx
theorem line10_at {p q : List UInt8} (h : ∀ c ∈ p, c ≠ 10) : line10 (p ++ 10 :: q) = p.length := by
  induction p with
  | nil => rw [List.nil_append, line10, if_pos rfl]; rfl
  | cons c p ih =>
    rw [List.cons_append, line10, if_neg (h c (by simp)), ih (fun x hx => h x (by simp [hx]))]; rfl
theorem line10_none {p : List UInt8} (h : ∀ c ∈ p, c ≠ 10) : line10 p = p.length := by
  induction p with
  | nil => rfl
  | cons c p ih => rw [line10, if_neg (h c (by simp)), ih (fun x hx => h x (by simp [hx]))]; rfl

/-- A line that is gathered. -/
theorem run_gather : ∀ (b : List UInt8) (st : FSt), st.way = 0 → (∀ c ∈ b, c ≠ 10) → st.held.length + b.length ≤ 2048 → runF st b = ({ st with held := st.held ++ b }, [])
  | [], st, _, _, _ => by rw [runF_nil, List.append_nil]
  | c :: b, st, hw, hb, hl => by
    have hc := hb c (by simp)
    simp only [List.length_cons] at hl
    have hs : stepF st c = ({ st with held := st.held ++ [c] }, []) := by
      unfold stepF gatherF
      rw [if_pos hw, if_neg hc, if_neg (by omega)]
    rw [runF_cons, hs]
    have := run_gather b { st with held := st.held ++ [c] } hw (fun x hx => hb x (by simp [hx])) (by simp only [List.length_append, List.length_cons, List.length_nil]; omega)
    rw [this]
    simp
/-- A line that is swallowed. -/
theorem run_swallow : ∀ (b : List UInt8) (st : FSt), st.way = 4 → (∀ c ∈ b, c ≠ 10) → runF st b = (st, [])
  | [], st, _, _ => rfl
  | c :: b, st, hw, hb => by
    have hs : stepF st c = (st, []) := by
      unfold stepF
      rw [hw, if_neg (by decide), if_neg (by decide), if_neg (by decide), if_neg (by decide), if_pos rfl, if_neg (hb c (by simp))]
    rw [runF_cons, hs]
    have := run_swallow b st hw (fun x hx => hb x (by simp [hx]))
    rw [this]; rfl
/-- A line that is too long. -/
theorem run_long (b : List UInt8) (st : FSt) (hw : st.way = 0) (hb : ∀ c ∈ b, c ≠ 10) (hh : st.held.length ≤ 2048) (hl : 2048 < st.held.length + b.length) : runF st b = (beginF { st with held := [] } 4, [toldE 3]) := by
  have hcut : b = b.take (2048 - st.held.length) ++ b.drop (2048 - st.held.length) := (List.take_append_drop _ _).symm
  have hl1 : (b.take (2048 - st.held.length)).length = 2048 - st.held.length := by rw [List.length_take]; omega
  have hl2 : 0 < (b.drop (2048 - st.held.length)).length := by rw [List.length_drop]; omega
  have hb1 : ∀ c ∈ b.take (2048 - st.held.length), c ≠ 10 := fun c hc => hb c (List.mem_of_mem_take hc)
  have hb2 : ∀ c ∈ b.drop (2048 - st.held.length), c ≠ 10 := fun c hc => hb c (List.mem_of_mem_drop hc)
  generalize b.take (2048 - st.held.length) = p at *
  generalize b.drop (2048 - st.held.length) = q at *
  subst hcut
  rw [runF_append, run_gather p st hw hb1 (by omega)]
  cases q with
  | nil => simp at hl2
  | cons c q =>
    have hs : stepF { st with held := st.held ++ p } c = (beginF { st with held := [] } 4, [toldE 3]) := by
      unfold stepF gatherF
      rw [if_pos hw, if_neg (hb2 c (by simp)), if_pos (by show (st.held ++ p).length = 2048; rw [List.length_append]; omega)]
      rfl
    simp only
    rw [runF_cons, hs, run_swallow q _ rfl (fun x hx => hb2 x (by simp [hx]))]
    rfl
/-- Bytes that are swallowed one by one. -/
theorem run_many : ∀ (b : List UInt8) (st : FSt), st.way = 5 → st.held = [] → b.length < st.many → runF st b = ({ st with many := st.many - b.length }, [])
  | [], st, _, _, _ => rfl
  | c :: b, st, hw, hh, hl => by
    simp only [List.length_cons] at hl
    have hs : stepF st c = ({ st with many := st.many - 1 }, []) := by
      unfold stepF
      rw [hw, if_neg (by decide), if_neg (by decide), if_neg (by decide), if_neg (by decide), if_neg (by decide), if_neg (by omega)]
    rw [runF_cons, hs]
    have := run_many b { st with many := st.many - 1 } hw hh (by show b.length < st.many - 1; omega)
    rw [this]
    simp only [List.length_cons, List.nil_append, Prod.mk.injEq, and_true]
    rw [show st.many - 1 - b.length = st.many - (b.length + 1) from by omega]
theorem run_many_all (b : List UInt8) (st : FSt) (hw : st.way = 5) (hh : st.held = []) (h0 : 0 < st.many) (hl : b.length = st.many) : runF st b = (beginF { st with many := 0 } 0, []) := by
  have hne : b ≠ [] := by intro h; rw [h] at hl; simp at hl; omega
  have hcut := List.dropLast_concat_getLast hne
  generalize b.getLast hne = c at hcut
  clear hne
  have hl1 : b.dropLast.length = st.many - 1 := by rw [List.length_dropLast, hl]
  generalize b.dropLast = p at *
  subst hcut
  rw [runF_append, run_many p st hw hh (by omega)]
  simp only
  have hs : stepF { st with many := st.many - p.length } c = (beginF { st with many := 0 } 0, []) := by
    unfold stepF
    rw [hw, if_neg (by decide), if_neg (by decide), if_neg (by decide), if_neg (by decide), if_neg (by decide), if_pos (by show st.many - p.length - 1 = 0; omega)]
    simp only [Prod.mk.injEq, and_true]
    rw [show st.many - p.length - 1 = 0 from by omega]
  rw [runF_cons, hs]; rfl
/-- Data that is gathered. -/
theorem run_data : ∀ (b : List UInt8) (st : FSt), st.way = 1 → (st.held.length + b.length : Int) < st.cmd.bytes → runF st b = ({ st with held := st.held ++ b }, [])
  | [], st, _, _ => by rw [runF_nil, List.append_nil]
  | c :: b, st, hw, hl => by
    simp only [List.length_cons] at hl
    have hs : stepF st c = ({ st with held := st.held ++ [c] }, []) := by
      unfold stepF fullF
      rw [hw, if_neg (by decide), if_pos rfl, if_neg (by simp only [List.length_append, List.length_cons, List.length_nil]; omega)]
    rw [runF_cons, hs]
    have := run_data b { st with held := st.held ++ [c] } hw (by simp only [List.length_append, List.length_cons, List.length_nil]; omega)
    rw [this]
    simp
theorem run_data_all (b : List UInt8) (st : FSt) (hw : st.way = 1) (hh : st.held = []) (h0 : 0 < st.cmd.bytes) (hl : (b.length : Int) = st.cmd.bytes) : runF st b = ({ st with way := 2, held := b }, []) := by
  have hne : b ≠ [] := by intro h; rw [h] at hl; simp at hl; omega
  have hcut := List.dropLast_concat_getLast hne
  generalize b.getLast hne = c at hcut
  clear hne
  have hl1 : (b.dropLast.length : Int) = st.cmd.bytes - 1 := by rw [List.length_dropLast]; omega
  generalize b.dropLast = p at *
  subst hcut
  rw [runF_append, run_data p st hw (by rw [hh]; simp only [List.length_nil]; omega)]
  simp only
  have hs : stepF { st with held := st.held ++ p } c = ({ st with way := 2, held := p ++ [c] }, []) := by
    unfold stepF fullF
    rw [hw, if_neg (by decide), if_pos rfl, if_pos (by rw [hh]; simp only [List.nil_append, List.length_append, List.length_cons, List.length_nil]; omega)]
    rw [hh]; rfl
  rw [runF_cons, hs]; rfl

/-- At a line's begin, whatever else is held, the rest of the bytes tells what the document has of them. -/
def Tells (st : FSt) (b : List UInt8) : Prop := (runF st b).2 = (refEv b).1 ∧ leftF (runF st b).1 = (refEv b).2
theorem tells_nil {st : FSt} (hw : st.way = 0) (hh : st.held = []) : Tells st [] := by
  unfold Tells leftF
  rw [refEv_nil, runF_nil]
  refine ⟨rfl, ?_⟩
  simp only
  rw [hw, hh, if_neg (by decide)]; rfl
/-- A unit that is all there. -/
theorem tells_unit {st : FSt} {c : UInt8} {b q : List UInt8} {es : List Ev} {k m : Nat} {st' : FSt} {p : List UInt8} (hu : unitR (c :: b) = (es, some k, m)) (hb : c :: b = p ++ q) (hp : p.length = k + 1) (hr : runF st p = (st', es)) (h : Tells st' q) : Tells st (c :: b) := by
  have hd : b.drop k = q := by
    have h1 : (c :: b).drop (k + 1) = q := by rw [hb, ← hp, List.drop_left]
    rwa [List.drop_succ_cons] at h1
  unfold Tells
  rw [refEv_go hu, hd, hb, runF_append, hr]
  exact ⟨congrArg (es ++ ·) h.1, h.2⟩
/-- A unit that is not all there. -/
theorem tells_stop {st : FSt} {c : UInt8} {b : List UInt8} {es : List Ev} {m : Nat} {st' : FSt} (hu : unitR (c :: b) = (es, none, m)) (hr : runF st (c :: b) = (st', es)) (hl : leftF st' = m) : Tells st (c :: b) := by
  unfold Tells
  rw [refEv_stop hu, hr]
  exact ⟨rfl, hl⟩
/-- Units that end behind the end: nothing is left. -/
theorem tells_over {st : FSt} {c : UInt8} {b : List UInt8} {es : List Ev} {k m : Nat} {st' : FSt} (hu : unitR (c :: b) = (es, some k, m)) (hk : b.length ≤ k) (hr : runF st (c :: b) = (st', es)) (hl : leftF st' = 0) : Tells st (c :: b) := by
  unfold Tells
  rw [refEv_go hu, List.drop_eq_nil_of_le hk, refEv_nil, hr, List.append_nil]
  exact ⟨rfl, hl⟩
theorem left_held {st : FSt} (h : st.way ≠ 3) : leftF st = st.held.length := by unfold leftF; rw [if_neg h]
theorem step10 {st : FSt} (hw : st.way = 0) : stepF st 10 = lineF st (trimCr st.held) := by
  unfold stepF gatherF
  rw [if_pos hw, if_pos rfl]
theorem step2 {st : FSt} {c : UInt8} (hw : st.way = 2) (h : c ≠ 13) : stepF st c = chunkF st c := by
  unfold stepF
  rw [hw, if_neg (by decide), if_neg (by decide), if_pos rfl, if_neg h]
theorem step3 {st : FSt} {c : UInt8} (hw : st.way = 3) (h : c ≠ 10) : stepF st c = chunkF st c := by
  unfold stepF
  rw [hw, if_neg (by decide), if_neg (by decide), if_neg (by decide), if_pos rfl, if_neg h]
theorem run_one (st : FSt) (c : UInt8) : runF st [c] = ((stepF st c).1, (stepF st c).2) := by rw [runF_cons, runF_nil, List.append_nil]
theorem feed_tells : ∀ (n : Nat) (b : List UInt8), b.length ≤ n → ∀ st : FSt, st.way = 0 → st.held = [] → Tells st b
  | 0, b, hb, st, hw, hh => by
    obtain rfl : b = [] := List.eq_nil_of_length_eq_zero (by omega)
    exact tells_nil hw hh
  | n + 1, [], _, st, hw, hh => tells_nil hw hh
  | n + 1, c :: b, hb, st, hw, hh => by
    have ih := feed_tells n
    rcases line10_cut (c :: b) with ⟨h1, h2⟩ | ⟨p, q, hpq, hpl, hp⟩
    · by_cases hl : 2048 < (c :: b).length
      · have hu : unitR (c :: b) = ([toldE 3], some (c :: b).length, 0) := by unfold unitR; rw [h1, if_pos hl]
        exact tells_over hu (by simp) (run_long _ st hw h2 (by rw [hh]; simp) (by rw [hh]; simpa using hl)) rfl
      · have hu : unitR (c :: b) = ([], none, (c :: b).length) := by unfold unitR; rw [h1, if_neg hl, if_pos rfl]
        have hr := run_gather (c :: b) st hw h2 (by rw [hh]; simp only [List.length_nil]; omega)
        rw [hh, List.nil_append] at hr
        refine tells_stop hu hr ?_
        rw [left_held (by show st.way ≠ 3; rw [hw]; decide)]
    · have hlen : (c :: b).length = p.length + 1 + q.length := by rw [hpq]; simp; omega
      have hqn : q.length ≤ n := by omega
      have htk : (c :: b).take p.length = p := by rw [hpq]; simp
      have hdr : (c :: b).drop (p.length + 1) = q := by rw [hpq]; simp
      by_cases hl : 2048 < p.length
      · have hu : unitR (c :: b) = ([toldE 3], some p.length, 0) := by unfold unitR; rw [← hpl, if_pos hl]
        refine tells_unit (p := p ++ [10]) (q := q) (st' := beginF (beginF { st with held := [] } 4) 0) hu (by rw [hpq]; simp) (by simp) ?_ (ih q hqn _ rfl rfl)
        rw [runF_append, run_long p st hw hp (by rw [hh]; simp) (by rw [hh]; simpa using hl)]
        simp only
        rw [run_one]; rfl
      · have hr := run_gather p st hw hp (by rw [hh]; simp only [List.length_nil]; omega)
        rw [hh, List.nil_append] at hr
        have hst : stepF { st with held := p } 10 = lineF { st with held := p } (trimCr p) := step10 hw
        have hrun : runF st (p ++ [10]) = lineF { st with held := p } (trimCr p) := by rw [runF_append, hr]; simp only; rw [run_one, hst]; simp
        have hne : ¬ p.length = (c :: b).length := by omega
        have hrest : unitR (c :: b) = unitD p.length (parseL (trimCr p)) q := by
          unfold unitR
          rw [← hpl, if_neg hl, if_neg hne, htk, hdr]
        unfold lineF at hrun
        simp only at hrun
        generalize parseL (trimCr p) = r at *
        obtain ⟨d, t⟩ := r
        simp only at hrun hrest
        have hall : c :: b = (p ++ [10]) ++ q := by rw [hpq]; simp
        by_cases h5 : t = 5
        · subst h5
          rw [if_pos rfl] at hrun
          by_cases hq : q.length < d.bytes.toNat + 2
          · have hu := hrest.trans (unitD_large _ _ _)
            rw [if_pos hq] at hu
            refine tells_stop hu (st' := { beginF { st with held := p } 5 with many := d.bytes.toNat + 2 - q.length }) ?_ rfl
            rw [hall, runF_append, hrun]
            simp only
            rw [run_many q _ rfl rfl hq]; rfl
          · have hu := hrest.trans (unitD_large _ _ _)
            rw [if_neg hq] at hu
            have hq1 : (q.take (d.bytes.toNat + 2)).length = d.bytes.toNat + 2 := by rw [List.length_take]; omega
            refine tells_unit (p := (p ++ [10]) ++ q.take (d.bytes.toNat + 2)) (q := q.drop (d.bytes.toNat + 2)) (st' := beginF { beginF { st with held := p } 5 with many := 0 } 0) hu (by rw [hall, List.append_assoc, List.append_assoc, List.append_assoc, List.take_append_drop]) (by simp only [List.length_append, hq1, List.length_cons, List.length_nil]; omega) ?_ (ih _ (by rw [List.length_drop]; omega) _ rfl rfl)
            rw [runF_append, hrun]
            simp only
            rw [run_many_all _ _ rfl rfl (by show 0 < d.bytes.toNat + 2; omega) hq1]; rfl
        · rw [if_neg h5] at hrun
          by_cases h0 : t = 0
          · subst h0
            rw [if_pos rfl] at hrun
            by_cases hby : 0 ≤ d.bytes
            · rw [if_pos hby] at hrun
              have hu := hrest.trans (unitD_data _ _ (by omega))
              have hk : ((d.bytes.toNat : Nat) : Int) = d.bytes := by omega
              generalize hkk : d.bytes.toNat = k at *
              -- the data that is there
              have hdat : ∀ q1 : List UInt8, q1.length = k → runF st (p ++ [10] ++ q1) = ({ beginF { st with held := p } 2 with cmd := d, held := q1 }, []) := fun q1 h1 => by
                rw [runF_append, hrun]
                simp only
                by_cases h0 : k = 0
                · obtain rfl : q1 = [] := List.eq_nil_of_length_eq_zero (by omega)
                  unfold fullF
                  rw [if_pos (by show d.bytes ≤ (([] : List UInt8).length : Int); simp only [List.length_nil]; omega), runF_nil]; rfl
                · unfold fullF
                  rw [if_neg (by show ¬ d.bytes ≤ (([] : List UInt8).length : Int); simp only [List.length_nil]; omega)]
                  rw [run_data_all q1 _ rfl rfl (by show 0 < d.bytes; omega) (by show (q1.length : Int) = d.bytes; omega)]; rfl
              by_cases hqk : q.length < k
              · have hbad : badOf k q = k := by unfold badOf; rw [List.getElem?_eq_none (by omega)]; rfl
                unfold dataD at hu
                rw [hbad, if_pos (by omega)] at hu
                refine tells_stop hu (st' := { beginF { st with held := p } 1 with cmd := d, held := q }) ?_ ?_
                · rw [hall, runF_append, hrun]
                  simp only
                  unfold fullF
                  rw [if_neg (by show ¬ d.bytes ≤ (([] : List UInt8).length : Int); simp only [List.length_nil]; omega)]
                  rw [run_data q _ rfl (by show (([] : List UInt8).length + q.length : Int) < d.bytes; simp only [List.length_nil]; omega)]; rfl
                · rw [left_held (by show (1 : Nat) ≠ 3; decide)]
              · have hq1 : (q.take k).length = k := by rw [List.length_take]; omega
                have hqq := (List.take_append_drop k q).symm
                have hrd := hdat _ hq1
                generalize q.take k = q1 at *
                generalize q.drop k = q2 at *
                subst hqq
                rw [List.length_append] at hqn hqk hlen
                cases q2 with
                | nil =>
                  rw [List.append_nil] at *
                  have hbad : badOf k q1 = k := by unfold badOf; rw [List.getElem?_eq_none (by omega)]; rfl
                  unfold dataD at hu
                  rw [hbad, if_pos (by omega)] at hu
                  refine tells_stop hu (st' := _) (by rw [hall]; exact hrd) ?_
                  rw [left_held (by show (2 : Nat) ≠ 3; decide)]
                | cons x q3 =>
                  have hx : (q1 ++ x :: q3)[k]? = some x := by rw [List.getElem?_append_right (by omega), hq1, Nat.sub_self]; rfl
                  simp only [List.length_cons] at hqn hlen
                  by_cases h13 : x = 13
                  · subst h13
                    have hbad : badOf k (q1 ++ 13 :: q3) = k + 1 := by unfold badOf; rw [hx, if_pos rfl]
                    have hs13 : runF st (p ++ [10] ++ q1 ++ [13]) = ({ beginF { st with held := p } 3 with cmd := d, held := q1 }, []) := by
                      rw [runF_append, hrd]; simp only; rw [run_one]; rfl
                    unfold dataD at hu
                    rw [hbad] at hu
                    cases q3 with
                    | nil =>
                      rw [if_pos (by simp; omega)] at hu
                      refine tells_stop hu (st' := _) (by rw [hall, ← List.append_assoc]; exact hs13) ?_
                      show q1.length + 1 = _
                      simp
                    | cons y q4 =>
                      have hy : (q1 ++ 13 :: y :: q4)[k + 1]? = some y := by rw [List.getElem?_append_right (by omega), hq1, Nat.add_sub_cancel_left]; rfl
                      have htk1 : (q1 ++ 13 :: y :: q4).take k = q1 := by rw [← hq1, List.take_left]
                      have hdk1 : (q1 ++ 13 :: y :: q4).drop (k + 1) = y :: q4 := by rw [← hq1, List.drop_append]; simp
                      simp only [List.length_cons] at hqn hlen
                      rw [if_neg (by simp; omega), hy, htk1, hdk1] at hu
                      by_cases hy10 : y = 10
                      · subst hy10
                        rw [if_pos ⟨rfl, rfl⟩] at hu
                        refine tells_unit (p := p ++ [10] ++ q1 ++ [13] ++ [10]) (q := q4) (st' := beginF { beginF { st with held := p } 3 with cmd := d, held := q1 } 0) hu (by rw [hall]; simp) (by simp; omega) ?_ (ih q4 (by omega) _ rfl rfl)
                        rw [runF_append, hs13]; simp only; rw [run_one]; rfl
                      · rw [if_neg (by rintro ⟨_, h⟩; exact hy10 (by simpa using h))] at hu
                        have hs14 : runF st (p ++ [10] ++ q1 ++ [13] ++ [y]) = (beginF { beginF { st with held := p } 3 with cmd := d, held := q1 } 4, [toldE 6]) := by
                          rw [runF_append, hs13]; simp only; rw [run_one, step3 rfl hy10]
                          unfold chunkF
                          rw [if_neg hy10]; rfl
                        rcases line10_cut (y :: q4) with ⟨e1, e2⟩ | ⟨p5, q5, e1, e2, e3⟩
                        · rw [e1] at hu
                          refine tells_over hu (by simp only [List.length_cons] at *; omega) (st' := _) ?_ (show leftF (beginF { beginF { st with held := p } 3 with cmd := d, held := q1 } 4) = 0 from rfl)
                          rw [hall, show p ++ [10] ++ (q1 ++ 13 :: y :: q4) = (p ++ [10] ++ q1 ++ [13] ++ [y]) ++ q4 from by simp, runF_append, hs14]
                          simp only
                          rw [run_swallow q4 _ rfl (fun z hz => e2 z (by simp [hz]))]; rfl
                        · cases p5 with
                          | nil => exact absurd (List.cons.inj e1).1 hy10
                          | cons z p5 =>
                            simp only [List.cons_append, List.cons.injEq] at e1
                            obtain ⟨rfl, rfl⟩ := e1
                            rw [← e2] at hu
                            simp only [List.length_cons, List.length_append] at *
                            refine tells_unit (p := p ++ [10] ++ q1 ++ [13] ++ [y] ++ p5 ++ [10]) (q := q5) (st' := beginF (beginF { beginF { st with held := p } 3 with cmd := d, held := q1 } 4) 0) hu (by rw [hall]; simp) (by simp; omega) ?_ (ih q5 (by omega) _ rfl rfl)
                            rw [runF_append, runF_append, hs14]
                            simp only
                            rw [run_swallow p5 _ rfl (fun w hw => e3 w (by simp [hw]))]
                            simp only
                            rw [run_one]; rfl
                  · have hbad : badOf k (q1 ++ x :: q3) = k := by unfold badOf; rw [hx, if_neg (by simpa using h13)]
                    have hdk1 : (q1 ++ x :: q3).drop k = x :: q3 := by rw [← hq1, List.drop_left]
                    unfold dataD at hu
                    rw [hbad, if_neg (by simp; omega), if_neg (by rintro ⟨h, _⟩; omega), hdk1] at hu
                    have hs14 : runF st (p ++ [10] ++ q1 ++ [x]) = (if x = 10 then beginF { beginF { st with held := p } 2 with cmd := d, held := q1 } 0 else beginF { beginF { st with held := p } 2 with cmd := d, held := q1 } 4, [toldE 6]) := by
                      rw [runF_append, hrd]; simp only; rw [run_one, step2 rfl h13]
                      rfl
                    rcases line10_cut (x :: q3) with ⟨e1, e2⟩ | ⟨p5, q5, e1, e2, e3⟩
                    · have hx10 : x ≠ 10 := e2 x (by simp)
                      rw [if_neg hx10] at hs14
                      rw [e1] at hu
                      refine tells_over hu (by simp only [List.length_cons] at *; omega) (st' := _) ?_ (show leftF (beginF { beginF { st with held := p } 2 with cmd := d, held := q1 } 4) = 0 from rfl)
                      rw [hall, show p ++ [10] ++ (q1 ++ x :: q3) = (p ++ [10] ++ q1 ++ [x]) ++ q3 from by simp, runF_append, hs14]
                      simp only
                      rw [run_swallow q3 _ rfl (fun z hz => e2 z (by simp [hz]))]; rfl
                    · rw [← e2] at hu
                      cases p5 with
                      | nil =>
                        obtain ⟨rfl, rfl⟩ := List.cons.inj e1
                        rw [if_pos rfl] at hs14
                        exact tells_unit (p := p ++ [10] ++ q1 ++ [10]) (q := q3) hu (by rw [hall]; simp) (by simp; omega) hs14 (ih q3 (by omega) _ rfl rfl)
                      | cons z p5 =>
                        simp only [List.cons_append, List.cons.injEq] at e1
                        obtain ⟨rfl, rfl⟩ := e1
                        have hx10 : x ≠ 10 := e3 x (by simp)
                        rw [if_neg hx10] at hs14
                        simp only [List.length_cons, List.length_append] at *
                        refine tells_unit (p := p ++ [10] ++ q1 ++ [x] ++ p5 ++ [10]) (q := q5) (st' := beginF (beginF { beginF { st with held := p } 2 with cmd := d, held := q1 } 4) 0) hu (by rw [hall]; simp) (by simp; omega) ?_ (ih q5 (by omega) _ rfl rfl)
                        rw [runF_append, runF_append, hs14]
                        simp only
                        rw [run_swallow p5 _ rfl (fun w hw => e3 w (by simp [hw]))]
                        simp only
                        rw [run_one]; rfl
            · rw [if_neg hby] at hrun
              have hu := hrest.trans (unitD_plain _ _ (by omega))
              exact tells_unit (p := p ++ [10]) (q := q) hu hall (by simp) hrun (ih q hqn _ rfl rfl)
          · rw [if_neg h0] at hrun
            have hu := hrest.trans (unitD_told _ _ _ h5 h0)
            exact tells_unit (p := p ++ [10]) (q := q) hu hall (by simp) hrun (ih q hqn _ rfl rfl)
/-- All bytes that came: the events, how many are held. -/
theorem feed_all (b : List UInt8) : (runF fNew b).2 = (refEv b).1 ∧ leftF (runF fNew b).1 = (refEv b).2 := feed_tells b.length b (Nat.le_refl _) fNew rfl rfl
/-- More bytes tell more events. -/
theorem feed_more (a b : List UInt8) : (refEv (a ++ b)).1 = (refEv a).1 ++ (runF (runF fNew a).1 b).2 ∧ (refEv (a ++ b)).2 = leftF (runF (runF fNew a).1 b).1 := by
  have h := feed_all (a ++ b)
  rw [runF_append] at h
  rw [← h.1, ← h.2, (feed_all a).1]
  exact ⟨rfl, rfl⟩
end Go.Proofs.YtahpjhnbjkjkiaaGreatDoor
