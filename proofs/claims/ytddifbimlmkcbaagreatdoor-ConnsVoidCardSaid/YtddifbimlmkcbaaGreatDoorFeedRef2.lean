/- The reference's Events of bytes. Condition: bytes of less than 2^20. -/
import Derived.Test.YtddifbimlmkcbaaGreatDoorFeedRef
import Derived.Test.YtddifbimlmkcbaaGreatDoorLowH
import Derived.Test.YtddifbimlmkcbaaGreatDoorLowB
import Derived.Maps.AppendAt
namespace Go.Proofs.YtddifbimlmkcbaaGreatDoor
open Go.RowKit Go.ChangeMaps Go.MapKept

theorem refEv_at {R : List UInt8} {es : List Ev} {j m : Nat} (hne : R ≠ []) (h : unitR R = (es, some j, m)) : refEv R = (es ++ (refEv (R.drop (j + 1))).1, (refEv (R.drop (j + 1))).2) := by
  cases R with
  | nil => exact absurd rfl hne
  | cons c b => exact refEv_go h
theorem refEv_end {R : List UInt8} {es : List Ev} {m : Nat} (hne : R ≠ []) (h : unitR R = (es, none, m)) : refEv R = (es, m) := by
  cases R with
  | nil => exact absurd rfl hne
  | cons c b => exact refEv_stop h
abbrev rEvCells (ks : Value) (e : Ev) : List Value := cmdCells ks e.cmd ++ [sv e.data, .int .i64 (e.told : Int)]
abbrev rEvV (ks : Value) (e : Ev) : Value := .agg (rEvCells ks e).toArray
def rEvsCells (L : List (Value × Ev)) : List Value := L.flatMap (fun x => rEvCells x.1 x.2)
theorem rEvsCells_snoc (L : List (Value × Ev)) (x : Value × Ev) : rEvsCells (L ++ [x]) = rEvsCells L ++ rEvCells x.1 x.2 := by simp [rEvsCells]
abbrev rEvZero : Array Value := #[.int .u8 0, .slice none 0 0, .int .u8 0, .string ⟨#[]⟩, .string ⟨#[]⟩, .int .u32 0, .int .i64 0, .int .u64 0, .int .u64 0, .int .i64 0, .bool false, .string ⟨#[]⟩, .int .i64 0]
theorem infoREv : (Tryz.prog.info? 63).map (fun i => (i.zero, i.size, i.bytes)) = some (some (.agg rEvZero), 13, 144) := by kernel_rfl
/-- The document's events so far: in a row of their own, nothing that was is other. -/
structure RJ (w : World) (v : Value) (L : List (Value × Ev)) (W : World) : Prop where
  row : W.ownsRow w.heap.size 63 13 v L.length (rEvsCells L)
  keys : ∀ x ∈ L, KeysAt W x.1 x.2.cmd.keys
  low : Below w.heap.size w W
theorem RJ.below {w : World} {v : Value} {L : List (Value × Ev)} {W W' : World} (h : RJ w v L W) (hb : Below W.heap.size W W') : RJ w v L W' :=
  ⟨owns_grow h.row (Chg.of_below (M := fun _ => False) hb) (fun _ _ e => e), fun x hx => (h.keys x hx).below hb, h.low.trans (hb.mono h.low.size)⟩
theorem RJ.push {w : World} {v : Value} {L : List (Value × Ev)} {W w1 : World} (h : RJ w v L W) {v' ke : Value} {ev : Ev} {o : Obj} (hk : KeysAt W ke ev.cmd.keys)
    (hown : w1.ownsRow w.heap.size 63 13 v' (L.length + 1) (rEvsCells L ++ rEvCells ke ev)) (hgr : (W.alloc o).grownBy w1 v.ownBlock) : RJ w v' (L ++ [(ke, ev)]) w1 := by
  have hc1 : Chg (fun k => v.ownBlock = some k) W w1 := ((Chg.refl _ _).alloc o).then (M' := fun k => v.ownBlock = some k) (Chg.of_grown hgr (fun _ _ e => e)) (fun _ _ e => e)
  have hno : ∀ g, v.ownBlock = some g → ¬ Tag W g 9 := fun g hg e => absurd ((owns_tag h.row hg).one e) (by decide)
  refine ⟨by rw [List.length_append, rEvsCells_snoc]; exact hown, fun x hx => ?_, h.low.trans (hc1.below (fun k hk => ⟨Nat.lt_of_lt_of_le hk h.low.size, fun e => by have := (h.row.lt k e).1; omega⟩))⟩
  rcases List.mem_append.1 hx with hx | hx
  · exact (h.keys x hx).kept hc1 (fun g hg e => hno g e ((h.keys x hx).tag hg))
  · obtain rfl : x = (ke, ev) := by simpa using hx
    exact hk.kept hc1 (fun g hg e => hno g e (hk.tag hg))
theorem RJ.other {w : World} {v : Value} {L : List (Value × Ev)} {W w1 : World} (h : RJ w v L W) {o : Obj} (hgr : (W.alloc o).grownBy w1 v.ownBlock) {q : Nat} {cs : Array Value} {e : TypeId} (hq : W.heap[q]? = some (.cells cs e (0, 0))) (he : e ≠ 63) : w1.heap[q]? = some (.cells cs e (0, 0)) :=
  (((Chg.refl _ _).alloc o).then (M' := fun k => v.ownBlock = some k) (Chg.of_grown hgr (fun _ _ e => e)) (fun _ _ e => e) : Chg (fun k => v.ownBlock = some k) W w1).obj hq (fun e' => he ((Tag.of hq).one (owns_tag h.row e')))
theorem keys_of {w : World} {B : Nat} {ks : Value} {L : List (List UInt8)} (h : OwnT w B 9 ks (L.map sv)) : KeysAt w ks L := by
  obtain ⟨⟨a, c, rfl, q1, q2, q3, q4⟩, q5⟩ := h
  refine ⟨by simp, a, c, by simp, by simpa using q1, q2, q3, fun g hg => (q5 g hg).2, q4.imp id ?_⟩
  rintro ⟨g, o, rfl, _, h6⟩
  exact ⟨g, o, rfl, h6⟩
/-- What Events answers: the events in a row, how many bytes are held. -/
def EventsOk (bl : List UInt8) (w : World) (e : Ending) (w' : World) : Prop :=
  ∃ v L, e = .returned (.tuple #[v, .int .i64 ((refEv bl).2 : Int)]) ∧ L.map (·.2) = (refEv bl).1 ∧ RJ w v L w'
theorem few_evsR (bl : List UInt8) : (refEv bl).1.length ≤ bl.length := by
  rw [← (feed_all bl).1]
  exact run_few bl fNew
theorem evs_step {A es T : List Ev} {R R' : List UInt8} {m : Nat} (h : refEv R = (es ++ (refEv R').1, (refEv R').2)) (hev : A ++ (refEv R).1 = T) (hl : (refEv R).2 = m) : (A ++ es) ++ (refEv R').1 = T ∧ (refEv R').2 = m := by
  rw [h] at hev hl
  exact ⟨by rw [List.append_assoc]; exact hev, hl⟩
theorem evs_stop {A es T : List Ev} {R : List UInt8} {m j : Nat} (h : refEv R = (es, j)) (hev : A ++ (refEv R).1 = T) (hl : (refEv R).2 = m) : A ++ es = T ∧ j = m := by
  rw [h] at hev hl
  exact ⟨hev, hl⟩
theorem push_map (L : List (Value × Ev)) (ke : Value) (ev : Ev) : (L ++ [(ke, ev)]).map (·.2) = L.map (·.2) ++ [ev] := by simp

theorem own_at_draw {w : World} {B n sz : Nat} {e : TypeId} {v : Value} {xs : List Value} (h : w.ownsRow B e sz v n xs) (o : Obj) : ((w.alloc o).drew).ownsRow B e sz v n xs := h.alloc o
theorem heap_at_draw (w : World) (o : Obj) : ((w.alloc o).drew).heap[w.heap.size]? = some o := heap_alloc_new w o
theorem bytes_from (g o n c M : Nat) (h : M ≤ n) (hc : n ≤ c) (hm : c ≤ maxLen) : ∃ o', (∀ W : World, (Instr.slice 22 (.slice (some ⟨g, o, none⟩) n c) (some (.int .i64 (M : Int))) none none).run Tryz.prog W = .ok (.slice (some ⟨g, o', none⟩) (n - M) (c - M)) W) ∧ (M < n → o' = o + M) := by
  have h2 := Tryz.underlying22
  unfold maxLen at hm
  have i1 : (0 : Int) ≤ (M : Int) := by omega
  have i2 : (M : Int) ≤ (n : Int) := by omega
  have i3 : (n : Int) ≤ (c : Int) := by omega
  by_cases hMc : M = c
  · subst hMc
    obtain rfl : M = n := by omega
    refine ⟨o, fun W => ?_, fun h => by omega⟩
    go_simp
  · refine ⟨o + M, fun W => ?_, fun _ => rfl⟩
    have i4 : ¬ (M = c) := hMc
    go_simp
    intro h5; omega

set_option maxRecDepth 100000 in
set_option maxHeartbeats 8000000 in
theorem events_any {w : World} {bv : Value} {bl : List UInt8} (h : BRow w bv bl) (hl : bl.length < 1048576) :
    Calls Tryz.prog 51 #[bv] w (EventsOk bl w) := by
  obtain ⟨i0, hi, hz0, hz1, hz2⟩ := info_parts infoREv
  obtain ⟨ba, bc, rfl⟩ := h.len
  obtain ⟨n, hn⟩ : ∃ n, n = bl.length := ⟨_, rfl⟩
  have hfew := few_evsR bl
  have HB := Lib.hid h
  have Hi := Lib.hid hi
  have Hz := Lib.hid (And.intro hz0 (And.intro hz1 hz2))
  clear h hi hz0 hz1 hz2
  rw [← hn] at hl hfew ⊢
  have HN := Lib.hid hn
  clear hn
  go_enter Tryz.func51, Tryz.ntmps51
  go_wp2_with fail
  go_loopw [4, 5] (fun s4 s5 wr => ∃ (k : Nat) (va : Option Addr) (vc : Nat) (L : List (Value × Ev)), s5 = .int .i64 (k : Int) ∧ s4 = .slice va L.length vc ∧ k ≤ n + 1 ∧ RJ w (.slice va L.length vc) L wr ∧ L.map (·.2) ++ (refEv (bl.drop k)).1 = (refEv bl).1 ∧ (refEv (bl.drop k)).2 = (refEv bl).2) (fun _ s5 _ => n + 1 - (intOf s5).toNat)
  case atStart => exact ⟨0, none, 0, [], rfl, rfl, by omega, ⟨World.ownsRow_nil _ _ _ _, (fun x hx => by cases hx), Below.refl _ _⟩, rfl, rfl⟩
  case round =>
    obtain ⟨k, va, vc, L, rfl, rfl, hk, hR, hev, hleft⟩ := hrel
    have hLn : L.length ≤ n := by
      have := congrArg List.length hev
      rw [List.length_append, List.length_map] at this
      omega
    have HR := Lib.hid hR
    clear hR
    by_cases hlt : k < n
    · have hbw : BRow wr (.slice ba n bc) bl := by rw [HN.out]; exact HB.out.below HR.out.low
      have hline := refLine30_any hbw (k := k) (by rw [← HN.out]; omega) (by rw [← HN.out]; exact hl)
      have hle := line10_le (bl.drop k)
      rw [List.length_drop, ← HN.out] at hle
      rw [← HN.out] at hline
      have hne : bl.drop k ≠ [] := fun e => by have := congrArg List.length e; rw [List.length_drop, ← HN.out] at this; simp at this; omega
      have hun : unitR (bl.drop k) = (if 2048 < line10 (bl.drop k) then ([toldE 3], some (line10 (bl.drop k)), 0) else if line10 (bl.drop k) = (bl.drop k).length then ([], none, (bl.drop k).length) else unitD (line10 (bl.drop k)) (parseL (trimCr ((bl.drop k).take (line10 (bl.drop k))))) ((bl.drop k).drop (line10 (bl.drop k) + 1))) := rfl
      have hgo := fun es j m => refEv_at (es := es) (j := j) (m := m) hne
      have hend := fun es m => refEv_end (es := es) (m := m) hne
      have hpar := fun (hh : k + line10 (bl.drop k) < n) (E : Nat) (hE : E = k + line10 (bl.drop k) + 1) => refParsed_any hbw hE (by rw [← HN.out]; exact hh) (by rw [← HN.out]; exact hl)
      generalize line10 (bl.drop k) = M at *
      rw [List.length_drop, ← HN.out] at hun
      simp only [List.drop_drop] at hun hgo
      have HUN := Lib.hid hun
      have HGO := Lib.hid hgo
      have HEND := Lib.hid hend
      have HEV := Lib.hid hev
      have HLEFT := Lib.hid hleft
      have HLINE := Lib.hid hline
      have HPAR := Lib.hid hpar
      have HBW := Lib.hid hbw
      obtain ⟨E, hE⟩ : ∃ E, E = k + M + 1 := ⟨_, rfl⟩
      clear hun hgo hend hev hleft hline hpar hne hbw
      go_upto_region 5 with fail
      refine HLINE.out.mono ?_
      rintro e w' ⟨rfl, rfl⟩
      rw [← hE]
      clear HLINE
      by_cases hlong : 2048 < M
      · rw [decide_eq_true hlong, Bool.true_or]
        have hspec := HGO.out [toldE 3] M 0 (by rw [HUN.out, if_pos hlong])
        have HS := Lib.hid hspec
        clear hlong HPAR HUN HGO HEND
        go_wp2_with (first | (at_builtin; refine wpList_append_own _ (by rfl) _ _ 60 (by rfl) w.heap.size 63 i0 (.agg rEvZero) 13 144 Tryz.underlying60 Hi.out Hz.out.1 Hz.out.2.1 Hz.out.2.2 rfl (by omega) (.slice va L.length vc) L.length (rEvsCells L) (by rfl) (HR.out.row.alloc _) ⟨wr.heap.size, 0, none⟩ 1 1 (rEvCells (.slice none 0 0) (toldE 3)) (by rfl) (by rfl) (World.news_of_block (cs := (rEvCells (.slice none 0 0) (toldE 3)).toArray) (heap_alloc_new _ _)) (by simp [Value.oneCell']) (by unfold maxLen; omega) (by omega) (by have := HR.out.low.size; simp; omega) ?_; intro v9 w9 hown9 hg9 _; obtain ⟨g9, c9, rfl⟩ := ownsRow_succ hown9) | fail)
        have hr9 := HR.out.push (Row.nil _ _ _) hown9 hg9
        obtain ⟨q1, q2⟩ := evs_step (R' := bl.drop (E)) (by rw [hE]; exact HS.out) HEV.out HLEFT.out
        go_roundw
        case rel => exact ⟨E, _, c9, L ++ [((.slice none 0 0), toldE 3)], by go_num, by rw [List.length_append]; rfl, by omega, (by rw [List.length_append]; exact hr9), by rw [push_map]; exact q1, q2⟩
        case measure => simp [intOf]; omega
      · rw [decide_eq_false hlong, Bool.false_or]
        by_cases hin : k + M < n
        · rw [decide_eq_true hin]
          have hpar := HPAR.out hin E hE
          have hunD := HUN.out
          rw [if_neg hlong, if_neg (by omega)] at hunD
          have hpb := parse_bytes (trimCr ((bl.drop k).take M))
          have HPAR2 := Lib.hid hpar
          have HUND := Lib.hid hunD
          have HPB := Lib.hid hpb
          have hEn : E ≤ n := by omega
          have hkE : k < E := by omega
          have HE := Lib.hid hE
          clear hpar hunD hpb HPAR HUN hlong hE hin
          go_wp2_with fail
          refine HPAR2.out.mono ?_
          rintro e w2 ⟨ks, rfl, ho, hb2⟩
          generalize parseL (trimCr ((bl.drop k).take M)) = r at *
          obtain ⟨d, T⟩ := r
          simp only at ho
          have hk2 : KeysAt w2 ks d.keys := keys_of ho
          obtain ⟨ka, kc, rfl⟩ := hk2.len
          have hb6 : (w2.alloc (.cells zeroA 61)).heap[w2.heap.size]? = some (.cells zeroA 61 (0, 0)) := heap_alloc_new _ _
          have hr2 := HR.out.below hb2
          have hbw2 := HBW.out.below hb2
          have HR2 := Lib.hid hr2
          have HK2 := Lib.hid hk2
          have HBW2 := Lib.hid hbw2
          have HK0 := Lib.hid hk2.max
          clear hr2 hk2 hbw2 ho hb2 HR HBW HPAR2
          go_upto_region 11 with (first
            | ((with_reducible show wpList _ _ _ (⟨none, Op.store _ _ _, _, _, _, _⟩ :: _) _ _); refine wpList_store_whole (by rfl) 61 (.tmp 9) (.tmp 42) (by rfl) w2.heap.size (by rfl) (cmdCells (.slice ka d.keys.length kc) d).toArray (by rfl) _ 61 hb6 (by rfl) (by kernel_rfl) (by simp [Value.oneCell']) ?_; intro w3 hx3 hg3 hs3)
            | fail)
          have hcw : Chg (fun _ => False) w2 w3 := ((Chg.refl _ _).alloc _).then (M' := fun k => k = w2.heap.size) (Chg.of_grown hg3 (fun _ _ e => (Option.some.inj e).symm)) (fun i hi e => by omega)
          have hb3 : Below w2.heap.size w2 w3 := hcw.below (fun k hk => ⟨hk, fun e => e⟩)
          have hr3 := HR2.out.below hb3
          have hk3 := HK2.out.below hb3
          have hbw3 := HBW2.out.below hb3
          have HR := Lib.hid hr3
          have HK := Lib.hid hk3
          have HBW := Lib.hid hbw3
          have HX := Lib.hid hx3
          clear hcw hb3 hr3 hk3 hbw3 hx3 hg3 hs3 hb6 HR2 HK2 HBW2
          have hcb : w3.cell? ⟨w2.heap.size, 9, none⟩ = some (.int .i64 d.bytes) := (block_cell HX.out 9).1
          have hql : (bl.drop (k + (M + 1))).length = n - E := by rw [List.length_drop, ← HN.out]; have := HE.out; omega
          have HQL := Lib.hid hql
          clear hql
          by_cases hT5 : T = 5
          · have hpb := HPB.out
            have hb0 : d.bytes ≤ 2147483647 := hpb.1
            have hb1 : 1024 < d.bytes := hpb.2 hT5
            obtain ⟨m, hm⟩ : ∃ m : Nat, d.bytes = (m : Int) := ⟨d.bytes.toNat, by omega⟩
            have hm1 : (m : Int) ≤ 2147483647 := by omega
            rw [hm] at hcb
            have HM := Lib.hid hm
            have e5 : ((T : Int) == 5) = true := by rw [hT5]; rfl
            have hun : unitR (bl.drop k) = if n - E < m + 2 then ([toldE 5], none, 0) else ([toldE 5], some (M + (m + 2)), 0) := by
              rw [HUND.out, hT5, unitD_large, HQL.out, hm]
              rfl
            by_cases hbig : n - E < m + 2
            · have ht : decide ((n : Int) - (E : Int) < (m : Int) + 2) = true := by rw [decide_eq_true_eq]; omega
              obtain ⟨q1, q2⟩ := evs_stop (HEND.out [toldE 5] 0 (by rw [hun, if_pos hbig])) HEV.out HLEFT.out
              have Q1 := Lib.hid q1
              have Q2 := Lib.hid q2
              clear hpb hb0 hb1 hm hun hbig hT5 q1 q2 HUND HGO HEND HEV HLEFT HE HPB
              go_wp2_with (first | (at_builtin; refine wpList_append_own _ (by rfl) _ _ 60 (by rfl) w.heap.size 63 i0 (.agg rEvZero) 13 144 Tryz.underlying60 Hi.out Hz.out.1 Hz.out.2.1 Hz.out.2.2 rfl (by omega) (.slice va L.length vc) L.length (rEvsCells L) (by rfl) (HR.out.row.alloc _) ⟨w3.heap.size, 0, none⟩ 1 1 (rEvCells (.slice none 0 0) (toldE 5)) (by rfl) (by rfl) (World.news_of_block (cs := (rEvCells (.slice none 0 0) (toldE 5)).toArray) (heap_alloc_new _ _)) (by simp [Value.oneCell']) (by unfold maxLen; omega) (by omega) (by have := HR.out.low.size; simp; omega) ?_; intro v9 w9 hown9 hg9 _; obtain ⟨g9, c9, rfl⟩ := ownsRow_succ hown9; have hcb9 : w9.cell? ⟨w2.heap.size, 9, none⟩ = some (.int .i64 (m : Int)) := (by rw [← HM.out]; exact (block_cell (HR.out.other hg9 HX.out (by decide)) 9).1)) | fail)
              have hr9 := HR.out.push (Row.nil _ _ _) hown9 hg9
              exact bodyPost_ret (v := .tuple #[.slice (some ⟨g9, 0, none⟩) (L.length + 1) c9, .int .i64 0]) (by simp [results, Tryz.results51, go_sem]) rfl ⟨_, L ++ [(.slice none 0 0, toldE 5)], ret_congr (by rw [← Q2.out]; rfl), by rw [push_map]; exact Q1.out, hr9⟩
            · have ht : decide ((n : Int) - (E : Int) < (m : Int) + 2) = false := by rw [decide_eq_false_iff_not]; omega
              have hspec := HGO.out [toldE 5] (M + (m + 2)) 0 (by rw [hun, if_neg hbig])
              rw [show k + (M + (m + 2) + 1) = E + m + 2 from by have := HE.out; omega] at hspec
              have HS := Lib.hid hspec
              have hle : E + m + 2 ≤ n := by omega
              clear hpb hb0 hb1 hm hun hbig hT5 hspec HUND HGO HEND HE HPB
              go_wp2_with (first | (at_builtin; refine wpList_append_own _ (by rfl) _ _ 60 (by rfl) w.heap.size 63 i0 (.agg rEvZero) 13 144 Tryz.underlying60 Hi.out Hz.out.1 Hz.out.2.1 Hz.out.2.2 rfl (by omega) (.slice va L.length vc) L.length (rEvsCells L) (by rfl) (HR.out.row.alloc _) ⟨w3.heap.size, 0, none⟩ 1 1 (rEvCells (.slice none 0 0) (toldE 5)) (by rfl) (by rfl) (World.news_of_block (cs := (rEvCells (.slice none 0 0) (toldE 5)).toArray) (heap_alloc_new _ _)) (by simp [Value.oneCell']) (by unfold maxLen; omega) (by omega) (by have := HR.out.low.size; simp; omega) ?_; intro v9 w9 hown9 hg9 _; obtain ⟨g9, c9, rfl⟩ := ownsRow_succ hown9; have hcb9 : w9.cell? ⟨w2.heap.size, 9, none⟩ = some (.int .i64 (m : Int)) := (by rw [← HM.out]; exact (block_cell (HR.out.other hg9 HX.out (by decide)) 9).1)) | fail)
              have hr9 := HR.out.push (Row.nil _ _ _) hown9 hg9
              obtain ⟨q1, q2⟩ := evs_step (R' := bl.drop (E + m + 2)) HS.out HEV.out HLEFT.out
              go_roundw
              case rel => exact ⟨E + m + 2, _, c9, L ++ [((.slice none 0 0), toldE 5)], by go_num, by rw [List.length_append]; rfl, by omega, (by rw [List.length_append]; exact hr9), by rw [push_map]; exact q1, q2⟩
              case measure => simp [intOf]; omega
          · have e5 : ((T : Int) == 5) = false := by rw [beq_eq_false_iff_ne]; omega
            by_cases hT0 : T = 0
            · have e0 : ((T : Int) != 0) = false := by rw [hT0]; rfl
              by_cases hneg : d.bytes < 0
              · have eb : decide (d.bytes < 0) = true := by rw [decide_eq_true_eq]; exact hneg
                have hspec := HGO.out [⟨d, [], 0⟩] M 0 (by rw [HUND.out, hT0, unitD_plain _ _ hneg])
                rw [show k + (M + 1) = E from by have := HE.out; omega] at hspec
                have HS := Lib.hid hspec
                have hx3 := HX.out
                clear hspec hneg hT0 hT5 HUND HGO HEND HE HPB
                go_wp2_with (first
                  | ((with_reducible show wpList _ _ _ (⟨_, Op.load _ (.tmp 9), _, _, _, _⟩ :: _) _ _); refine wpList_load_row (by rfl) 61 (.tmp 9) (by rfl) w2.heap.size (by rfl) 61 _ _ _ hx3 Tryz.underlying61 rfl (by kernel_rfl) ?_)
                  | (at_builtin; refine wpList_append_own _ (by rfl) _ _ 60 (by rfl) w.heap.size 63 i0 (.agg rEvZero) 13 144 Tryz.underlying60 Hi.out Hz.out.1 Hz.out.2.1 Hz.out.2.2 rfl (by omega) (.slice va L.length vc) L.length (rEvsCells L) (by rfl) (HR.out.row.alloc _) ⟨w3.heap.size, 0, none⟩ 1 1 (rEvCells (.slice ka d.keys.length kc) ⟨d, [], 0⟩) (by rfl) (by rfl) (World.news_of_block (cs := (rEvCells (.slice ka d.keys.length kc) ⟨d, [], 0⟩).toArray) (heap_alloc_new _ _)) (by simp [Value.oneCell']) (by unfold maxLen; omega) (by omega) (by have := HR.out.low.size; simp; omega) ?_; intro v9 w9 hown9 hg9 _; obtain ⟨g9, c9, rfl⟩ := ownsRow_succ hown9)
                  | fail)
                have hr9 := HR.out.push HK.out hown9 hg9
                obtain ⟨q1, q2⟩ := evs_step (R' := bl.drop (E)) HS.out HEV.out HLEFT.out
                go_roundw
                case rel => exact ⟨E, _, c9, L ++ [(.slice ka d.keys.length kc, ⟨d, [], 0⟩)], by go_num, by rw [List.length_append]; rfl, by omega, (by rw [List.length_append]; exact hr9), by rw [push_map]; exact q1, q2⟩
                case measure => simp [intOf]; omega
              · have eb : decide (d.bytes < 0) = false := by rw [decide_eq_false_iff_not]; exact hneg
                obtain ⟨m, hm⟩ : ∃ m : Nat, d.bytes = (m : Int) := ⟨d.bytes.toNat, by omega⟩
                have hm1 : (m : Int) ≤ 2147483647 := by have : d.bytes ≤ 2147483647 := HPB.out.1; omega
                have hm0 : (0 : Int) ≤ (m : Int) := by omega
                rw [hm] at hcb eb
                have HM := Lib.hid hm
                have hun : unitR (bl.drop k) = dataD M d m (bl.drop (k + (M + 1))) := by
                  rw [HUND.out, hT0, unitD_data _ _ hneg, hm]
                  rfl
                rw [show k + (M + 1) = E from by have := HE.out; omega] at hun HQL
                obtain ⟨g, o, c, hba, hgl, hnc, hcm, hcell⟩ := HBW.out.get (by intro e; have := congrArg List.length e; rw [List.length_nil, ← HN.out] at this; omega)
                obtain ⟨rfl, -, rfl⟩ := slice_inj hba
                have hbyte : ∀ j x, bl[j]? = some x → w3.cell? ⟨g, o + j, none⟩ = some (u8v x) := hcell
                obtain ⟨o', hfrom, ho'⟩ := bytes_from g o n bc E hEn (by rw [HN.out]; exact hnc) hcm
                have HBYTE := Lib.hid hbyte
                have hnc' : n ≤ bc := by rw [HN.out]; exact hnc
                have hRle : n - E + E ≤ n := by omega
                have hRge : n ≤ n - E + E := by omega
                have hRc : n - E ≤ bc - E := by omega
                have hRz : E < n ∨ n - E = 0 := by omega
                generalize n - E = R at *
                clear hneg hT0 hT5 hm hbyte hcell hba hnc hcm hgl HUND HPB
                by_cases hshort : R ≤ m
                · have hun : unitR (bl.drop k) = ([], none, R) := by
                    rw [hun, dataD_short (by rw [HQL.out]; exact hshort), HQL.out]
                  have t1 : decide ((m : Int) < (R : Int)) = false := by rw [decide_eq_false_iff_not]; omega
                  have t1' : decide (m < R) = false := by rw [decide_eq_false_iff_not]; omega
                  have t2 : decide ((R : Int) ≤ (m : Int)) = true := by rw [decide_eq_true_eq]; omega
                  have t2' : decide (R ≤ m) = true := by rw [decide_eq_true_eq]; omega
                  clear hshort
                  obtain ⟨q1, q2⟩ := evs_stop (HEND.out [] R hun) HEV.out HLEFT.out
                  rw [List.append_nil] at q1
                  have Q1 := Lib.hid q1
                  have Q2 := Lib.hid q2
                  clear q1 q2 hun HEV HLEFT HGO HEND
                  go_wp2_with fail
                  exact bodyPost_ret (v := .tuple #[.slice va L.length vc, .int .i64 (R : Int)]) (by simp [results, Tryz.results51, go_sem]) rfl ⟨_, L, ret_congr (by rw [← Q2.out]), Q1.out, HR.out⟩
                · obtain ⟨x, hx⟩ : ∃ x, (bl.drop E)[m]? = some x := ⟨_, List.getElem?_eq_getElem (by rw [HQL.out]; omega)⟩
                  have hxb : bl[E + m]? = some x := by rw [List.getElem?_drop] at hx; exact hx
                  obtain rfl := ho' (by omega)
                  have hcx := HBYTE.out _ _ hxb
                  rw [show o + (E + m) = o + E + m from by omega] at hcx
                  have hix : ∀ W : World, (Instr.indexAt 22 (.slice (some ⟨g, o + E, none⟩) (R) (bc - E)) (.int .i64 (m : Int))).run Tryz.prog W = .ok (.pointer (some ⟨g, o + E + m, none⟩)) W := fun W => idx_byte rfl (by omega) W
                  have t1 : decide ((m : Int) < (R : Int)) = true := by rw [decide_eq_true_eq]; omega
                  have t1' : decide (m < R) = true := by rw [decide_eq_true_eq]; omega
                  by_cases h13 : x = 13
                  · have e13 : ((x.toNat : Int) == 13) = true := by rw [h13]; rfl
                    by_cases hend2 : R ≤ m + 1
                    · have hun : unitR (bl.drop k) = ([], none, R) := by
                        rw [hun, dataD_cr_short (by rw [hx, h13]) (by rw [HQL.out]; exact hend2), HQL.out]
                      have t2 : decide ((R : Int) ≤ (m : Int) + 1) = true := by rw [decide_eq_true_eq]; omega
                      clear hx hxb h13 hend2 hshort
                      obtain ⟨q1, q2⟩ := evs_stop (HEND.out [] R hun) HEV.out HLEFT.out
                      rw [List.append_nil] at q1
                      have Q1 := Lib.hid q1
                      have Q2 := Lib.hid q2
                      clear q1 q2 hun HEV HLEFT HGO HEND
                      go_wp2_with fail
                      exact bodyPost_ret (v := .tuple #[.slice va L.length vc, .int .i64 (R : Int)]) (by simp [results, Tryz.results51, go_sem]) rfl ⟨_, L, ret_congr (by rw [← Q2.out]), Q1.out, HR.out⟩
                    · obtain ⟨y, hy⟩ : ∃ y, (bl.drop E)[m + 1]? = some y := ⟨_, List.getElem?_eq_getElem (by rw [HQL.out]; omega)⟩
                      have hyb : bl[E + (m + 1)]? = some y := by rw [List.getElem?_drop] at hy; exact hy
                      have hcy := HBYTE.out _ _ hyb
                      rw [show o + (E + (m + 1)) = o + E + (m + 1) from by omega] at hcy
                      have hiy : ∀ W : World, (Instr.indexAt 22 (.slice (some ⟨g, o + E, none⟩) (R) (bc - E)) (.int .i64 ((m : Int) + 1))).run Tryz.prog W = .ok (.pointer (some ⟨g, o + E + (m + 1), none⟩)) W := fun W => idx_byte (k := m + 1) rfl (by omega) W
                      have t2 : decide ((R : Int) ≤ (m : Int) + 1) = false := by rw [decide_eq_false_iff_not]; omega
                      by_cases h10 : y = 10
                      · have e10 : ((y.toNat : Int) == 10) = true := by rw [h10]; rfl
                        have hun : unitR (bl.drop k) = ([⟨d, (bl.drop E).take m, 0⟩], some (M + 1 + (m + 1)), 0) := by
                          rw [hun, dataD_ok (by rw [hx, h13]) (by rw [hy, h10])]
                        have hspec := HGO.out _ _ 0 hun
                        rw [show k + (M + 1 + (m + 1) + 1) = E + m + 2 from by have := HE.out; omega] at hspec
                        have HS := Lib.hid hspec
                        have hEm : E + m + 2 ≤ n := by omega
                        have hPl : ((bl.drop E).take m).length = m := by rw [List.length_take, HQL.out]; omega
                        have hcv := conv_at (l := (bl.drop E).take m) (g := g) (o := o + E) (c := bc - E) (W := w3.drew) (fun j z hz => by
                          have hj : j < m := by have := (List.getElem?_eq_some_iff.1 hz).1; rw [hPl] at this; exact this
                          rw [List.getElem?_take, if_pos hj, List.getElem?_drop] at hz
                          have := HBYTE.out _ _ hz
                          rwa [show o + (E + j) = o + E + j from by omega] at this)
                        rw [hPl] at hcv
                        have hsl := fun W => bytes_to (g := g) (o := o + E) (n := R) (c := bc - E) (m := m) rfl (by omega) (by omega) W
                        generalize (bl.drop E).take m = D at *
                        clear hun hspec hx hy hxb hyb h13 h10 hend2 hshort hPl
                        have x0 : w3.cell? ⟨w2.heap.size, 0, none⟩ = some (.int .u8 (d.verb : Int)) := (block_cell HX.out 0).1
                        have x1 : w3.cell? ⟨w2.heap.size, 1, none⟩ = some (.slice ka d.keys.length kc) := (block_cell HX.out 1).1
                        have x2 : w3.cell? ⟨w2.heap.size, 2, none⟩ = some (.int .u8 (d.cverb : Int)) := (block_cell HX.out 2).1
                        have x3 : w3.cell? ⟨w2.heap.size, 3, none⟩ = some (sv d.key) := (block_cell HX.out 3).1
                        have x4 : w3.cell? ⟨w2.heap.size, 4, none⟩ = some (sv d.value) := (block_cell HX.out 4).1
                        have x5 : w3.cell? ⟨w2.heap.size, 5, none⟩ = some (.int .u32 (d.flags : Int)) := (block_cell HX.out 5).1
                        have x6 : w3.cell? ⟨w2.heap.size, 6, none⟩ = some (.int .i64 d.exp) := (block_cell HX.out 6).1
                        have x7 : w3.cell? ⟨w2.heap.size, 7, none⟩ = some (.int .u64 (d.id : Int)) := (block_cell HX.out 7).1
                        have x8 : w3.cell? ⟨w2.heap.size, 8, none⟩ = some (.int .u64 (d.by' : Int)) := (block_cell HX.out 8).1
                        have x10 : w3.cell? ⟨w2.heap.size, 10, none⟩ = some (.bool d.quiet) := (block_cell HX.out 10).1
                        go_upto_region 19 with fail
                        go_region_law (first | (refine step_append_lies _ (by rfl) _ _ 60 (by rfl) w.heap.size 63 i0 (.agg rEvZero) 13 144 Tryz.underlying60 Hi.out Hz.out.1 Hz.out.2.1 Hz.out.2.2 rfl (by omega) (.slice va L.length vc) L.length (rEvsCells L) (by rfl) (own_at_draw HR.out.row _) ⟨w3.heap.size, 0, none⟩ 1 1 (rEvCells (.slice ka d.keys.length kc) ⟨{ d with bytes := (m : Int) }, D, 0⟩) (by rfl) (by rfl) (World.news_of_block (cs := (rEvCells (.slice ka d.keys.length kc) ⟨{ d with bytes := (m : Int) }, D, 0⟩).toArray) (heap_at_draw w3 _)) (by simp [Value.oneCell']) (by omega) (by unfold maxLen; omega) (by omega) (by have := HR.out.low.size; simp; omega) (w3.heap.size + 1) (by simp) ?_; intro g9 c9 w9 hown9 hg9 hat9 hlt9) | fail)
                        all_goals
                          rw [show ({ d with bytes := (m : Int) } : Cmd) = d from by rw [← HM.out]] at hown9
                          have hg9' := undrew hg9
                          clear hcv hsl x0 x1 x2 x3 x4 x5 x6 x7 x8 x10 hg9 hat9 hlt9
                          go_wp2_with fail
                          have hr9 := HR.out.push HK.out hown9 hg9'
                          obtain ⟨q1, q2⟩ := evs_step (R' := bl.drop (E + m + 2)) HS.out HEV.out HLEFT.out
                          go_roundw
                          case rel => exact ⟨E + m + 2, _, c9, L ++ [(.slice ka d.keys.length kc, ⟨d, D, 0⟩)], by go_num, by rw [List.length_append]; rfl, by omega, (by rw [List.length_append]; exact hr9), by rw [push_map]; exact q1, q2⟩
                          case measure => simp [intOf]; omega
                      · have e10 : ((y.toNat : Int) == 10) = false := by
                          rw [beq_eq_false_iff_ne]; intro e; exact h10 (UInt8.toNat_inj.1 (by show y.toNat = 10; omega))
                        have hun : unitR (bl.drop k) = ([toldE 6], some (M + 1 + ((m + 1) + line10 (bl.drop (E + (m + 1))))), 0) := by
                          rw [hun, dataD_bad2 (by rw [hx, h13]) hy h10, List.drop_drop]
                        have hEm : E + m + 1 ≤ n := by omega
                        clear hx hy hxb hyb h13 h10 hend2 hshort
                        have hspec := HGO.out [toldE 6] (M + 1 + (m + 1 + line10 (bl.drop (E + (m + 1))))) 0 (by rw [hun])
                        rw [show k + (M + 1 + (m + 1 + line10 (bl.drop (E + (m + 1))))  + 1) = E + (m + 1) + line10 (bl.drop (E + (m + 1))) + 1 from by have := HE.out; omega] at hspec
                        have hl10 := line10_le (bl.drop (E + (m + 1)))
                        rw [List.length_drop, ← HN.out] at hl10
                        obtain ⟨F, hF⟩ : ∃ F, F = E + (m + 1) + line10 (bl.drop (E + (m + 1))) := ⟨_, rfl⟩
                        rw [← hF] at hspec
                        have hFn : F ≤ n := by omega
                        have hkF : k < F := by omega
                        have hto : ∀ W, BRow W (.slice (some ⟨g, o, none⟩) n bc) bl → Calls Tryz.prog 65 #[.slice (some ⟨g, o, none⟩) n bc, .int .i64 ((E : Int) + ((m : Int) + 1))] W (IntIs F W) := fun W hW => by
                          have := refTo_any hW (k := E + (m + 1)) (by rw [← HN.out]; omega) (by rw [← HN.out]; exact hl)
                          rw [← hF] at this
                          rwa [show ((E + (m + 1) : Nat) : Int) = (E : Int) + ((m : Int) + 1) from by omega] at this
                        have HTO := Lib.hid hto
                        have HS := Lib.hid hspec
                        clear hto hspec hF hl10 hun
                        go_wp2_with (first | (at_builtin; refine wpList_append_own _ (by rfl) _ _ 60 (by rfl) w.heap.size 63 i0 (.agg rEvZero) 13 144 Tryz.underlying60 Hi.out Hz.out.1 Hz.out.2.1 Hz.out.2.2 rfl (by omega) (.slice va L.length vc) L.length (rEvsCells L) (by rfl) (HR.out.row.alloc _) ⟨w3.heap.size, 0, none⟩ 1 1 (rEvCells (.slice none 0 0) (toldE 6)) (by rfl) (by rfl) (World.news_of_block (cs := (rEvCells (.slice none 0 0) (toldE 6)).toArray) (heap_alloc_new _ _)) (by simp [Value.oneCell']) (by unfold maxLen; omega) (by omega) (by have := HR.out.low.size; simp; omega) ?_; intro v9 w9 hown9 hg9 _; obtain ⟨g9, c9, rfl⟩ := ownsRow_succ hown9; have hcb9 : w9.cell? ⟨w2.heap.size, 9, none⟩ = some (.int .i64 (m : Int)) := (by rw [← HM.out]; exact (block_cell (HR.out.other hg9 HX.out (by decide)) 9).1)) | fail)
                        have hb9 : BRow w9 (.slice (some ⟨g, o, none⟩) n bc) bl := by rw [HN.out]; exact HB.out.below (HR.out.push (ke := .slice none 0 0) (ev := toldE 6) (Row.nil _ _ _) hown9 hg9).low
                        refine (HTO.out w9 hb9).mono ?_
                        rintro e w' ⟨rfl, rfl⟩
                        clear hb9
                        go_wp2_with fail
                        have hr9 := HR.out.push (Row.nil _ _ _) hown9 hg9
                        obtain ⟨q1, q2⟩ := evs_step (R' := bl.drop (F + 1)) HS.out HEV.out HLEFT.out
                        go_roundw
                        case rel => exact ⟨F + 1, _, c9, L ++ [((.slice none 0 0), toldE 6)], by go_num, by rw [List.length_append]; rfl, by omega, (by rw [List.length_append]; exact hr9), by rw [push_map]; exact q1, q2⟩
                        case measure => simp [intOf]; omega
                  · have e13 : ((x.toNat : Int) == 13) = false := by
                      rw [beq_eq_false_iff_ne]; intro e; exact h13 (UInt8.toNat_inj.1 (by show x.toNat = 13; omega))
                    have hun : unitR (bl.drop k) = ([toldE 6], some (M + 1 + (m + line10 (bl.drop (E + m)))), 0) := by
                      rw [hun, dataD_bad1 hx h13, List.drop_drop]
                    have t2 : decide ((R : Int) ≤ (m : Int)) = false := by rw [decide_eq_false_iff_not]; omega
                    have t2' : decide (R ≤ m) = false := by rw [decide_eq_false_iff_not]; omega
                    have e3 : ((m : Int) == (m : Int) + 1) = false := by rw [beq_eq_false_iff_ne]; omega
                    have hEm : E + m ≤ n := by omega
                    clear hx hxb h13 hshort
                    have hspec := HGO.out [toldE 6] (M + 1 + (m + line10 (bl.drop (E + (m))))) 0 (by rw [hun])
                    rw [show k + (M + 1 + (m + line10 (bl.drop (E + (m))))  + 1) = E + (m) + line10 (bl.drop (E + (m))) + 1 from by have := HE.out; omega] at hspec
                    have hl10 := line10_le (bl.drop (E + (m)))
                    rw [List.length_drop, ← HN.out] at hl10
                    obtain ⟨F, hF⟩ : ∃ F, F = E + (m) + line10 (bl.drop (E + (m))) := ⟨_, rfl⟩
                    rw [← hF] at hspec
                    have hFn : F ≤ n := by omega
                    have hkF : k < F := by omega
                    have hto : ∀ W, BRow W (.slice (some ⟨g, o, none⟩) n bc) bl → Calls Tryz.prog 65 #[.slice (some ⟨g, o, none⟩) n bc, .int .i64 ((E : Int) + (m : Int))] W (IntIs F W) := fun W hW => by
                      have := refTo_any hW (k := E + (m)) (by rw [← HN.out]; omega) (by rw [← HN.out]; exact hl)
                      rw [← hF] at this
                      rwa [show ((E + (m) : Nat) : Int) = (E : Int) + (m : Int) from by omega] at this
                    have HTO := Lib.hid hto
                    have HS := Lib.hid hspec
                    clear hto hspec hF hl10 hun
                    go_wp2_with (first | (at_builtin; refine wpList_append_own _ (by rfl) _ _ 60 (by rfl) w.heap.size 63 i0 (.agg rEvZero) 13 144 Tryz.underlying60 Hi.out Hz.out.1 Hz.out.2.1 Hz.out.2.2 rfl (by omega) (.slice va L.length vc) L.length (rEvsCells L) (by rfl) (HR.out.row.alloc _) ⟨w3.heap.size, 0, none⟩ 1 1 (rEvCells (.slice none 0 0) (toldE 6)) (by rfl) (by rfl) (World.news_of_block (cs := (rEvCells (.slice none 0 0) (toldE 6)).toArray) (heap_alloc_new _ _)) (by simp [Value.oneCell']) (by unfold maxLen; omega) (by omega) (by have := HR.out.low.size; simp; omega) ?_; intro v9 w9 hown9 hg9 _; obtain ⟨g9, c9, rfl⟩ := ownsRow_succ hown9; have hcb9 : w9.cell? ⟨w2.heap.size, 9, none⟩ = some (.int .i64 (m : Int)) := (by rw [← HM.out]; exact (block_cell (HR.out.other hg9 HX.out (by decide)) 9).1)) | fail)
                    have hb9 : BRow w9 (.slice (some ⟨g, o, none⟩) n bc) bl := by rw [HN.out]; exact HB.out.below (HR.out.push (ke := .slice none 0 0) (ev := toldE 6) (Row.nil _ _ _) hown9 hg9).low
                    refine (HTO.out w9 hb9).mono ?_
                    rintro e w' ⟨rfl, rfl⟩
                    clear hb9
                    go_wp2_with fail
                    have hr9 := HR.out.push (Row.nil _ _ _) hown9 hg9
                    obtain ⟨q1, q2⟩ := evs_step (R' := bl.drop (F + 1)) HS.out HEV.out HLEFT.out
                    go_roundw
                    case rel => exact ⟨F + 1, _, c9, L ++ [((.slice none 0 0), toldE 6)], by go_num, by rw [List.length_append]; rfl, by omega, (by rw [List.length_append]; exact hr9), by rw [push_map]; exact q1, q2⟩
                    case measure => simp [intOf]; omega
            · have e0 : ((T : Int) != 0) = true := by rw [bne_iff_ne]; omega
              have hspec := HGO.out [toldE T] M 0 (by rw [HUND.out, unitD_told _ _ _ hT5 hT0])
              rw [show k + (M + 1) = E from by have := HE.out; omega] at hspec
              have HS := Lib.hid hspec
              clear hspec hT0 hT5 HUND HGO HEND HE HPB
              go_wp2_with (first | (at_builtin; refine wpList_append_own _ (by rfl) _ _ 60 (by rfl) w.heap.size 63 i0 (.agg rEvZero) 13 144 Tryz.underlying60 Hi.out Hz.out.1 Hz.out.2.1 Hz.out.2.2 rfl (by omega) (.slice va L.length vc) L.length (rEvsCells L) (by rfl) (HR.out.row.alloc _) ⟨w3.heap.size, 0, none⟩ 1 1 (rEvCells (.slice none 0 0) (toldE T)) (by rfl) (by rfl) (World.news_of_block (cs := (rEvCells (.slice none 0 0) (toldE T)).toArray) (heap_alloc_new _ _)) (by simp [Value.oneCell']) (by unfold maxLen; omega) (by omega) (by have := HR.out.low.size; simp; omega) ?_; intro v9 w9 hown9 hg9 _; obtain ⟨g9, c9, rfl⟩ := ownsRow_succ hown9) | fail)
              have hr9 := HR.out.push (Row.nil _ _ _) hown9 hg9
              obtain ⟨q1, q2⟩ := evs_step (R' := bl.drop (E)) HS.out HEV.out HLEFT.out
              go_roundw
              case rel => exact ⟨E, _, c9, L ++ [((.slice none 0 0), toldE T)], by go_num, by rw [List.length_append]; rfl, by omega, (by rw [List.length_append]; exact hr9), by rw [push_map]; exact q1, q2⟩
              case measure => simp [intOf]; omega
        · rw [decide_eq_false hin]
          have hMn : M = n - k := by omega
          obtain ⟨q1, q2⟩ := evs_stop (HEND.out [] (n - k) (by rw [HUN.out, if_neg hlong, if_pos hMn])) HEV.out HLEFT.out
          rw [List.append_nil] at q1
          have Q1 := Lib.hid q1
          have Q2 := Lib.hid q2
          clear q1 q2 hMn hin hlong HPAR HUN HGO HEND
          go_wp2_with fail
          exact bodyPost_ret (v := .tuple #[.slice va L.length vc, .int .i64 ((n : Int) - (k : Int))]) (by simp [results, Tryz.results51, go_sem]) rfl ⟨_, L, ret_congr (by rw [← Q2.out, show ((n - k : Nat) : Int) = (n : Int) - (k : Int) from by omega]), Q1.out, HR.out⟩
    · have hd : bl.drop k = [] := List.drop_eq_nil_of_le (by rw [← HN.out]; omega)
      rw [hd, refEv_nil] at hev hleft
      simp only [List.append_nil] at hev
      have HEV := Lib.hid hev
      have HLEFT := Lib.hid hleft
      clear hev hleft hd
      go_wp2_with fail
      exact bodyPost_ret (v := .tuple #[.slice va L.length vc, .int .i64 0]) (by simp [results, Tryz.results51, go_sem]) rfl ⟨_, L, by rw [← HLEFT.out]; rfl, HEV.out, HR.out⟩
end Go.Proofs.YtddifbimlmkcbaaGreatDoor
