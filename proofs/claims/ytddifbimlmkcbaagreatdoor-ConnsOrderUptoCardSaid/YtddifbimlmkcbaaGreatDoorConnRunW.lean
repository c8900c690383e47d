/- The laws' run of a connection, walked. Condition: the library's variables are as they are laid. -/
import Derived.Test.YtddifbimlmkcbaaGreatDoorCoF
namespace Go.Proofs.YtddifbimlmkcbaaGreatDoor
open Go.RowKit Go.ChangeMaps Go.MapKept
/-- What run leaves. -/
structure RunOk (w : World) (bl : List UInt8) (A : List AnsD) (p : Nat) (W : World) (cv : Value) (m : ConnM) (C : List Cmd) (S : Nat → Prop) : Prop where
  cj : CJ w p m W S
  row : W.ownsRow w.heap.size 39 7 cv C.length (callsCells C)
  apart : ∀ k, cv.ownBlock = some k → ¬ S k
  fit : FitM 4000 100000000000 m
  none : m.calls = []
  sum : sumM (ansF A) (runF fNew bl).2 0 [] = ⟨C, m.out, m.closed⟩
  few : C.length ≤ 4000
def RunPost (w : World) (bl : List UInt8) (A : List AnsD) (e : Ending) (w' : World) : Prop := ∃ p cv m C S, e = .returned (.tuple #[.pointer (some ⟨p, 0, none⟩), cv]) ∧ RunOk w bl A p w' cv m C S
def LateB (G late : Bool) (k r : Nat) : Prop := G = (late && decide (0 < r - k))
set_option maxRecDepth 100000 in
set_option maxHeartbeats 16000000 in
theorem run_any {w : World} {bv av : Value} {bl : List UInt8} {A : List AnsD} (size : Nat) (late : Bool) (hb : BRow w bv bl) (hbl : bl.length ≤ 4000) (hs0 : 0 < size) (hs1 : size ≤ 100000) (hA : AnsRow w av A) (hAs : AnsSmall A) (hE : EnvP w.heap.size w) :
    Calls Tryz.prog 12 #[bv, .int .i64 (size : Int), av, .bool late] w (RunPost w bl A) := by
  obtain ⟨ba, bc, rfl⟩ := hb.len
  obtain ⟨aa, ac, rfl⟩ := hA.len
  obtain ⟨i0, hi0, hz0, hz1, hz2⟩ := info_parts infoCall
  have hAl := hA.1
  unfold maxLen at hAl
  have Hi := Lib.hid hi0
  have Hz := Lib.hid (And.intro hz0 (And.intro hz1 hz2))
  have HE := Lib.hid hE
  have HA := Lib.hid hA
  have HAS := Lib.hid hAs
  have HB := Lib.hid hb
  have HBL := Lib.hid (show bl ≠ [] → ∀ g, (Value.slice ba bl.length bc).ownBlock = some g → g < w.heap.size from fun hne g hg => hb.blk hne hg)
  clear hE hA hAs hb hi0 hz0 hz1 hz2
  go_enter Tryz.func12, Tryz.ntmps12
  go_wp2_with fail
  refine (connNew_any w).mono ?_
  rintro e W ⟨rfl, hc, hbw⟩
  obtain ⟨S0, hj⟩ := CJ.new HE.out hc hbw
  have hst : RunJ w bl A w.heap.size 0 W (.slice ba bl.length bc) (.slice none 0 0) cNew [] S0 := ⟨by rw [List.drop_zero]; exact HB.out.below hbw, HBL.out, hj, World.ownsRow_nil _ _ _ _, fun k hk => by simp [Value.ownBlock] at hk, runI_new _ _, Nat.zero_le _⟩
  have HST := Lib.hid hst
  clear hc hbw hj hst
  obtain ⟨p, hp⟩ : ∃ p, p = w.heap.size := ⟨_, rfl⟩
  have HST' := Lib.hid (show RunJ w bl A p 0 W (.slice ba bl.length bc) (.slice none 0 0) cNew [] S0 by rw [hp]; exact HST.out)
  rw [← hp]
  clear HST hp
  go_wp2_with fail
  go_loopw [0, 11] (fun s0 s11 wr => ∃ (c : Nat) (rv cv : Value) (m : ConnM) (C : List Cmd) (S : Nat → Prop), s0 = rv ∧ s11 = cv ∧ RunJ w bl A p c wr rv cv m C S ∧ m.under = false ∧ (late = false ∨ c = bl.length → m.calls = [])) (fun s0 _ _ => match s0 with | .slice _ n _ => n | _ => 0)
  case atStart => exact ⟨0, _, _, _, _, _, rfl, rfl, HST'.out, rfl, fun _ => rfl⟩
  case round =>
    obtain ⟨c, rv, cv, m, C, S, rfl, rfl, hj, hu, hcl⟩ := hrel
    clear HST'
    obtain ⟨ra, rc, rfl⟩ := hj.rest.len
    have hrl : (bl.drop c).length = bl.length - c := List.length_drop
    have hcle := hj.cle
    obtain ⟨r, hr⟩ : ∃ r, r = (bl.drop c).length := ⟨_, rfl⟩
    rw [← hr] at hrl
    by_cases hr0 : r = 0
    · have hceq : c = bl.length := by omega
      have hc0 := hcl (.inr hceq)
      have hfin := hj.run.fin (by omega) hc0
      have hfit := hj.run.fit HAS.out hj.cle hbl
      have HR := Lib.hid (show RunOk w bl A p wr _ m C S from ⟨hj.cj, hj.row, hj.apart, hfit.1, hc0, hfin, by have := hfit.2.1; omega⟩)
      rw [← hr, hr0]
      obtain ⟨va, vc, rfl⟩ := row_slice hj.row
      clear hj hcl hc0 hfin hfit hr hrl hceq hu hr0
      go_wp2_with fail
      go_ret2
      exact ⟨p, _, m, C, S, rfl, HR.out⟩
    · obtain ⟨k, hk⟩ : ∃ k, k = min size r := ⟨_, rfl⟩
      have hmin : min (size : Int) (r : Int) = (k : Int) := by omega
      have hkr : k ≤ r := by omega
      have hk0 : 0 < k := by omega
      obtain ⟨a1, c1, a2, c2, hs1', hs2', hb1, hb2, ho1, ho2⟩ := brow_cut hj.rest (k := k) (by rw [← hr]; exact hkr)
      rw [← hr] at hs1' hs2' hb2 ho1 ho2 ⊢
      rw [← hr] at hj
      have hrpos : (0 : Int) < (r : Int) := by omega
      have hfit := hj.run.fit HAS.out hj.cle hbl
      have hrn : bl.drop c ≠ [] := fun e => hr0 (by rw [hr, e]; rfl)
      have hbn : bl ≠ [] := by rintro rfl; exact hrn (by simp)
      have hin := in_is hj.cj.is hj.cj.env hj.cj.low.size hfit.1 (bl := (bl.drop c).take k) (by rw [List.length_take]; omega) (by omega) hb1 (fun _ g hg => .inl (hj.rlow hbn g (by rw [← ho1]; exact hg))) (fun _ g hg e => by
        have h1 := hj.rlow hbn g (by rw [← ho1]; exact hg)
        have h2 := hj.cj.is.low e
        omega)
      have HJ := Lib.hid hj
      have HIN := Lib.hid hin
      have HB2 := Lib.hid hb2
      have HO2 := Lib.hid ho2
      have HCL := Lib.hid hcl
      have HR := Lib.hid hr
      have HRL := Lib.hid hrl
      have hck : c + k ≤ bl.length := by omega
      have hun := (on_wait { m with feed := (runF m.feed ((bl.drop c).take k)).1, wait := m.wait ++ (runF m.feed ((bl.drop c).take k)).2 }).2.2.2
      have huin : (inM m ((bl.drop c).take k)).under = false := by
        unfold inM
        split
        · exact hu
        · rw [hun]; exact hu
      have HU := Lib.hid huin
      clear hj hin hb1 hb2 ho1 ho2 hcl hr hk hfit hun huin hu hrl hrn hbn hr0
      go_wp2_with fail
      refine HIN.out.mono ?_
      rintro e W1 ⟨⟨v1, rfl⟩, hst⟩
      obtain ⟨S1, hj1⟩ := HJ.out.step hst (c' := c + k) (rv' := .slice a2 (r - k) c2) (by rw [← List.drop_drop]; exact HB2.out) HO2.out (HJ.out.run.in hck) hck
      have HJ1 := Lib.hid hj1
      clear hst hj1 HB2 HIN
      obtain ⟨va, vc, hva⟩ := row_slice HJ1.out.row
      subst hva
      go_upto_region 7 with fail
      go_cut [38] (fun s38 wx => ∃ G : Bool, s38 = .bool G ∧ LateB G late k r ∧ wx = W1)
      case first =>
        cases late
        · have HL := Lib.hid (show LateB false false k r from rfl)
          go_wp2_with fail
          go_meet
          case rel => exact ⟨_, rfl, HL.out, rfl⟩
        · have HL := Lib.hid (show LateB (decide (0 < r - k)) true k r from by unfold LateB; simp)
          go_wp2_with fail
          go_meet
          case rel => exact ⟨_, rfl, HL.out, rfl⟩
      case rest =>
        obtain ⟨G, rfl, hG, rfl⟩ := hcut
        have HG := Lib.hid hG
        clear hG
        cases G
        · go_wp2_with fail
          go_loopw [11, 13] (fun s11 s13 wr => ∃ (i : Nat) (cv2 : Value) (m2 : ConnM) (C2 : List Cmd) (S2 : Nat → Prop), s13 = .int .i64 (i : Int) ∧ s11 = cv2 ∧ i ≤ 4000 ∧ i ≤ C2.length ∧ RunJ w bl A p (c + k) wr (.slice a2 (r - k) c2) cv2 m2 C2 S2 ∧ m2.under = false) (fun _ s13 _ => 4001 - (intOf s13).toNat)
          case atStart => exact ⟨0, _, _, _, _, rfl, rfl, Nat.zero_le _, Nat.zero_le _, HJ1.out, HU.out⟩
          case round =>
            obtain ⟨i, cv2, m2, C2, S2, rfl, rfl, hi, hiC, hj2, hu2⟩ := hrel
            clear HJ HJ1 HU HCL
            have hfit2 := hj2.run.fit HAS.out hj2.cle hbl
            obtain ⟨va2, vc2, hva2⟩ := row_slice hj2.row
            subst hva2
            have HF2 := Lib.hid hfit2
            have HJ2 := Lib.hid hj2
            have HU2 := Lib.hid hu2
            have hC2 : C2.length ≤ 4000 := by have := hfit2.2.1; omega
            by_cases hi4 : i < 4000
            · have hnx := next_is hj2.cj.is hj2.run.good
              have HNX := Lib.hid hnx
              clear hnx hj2 hu2 hfit2
              go_wp2_with fail
              refine HNX.out.mono ?_
              rintro e V1 ⟨rfl, hst⟩
              cases hn : nextM m2 with
              | none =>
                have hm0 : m2.calls = [] := by
                  unfold nextM at hn
                  rw [HU2.out, if_neg (by simp)] at hn
                  exact List.head?_eq_none_iff.1 hn
                rw [took_none HJ2.out.run.good hn] at hst
                obtain ⟨S3, hj3⟩ := HJ2.out.step hst HJ2.out.rest rfl HJ2.out.run HJ2.out.cle
                have hj4 := hj3.below ((Below.refl _ _).alloc (Nat.le_refl _) (.cells (callCells noCmd).toArray 39))
                have HJ4 := Lib.hid hj4
                have HM0 := Lib.hid hm0
                rw [show nextC m2 = noCmd from by unfold nextC; rw [hn]; rfl]
                clear hn hst hj3 hj4 hm0 HNX HF2 HJ2
                go_wp2_with fail
                go_roundw
                case rel => exact ⟨c + k, _, _, m2, C2, S3, rfl, rfl, HJ4.out, HU2.out, fun _ => HM0.out⟩
                case measure => show r - k < r; omega
              | some x =>
                obtain ⟨cs, hcs⟩ : ∃ cs, m2.calls = x :: cs := by
                  unfold nextM at hn
                  rw [HU2.out, if_neg (by simp)] at hn
                  exact List.head?_eq_some_iff.1 hn
                have htk : tookM m2 = { m2 with under := true } := by unfold tookM; rw [if_neg (by rw [hcs]; simp)]
                obtain ⟨S3, hj3⟩ := HJ2.out.step hst HJ2.out.rest rfl HJ2.out.run.took HJ2.out.cle
                rw [htk] at hj3
                have HJ3 := Lib.hid hj3
                have HCS := Lib.hid hcs
                rw [show nextC m2 = x from by unfold nextC; rw [hn]; rfl]
                have hf3 : FitM 4000 100000000000 { m2 with under := true } := by rw [← htk]; exact HF2.out.1.took
                have HF3 := Lib.hid hf3
                clear hn hst hj3 hcs htk HNX HF2 HJ2 hf3
                by_cases hA0 : A.length = 0
                · have HYF := Lib.hid (show missA = ansF A C2.length from by rw [List.eq_nil_of_length_eq_zero hA0]; rfl)
                  have HYO := Lib.hid (HAS.out.at C2.length)
                  rw [← HYF.out] at HYO
                  have hz : ¬ (0 : Int) < (A.length : Int) := by omega
                  clear hA0
                  go_wp2_with (first
                    | (at_builtin
                       refine wpList_append_own_at _ (by rfl) _ _ 31 (by rfl) w.heap.size 39 i0 (.agg callZero) 7 72 Tryz.underlying31 Hi.out Hz.out.1 Hz.out.2.1 Hz.out.2.2 rfl (by omega) _ _ _ (by rfl) (((HJ3.out.row.alloc _).alloc _).alloc _) ⟨V1.heap.size + 2, 0, none⟩ 1 1 (callCells x) (by rfl) rfl (World.news_of_block (cs := (callCells x).toArray) (by rw [heap_at, if_pos (by simp)])) (by simp [Value.oneCell']) (by unfold maxLen; omega) (by omega) (by have := HJ3.out.cj.low.size; simp; omega) ?_
                       intro cv3 V2 hown3 hg3 _ hat3
                       have hbb : Below V1.heap.size V1 (((V1.alloc (.cells (callCells x).toArray 39)).alloc (.cells (ansCells missA).toArray 52)).alloc (.cells (callCells x).toArray 39)) := (((Below.refl _ _).alloc (Nat.le_refl _) _).alloc (by simp) _).alloc (by simp; omega) _
                       obtain ⟨hcj, hrest, hrow, hap, hch⟩ := (HJ3.out.below hbb).push hown3 hg3 (fun g hg => by
                         rcases hat3 with h | h
                         · exact .inl (by rw [← h]; exact hg)
                         · rw [h] at hg; exact .inr (by have := Option.some.inj hg; simp at this ⊢; omega))
                       have hbx : V2.heap[V1.heap.size + 1]? = some (.cells (ansCells missA).toArray 52 (0, 0)) := hch.obj (by rw [heap_at, if_neg (by simp), heap_at, if_pos (by simp)]) (fun e => by have := (HJ3.out.row.lt _ e).2; omega)
                       have z0 : V2.cell? ⟨V1.heap.size + 1, 0, none⟩ = some (.int .u8 missA.kind) := (block_cell hbx 0).1
                       have z1 : V2.cell? ⟨V1.heap.size + 1, 1, none⟩ = some (.int .u64 missA.number) := (block_cell hbx 1).1
                       have z2 : V2.cell? ⟨V1.heap.size + 1, 2, none⟩ = some (.string missA.item.key) := (block_cell hbx 2).1
                       have z3 : V2.cell? ⟨V1.heap.size + 1, 3, none⟩ = some (.string missA.item.value) := (block_cell hbx 3).1
                       have z4 : V2.cell? ⟨V1.heap.size + 1, 4, none⟩ = some (.int .u32 missA.item.flags) := (block_cell hbx 4).1
                       have z5 : V2.cell? ⟨V1.heap.size + 1, 5, none⟩ = some (.int .u64 missA.item.id) := (block_cell hbx 5).1
                       have z6 : V2.cell? ⟨V1.heap.size + 1, 6, none⟩ = some (.int .i64 missA.item.dies) := (block_cell hbx 6).1
                       have z7 : V2.cell? ⟨V1.heap.size + 1, 7, none⟩ = some (.int .i64 missA.item.gen) := (block_cell hbx 7).1
                       have HD := Lib.hid (done_is hcj.is hcj.env hcj.low.size HF3.out (by decide) (by decide) missA HYO.out.1 HYO.out.2)
                       have HCJ := Lib.hid hcj
                       have HRE := Lib.hid hrest
                       have HRO := Lib.hid hrow
                       have HAP := Lib.hid hap
                       clear hown3 hg3 hat3 hbb hcj hrest hrow hap hch hbx)
                    | fail)
                  refine HD.out.mono ?_
                  rintro e V3 ⟨rfl, hst⟩
                  have haf : afterM { m2 with under := true } missA = doneM { m2 with under := true } (ansF A C2.length) := by rw [← HYF.out]; rfl
                  rw [haf] at hst
                  have hgd : GoodM { m2 with under := true } := HJ3.out.run.good
                  have hcn : ({ m2 with under := true } : ConnM).calls ≠ [] := by rw [show ({ m2 with under := true } : ConnM).calls = x :: cs from HCS.out]; simp
                  have hun := done_under hgd hcn (ansF A C2.length)
                  obtain ⟨S4, hj4⟩ := runJ_of HCJ.out HRE.out HJ3.out.rlow HRO.out HAP.out hst (HJ3.out.run.done (x := x) (cs := cs) HCS.out) HJ3.out.cle
                  have HJ4 := Lib.hid hj4
                  have HUN := Lib.hid hun
                  clear z0 z1 z2 z3 z4 z5 z6 z7 HD HCJ HRE HRO HAP hst haf hgd hcn hun hj4 HJ3 HF3 HYO HYF HCS
                  go_wp2_with fail
                  go_roundw
                  case rel => exact ⟨i + 1, _, _, C2 ++ [x], S4, by go_num, rfl, by omega, by rw [List.length_append]; simp; omega, HJ4.out, HUN.out⟩
                  case measure => simp [intOf]; omega
                · have hApos : (0 : Int) < (A.length : Int) := by omega
                  obtain ⟨q, hq⟩ : ∃ q, q = C2.length % A.length := ⟨_, rfl⟩
                  have hqlt : q < A.length := by rw [hq]; exact Nat.mod_lt _ (by omega)
                  have hmod : (C2.length : Int).tmod (A.length : Int) = (q : Int) := by rw [hq]; rfl
                  obtain ⟨y, hy⟩ : ∃ y, A[q]? = some y := ⟨_, List.getElem?_eq_getElem hqlt⟩
                  obtain ⟨g, o, b, rfl, hg, hb', hyi, y0, y1, y2, y3, y4, y5, y6, y7⟩ := (HA.out.below (HJ3.out.cj.low)).at hy
                  have ix := fun W => idx_ans (a := some ⟨g, o, none⟩) (c := ac) rfl hqlt W
                  rw [← hb'] at ix
                  have HYF := Lib.hid (show y = ansF A C2.length from by unfold ansF; rw [← hq, List.getD_eq_getElem?_getD, hy]; rfl)
                  have HYO := Lib.hid (HAS.out.at C2.length)
                  rw [← HYF.out] at HYO
                  clear hq hy hyi hb' hA0
                  go_wp2_with (first
                    | (at_builtin
                       refine wpList_append_own_at _ (by rfl) _ _ 31 (by rfl) w.heap.size 39 i0 (.agg callZero) 7 72 Tryz.underlying31 Hi.out Hz.out.1 Hz.out.2.1 Hz.out.2.2 rfl (by omega) _ _ _ (by rfl) (((HJ3.out.row.alloc _).alloc _).alloc _) ⟨V1.heap.size + 2, 0, none⟩ 1 1 (callCells x) (by rfl) rfl (World.news_of_block (cs := (callCells x).toArray) (by rw [heap_at, if_pos (by simp)])) (by simp [Value.oneCell']) (by unfold maxLen; omega) (by omega) (by have := HJ3.out.cj.low.size; simp; omega) ?_
                       intro cv3 V2 hown3 hg3 _ hat3
                       have hbb : Below V1.heap.size V1 (((V1.alloc (.cells (callCells x).toArray 39)).alloc (.cells (ansCells y).toArray 52)).alloc (.cells (callCells x).toArray 39)) := (((Below.refl _ _).alloc (Nat.le_refl _) _).alloc (by simp) _).alloc (by simp; omega) _
                       obtain ⟨hcj, hrest, hrow, hap, hch⟩ := (HJ3.out.below hbb).push hown3 hg3 (fun g hg => by
                         rcases hat3 with h | h
                         · exact .inl (by rw [← h]; exact hg)
                         · rw [h] at hg; exact .inr (by have := Option.some.inj hg; simp at this ⊢; omega))
                       have hbx : V2.heap[V1.heap.size + 1]? = some (.cells (ansCells y).toArray 52 (0, 0)) := hch.obj (by rw [heap_at, if_neg (by simp), heap_at, if_pos (by simp)]) (fun e => by have := (HJ3.out.row.lt _ e).2; omega)
                       have z0 : V2.cell? ⟨V1.heap.size + 1, 0, none⟩ = some (.int .u8 y.kind) := (block_cell hbx 0).1
                       have z1 : V2.cell? ⟨V1.heap.size + 1, 1, none⟩ = some (.int .u64 y.number) := (block_cell hbx 1).1
                       have z2 : V2.cell? ⟨V1.heap.size + 1, 2, none⟩ = some (.string y.item.key) := (block_cell hbx 2).1
                       have z3 : V2.cell? ⟨V1.heap.size + 1, 3, none⟩ = some (.string y.item.value) := (block_cell hbx 3).1
                       have z4 : V2.cell? ⟨V1.heap.size + 1, 4, none⟩ = some (.int .u32 y.item.flags) := (block_cell hbx 4).1
                       have z5 : V2.cell? ⟨V1.heap.size + 1, 5, none⟩ = some (.int .u64 y.item.id) := (block_cell hbx 5).1
                       have z6 : V2.cell? ⟨V1.heap.size + 1, 6, none⟩ = some (.int .i64 y.item.dies) := (block_cell hbx 6).1
                       have z7 : V2.cell? ⟨V1.heap.size + 1, 7, none⟩ = some (.int .i64 y.item.gen) := (block_cell hbx 7).1
                       have HD := Lib.hid (done_is hcj.is hcj.env hcj.low.size HF3.out (by decide) (by decide) y HYO.out.1 HYO.out.2)
                       have HCJ := Lib.hid hcj
                       have HRE := Lib.hid hrest
                       have HRO := Lib.hid hrow
                       have HAP := Lib.hid hap
                       clear hown3 hg3 hat3 hbb hcj hrest hrow hap hch hbx)
                    | fail)
                  refine HD.out.mono ?_
                  rintro e V3 ⟨rfl, hst⟩
                  have haf : afterM { m2 with under := true } y = doneM { m2 with under := true } (ansF A C2.length) := by rw [← HYF.out]; rfl
                  rw [haf] at hst
                  have hgd : GoodM { m2 with under := true } := HJ3.out.run.good
                  have hcn : ({ m2 with under := true } : ConnM).calls ≠ [] := by rw [show ({ m2 with under := true } : ConnM).calls = x :: cs from HCS.out]; simp
                  have hun := done_under hgd hcn (ansF A C2.length)
                  obtain ⟨S4, hj4⟩ := runJ_of HCJ.out HRE.out HJ3.out.rlow HRO.out HAP.out hst (HJ3.out.run.done (x := x) (cs := cs) HCS.out) HJ3.out.cle
                  have HJ4 := Lib.hid hj4
                  have HUN := Lib.hid hun
                  clear z0 z1 z2 z3 z4 z5 z6 z7 HD HCJ HRE HRO HAP hst haf hgd hcn hun hj4 HJ3 HF3 HYO HYF HCS
                  go_wp2_with fail
                  go_roundw
                  case rel => exact ⟨i + 1, _, _, C2 ++ [x], S4, by go_num, rfl, by omega, by rw [List.length_append]; simp; omega, HJ4.out, HUN.out⟩
                  case measure => simp [intOf]; omega
            · have hge : ¬ (i : Int) < 4000 := by omega
              have hm0 : m2.calls = [] := List.eq_nil_of_length_eq_zero (by have := hfit2.2.1; have := hfit2.2.2; omega)
              have HM0 := Lib.hid hm0
              clear hj2 hu2 hfit2 hm0 HF2 hi4
              go_wp2_with fail
              go_roundw
              case rel => exact ⟨c + k, _, _, m2, C2, S2, rfl, rfl, HJ2.out, HU2.out, fun _ => HM0.out⟩
              case measure => show r - k < r; omega
        · go_wp2_with fail
          go_roundw
          case rel =>
            refine ⟨c + k, _, _, _, C, S1, rfl, rfl, HJ1.out, HU.out, fun h => ?_⟩
            have hG := HG.out
            unfold LateB at hG
            have hrl2 := HRL.out
            rcases h with h | h
            · rw [h] at hG; cases hG
            · have : decide (0 < r - k) = false := by rw [decide_eq_false_iff_not]; omega
              rw [this, Bool.and_false] at hG
              cases hG
          case measure => show r - k < r; omega
end Go.Proofs.YtddifbimlmkcbaaGreatDoor
