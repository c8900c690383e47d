/- What the document's map gives. Condition: the map lies behind its pointer; fewer than 2^20 records. -/
import Derived.Test.YtaooangnnlopcaaGreatDoorMapsRCh
import Derived.Test.YtaooangnnlopcaaGreatDoorLowA
namespace Go.Proofs.YtaooangnnlopcaaGreatDoor
open Go.RowKit Go.ChangeMaps Go.MapKept
/-- What is handed back. -/
def RGOk (w : World) (m : MapM) (k : ByteArray) (o : Option GivD) (e : Ending) (w' : World) : Prop := Below w.heap.size w w' ∧ match o with
  | none => e = .returned (.tuple #[.agg givRZero, .bool false])
  | some g => ∃ v', e = .returned (.tuple #[.agg #[.int .u8 g.ans.kind, .int .u64 g.ans.number, .string g.ans.item.key, .string g.ans.item.value, .int .u32 g.ans.item.flags, .int .u64 g.ans.item.id, .int .i64 g.ans.item.dies, .int .i64 g.ans.item.gen, v', .int .u64 ((applyM m k g).epoch : Int), .int .u64 ((applyM m k g).ids : Int), .bool (g.stored && !(atL m.L k).isSome)], .bool true]) ∧ IRow w' v' (applyM m k g).L
set_option maxRecDepth 100000 in
theorem rSays_any (k ep ids : Int) (a : Option Addr) (n c : Nat) (w : World) : Calls Tryz.prog 53 #[.int .u8 k, .agg #[.slice a n c, .int .u64 ep, .int .u64 ids]] w fun e w' => e = .returned (.tuple #[.agg #[.int .u8 k, .int .u64 0, .string ⟨#[]⟩, .string ⟨#[]⟩, .int .u32 0, .int .u64 0, .int .i64 0, .int .i64 0, .slice a n c, .int .u64 ep, .int .u64 ids, .bool false], .bool true]) ∧ Below w.heap.size w w' := by
  have qa : ∀ W : World, (Instr.build 40 #[(0, .int .u8 k)]).run Tryz.prog W = .ok (.agg #[.int .u8 k, .int .u64 0, .string ⟨#[]⟩, .string ⟨#[]⟩, .int .u32 0, .int .u64 0, .int .i64 0, .int .i64 0]) W := fun W => by kernel_rfl
  have qg : ∀ W : World, (Instr.build 88 #[(0, .agg #[.int .u8 k, .int .u64 0, .string ⟨#[]⟩, .string ⟨#[]⟩, .int .u32 0, .int .u64 0, .int .i64 0, .int .i64 0]), (1, .agg #[.slice a n c, .int .u64 ep, .int .u64 ids])]).run Tryz.prog W = .ok (.agg #[.int .u8 k, .int .u64 0, .string ⟨#[]⟩, .string ⟨#[]⟩, .int .u32 0, .int .u64 0, .int .i64 0, .int .i64 0, .slice a n c, .int .u64 ep, .int .u64 ids, .bool false]) W := fun W => by kernel_rfl
  go_enter Tryz.func53, Tryz.ntmps53
  go_upto_region 1 with fail
  obtain ⟨W0, hW0⟩ : ∃ Y, Y = (w.alloc (.cells #[.slice a n c, .int .u64 ep, .int .u64 ids] 31)).alloc (.cells givRZero 88) := ⟨_, rfl⟩
  have hb0 : Below w.heap.size w W0 := by rw [hW0]; exact below_two w _ _
  have hx0 : W0.heap[w.heap.size]? = some (.cells #[.slice a n c, .int .u64 ep, .int .u64 ids] 31 (0, 0)) := by rw [hW0]; exact (heap_two w _ _).1
  have hr0 : W0.heap[w.heap.size + 1]? = some (.cells givRZero 88 (0, 0)) := by rw [hW0]; exact (heap_two w _ _).2
  rw [← hW0]
  have k0 : W0.cell? ⟨w.heap.size, 0, none⟩ = some (.slice a n c) := (cells_at hx0 0).1
  have k1 : W0.cell? ⟨w.heap.size, 1, none⟩ = some (.int .u64 ep) := (cells_at hx0 1).1
  have k2 : W0.cell? ⟨w.heap.size, 2, none⟩ = some (.int .u64 ids) := (cells_at hx0 2).1
  have HB := Lib.hid hb0
  have HR := Lib.hid hr0
  clear hW0 hb0 hx0 hr0
  go_wp2_with (first
    | ((with_reducible show wpList _ _ _ (⟨none, Op.store 88 _ _, _, _, _, _⟩ :: _) _ _); refine wpList_store_whole (by rfl) 88 (.tmp 4) (.tmp 9) (by rfl) (w.heap.size + 1) (by rfl) #[.int .u8 k, .int .u64 0, .string ⟨#[]⟩, .string ⟨#[]⟩, .int .u32 0, .int .u64 0, .int .i64 0, .int .i64 0, .slice a n c, .int .u64 ep, .int .u64 ids, .bool false] (by rfl) _ 88 HR.out (by rfl) (by kernel_rfl) (by simp [Value.oneCell']) ?_; intro w3 hr3 hg3 hs3)
    | ((with_reducible show bodyPost _ _ _ Exit.ret _ _); exact bodyPost_ret (v := .tuple #[.agg #[.int .u8 k, .int .u64 0, .string ⟨#[]⟩, .string ⟨#[]⟩, .int .u32 0, .int .u64 0, .int .i64 0, .int .i64 0, .slice a n c, .int .u64 ep, .int .u64 ids, .bool false], .bool true]) (results_row_tmp rfl _ _ (w.heap.size + 1) _ _ _ _ (by rfl) hr3 Tryz.underlying88 rfl (by kernel_rfl) _ (by rfl)) rfl ⟨rfl, below_grown HB.out HB.out.size hg3 (Nat.le_succ _)⟩)
    | fail)
theorem IRow.fin {W W' : World} {v : Value} {L : List ItemD} {q : Nat} {cs : Array Value} (h : IRow W v L) (hg : W.grownBy W' (some q)) (hq : W.heap[q]? = some (.cells cs 88 (0, 0))) : IRow W' v L :=
  Row.kept (M := fun k => k = q) h (Chg.of_grown hg (fun i _ e => by cases e; rfl)) (fun g hgo e => by
    subst e
    exact absurd ((Row.tag h hgo).one (Tag.of hq)) (by decide))
section
variable {w w' : World} {m : MapM} {c : CallD} {ep : Nat} {v : Value} {k : Int}
theorem rg_none (hg : givesM m c ep = none) (hb : Below w.heap.size w w') : RGOk w m c.key (givesM m c ep) (.returned (.tuple #[.agg givRZero, .bool false])) w' := by
  rw [hg]; exact ⟨hb, rfl⟩
theorem rg_says (hg : givesM m c ep = some (saysG k ep)) (hr : IRow w' v m.L) (hb : Below w.heap.size w w') : RGOk w m c.key (givesM m c ep) (.returned (.tuple #[.agg #[.int .u8 k, .int .u64 0, .string ⟨#[]⟩, .string ⟨#[]⟩, .int .u32 0, .int .u64 0, .int .i64 0, .int .i64 0, v, .int .u64 (ep : Int), .int .u64 (m.ids : Int), .bool false], .bool true])) w' := by
  rw [hg]; exact ⟨hb, v, rfl, hr⟩
theorem rg_hit {x : ItemD} (hg : givesM m c ep = some (hitG x ep)) (hr : IRow w' v m.L) (hb : Below w.heap.size w w') : RGOk w m c.key (givesM m c ep) (.returned (.tuple #[.agg #[.int .u8 11, .int .u64 0, .string x.key, .string x.value, .int .u32 x.flags, .int .u64 x.id, .int .i64 x.dies, .int .i64 x.gen, v, .int .u64 (ep : Int), .int .u64 (m.ids : Int), .bool false], .bool true])) w' := by
  rw [hg]; exact ⟨hb, v, rfl, hr⟩
theorem rg_stores {hs : Bool} (hh : hs = (atL m.L c.key).isSome) (hg : givesM m c ep = some (storesG c ep (m.ids + 1))) (hr : IRow w' v (withoutL m.L c.key ++ [⟨c.key, c.value, c.flags, ((m.ids + 1 : Nat) : Int), diesE ep c.exp, genE ep⟩])) (hb : Below w.heap.size w w') : RGOk w m c.key (givesM m c ep) (.returned (.tuple #[.agg #[.int .u8 1, .int .u64 ((m.ids + 1 : Nat) : Int), .string ⟨#[]⟩, .string ⟨#[]⟩, .int .u32 0, .int .u64 0, .int .i64 0, .int .i64 0, v, .int .u64 (ep : Int), .int .u64 ((m.ids + 1 : Nat) : Int), .bool (!hs)], .bool true])) w' := by
  rw [hg, hh]; exact ⟨hb, v, rfl, hr⟩
theorem rg_gone (hg : givesM m c ep = some (goneG ep)) (hr : IRow w' v (withoutL m.L c.key)) (hb : Below w.heap.size w w') : RGOk w m c.key (givesM m c ep) (.returned (.tuple #[.agg #[.int .u8 6, .int .u64 0, .string ⟨#[]⟩, .string ⟨#[]⟩, .int .u32 0, .int .u64 0, .int .i64 0, .int .i64 0, v, .int .u64 (ep : Int), .int .u64 (m.ids : Int), .bool false], .bool true])) w' := by
  rw [hg]; exact ⟨hb, v, rfl, hr⟩
theorem rg_touch {x : ItemD} (hg : givesM m c ep = some (touchG c ep x)) (hr : IRow w' v (withoutL m.L c.key ++ [{ x with dies := diesE ep c.exp }])) (hb : Below w.heap.size w w') : RGOk w m c.key (givesM m c ep) (.returned (.tuple #[.agg #[.int .u8 7, .int .u64 0, .string ⟨#[]⟩, .string ⟨#[]⟩, .int .u32 0, .int .u64 0, .int .i64 0, .int .i64 0, v, .int .u64 (ep : Int), .int .u64 (m.ids : Int), .bool false], .bool true])) w' := by
  rw [hg]; exact ⟨hb, v, rfl, hr⟩
theorem rg_number {x : ItemD} {u : Nat} (hg : givesM m c ep = some (numberG u ep (m.ids + 1) x)) (hr : IRow w' v (withoutL m.L c.key ++ [{ x with id := ((m.ids + 1 : Nat) : Int), value := ⟨(Lib.decDigits u).toArray⟩ }])) (hb : Below w.heap.size w w') : RGOk w m c.key (givesM m c ep) (.returned (.tuple #[.agg #[.int .u8 8, .int .u64 (u : Int), .string ⟨#[]⟩, .string ⟨#[]⟩, .int .u32 0, .int .u64 0, .int .i64 0, .int .i64 0, v, .int .u64 (ep : Int), .int .u64 ((m.ids + 1 : Nat) : Int), .bool false], .bool true])) w' := by
  rw [hg]; exact ⟨hb, v, rfl, hr⟩
theorem rg_flush {f : Nat} (hf : flushE ep c.exp = (f, true)) (hg : givesM m c ep = some (flushG c ep)) (hr : IRow w' v m.L) (hb : Below w.heap.size w w') : RGOk w m c.key (givesM m c ep) (.returned (.tuple #[.agg #[.int .u8 10, .int .u64 0, .string ⟨#[]⟩, .string ⟨#[]⟩, .int .u32 0, .int .u64 0, .int .i64 0, .int .i64 0, v, .int .u64 (f : Int), .int .u64 (m.ids : Int), .bool false], .bool true])) w' := by
  rw [hg]
  unfold flushG
  rw [hf]
  exact ⟨hb, v, rfl, hr⟩
end
set_option maxRecDepth 100000 in
set_option maxHeartbeats 16000000 in
theorem rGivesM_any {w : World} {r : Nat} {v : Value} {m : MapM} {ep : Nat} {VB F X ID BY : Int} {KY V : ByteArray} (h : RMap w r v m) (hfew : m.L.length ≤ 1000000) (hme : m.epoch < 18446744073709551616) (he : ep < 18446744073709551616) (hk : KY.size ≤ maxLen) (hx : -9223372036854775808 ≤ X ∧ X ≤ 9223372036854775807) (hby : 0 ≤ BY ∧ BY ≤ 18446744073709551615) (hid : m.ids < 18446744073709551615) (hval : ∀ x ∈ m.L, x.value.size ≤ maxLen) : Calls Tryz.prog 36 #[.pointer (some ⟨r, 0, none⟩), .agg #[.int .u8 VB, .string KY, .string V, .int .u32 F, .int .i64 X, .int .u64 ID, .int .u64 BY], .int .u64 (ep : Int)] w (RGOk w m KY (givesM m ⟨VB, KY, V, F, X, ID, BY⟩ ep)) := by
  obtain ⟨va, vc, hv0⟩ := RMap.slice h
  have HM := Lib.hid (fun W (hb : Below w.heap.size w W) => h.below hb)
  have HLT := Lib.hid h.lt
  have HFEW := Lib.hid hfew
  have HME := Lib.hid hme
  have HE := Lib.hid he
  have HK := Lib.hid hk
  have HX' := Lib.hid hx
  have HBY := Lib.hid hby
  have HID := Lib.hid hid
  have HVAL := Lib.hid hval
  clear h hfew hme he hk hx hby hid hval
  go_enter Tryz.func36, Tryz.ntmps36
  go_upto_region 1 with fail
  obtain ⟨W0, hW0⟩ : ∃ Y, Y = (w.alloc (.cells #[.int .u8 VB, .string KY, .string V, .int .u32 F, .int .i64 X, .int .u64 ID, .int .u64 BY] 35)).alloc (.cells givRZero 88) := ⟨_, rfl⟩
  have hb0 : Below w.heap.size w W0 := by rw [hW0]; exact below_two w _ _
  have hx0 : W0.heap[w.heap.size]? = some (.cells #[.int .u8 VB, .string KY, .string V, .int .u32 F, .int .i64 X, .int .u64 ID, .int .u64 BY] 35 (0, 0)) := by rw [hW0]; exact (heap_two w _ _).1
  have hr0 : W0.heap[w.heap.size + 1]? = some (.cells givRZero 88 (0, 0)) := by rw [hW0]; exact (heap_two w _ _).2
  rw [← hW0]
  have HB0 := Lib.hid hb0
  have HX0 := Lib.hid hx0
  have HR0 := Lib.hid hr0
  have HN0 := Lib.hid (show w.heap.size + 1 < W0.heap.size from (Array.getElem?_eq_some_iff.1 hr0).1)
  clear hW0 hb0 hx0 hr0
  obtain ⟨my, hmy⟩ : ∃ b, b = mayE m ⟨VB, KY, V, F, X, ID, BY⟩ ep := ⟨_, rfl⟩
  have HMY := Lib.hid hmy
  clear hmy
  go_cut [28] (fun s28 wx => s28 = .bool (!my) ∧ wx = W0)
  case first =>
    have k0 : W0.cell? ⟨w.heap.size, 0, none⟩ = some (.int .u8 VB) := (cells_at HX0.out 0).1
    have k1 : W0.cell? ⟨w.heap.size, 1, none⟩ = some (.string KY) := (cells_at HX0.out 1).1
    have hcm := rComes_any (w := W0) (r := r) (me := m.epoch) (ep := ep) (cells_at (HM.out W0 HB0.out).box 1).1 HME.out
    have hm2 := HMY.out
    unfold mayE at hm2
    simp only at hm2
    cases hc : comesE m.epoch ep
    · rw [hc, Bool.false_and] at hm2
      rw [hc] at hcm
      subst hm2
      go_wp2_with fail
      refine hcm.mono ?_
      rintro e w1 ⟨rfl, rfl⟩
      go_wp2_with fail
      go_meet
      case rel => exact ⟨rfl, rfl⟩
    · rw [hc, Bool.true_and] at hm2
      rw [hc] at hcm
      have hok := rOk_any KY W0 HK.out
      cases hvb : (VB == 11)
      · have hvn : (VB != 11) = true := by unfold bne; rw [hvb]; rfl
        rw [hvb, Bool.false_or] at hm2
        rw [← hm2] at hok
        have HOK := Lib.hid hok
        clear hok hm2
        go_wp2_with fail
        refine hcm.mono ?_
        rintro e w1 ⟨rfl, rfl⟩
        go_wp2_with fail
        refine HOK.out.mono ?_
        rintro e w1 ⟨rfl, rfl⟩
        cases my
        · go_wp2_with fail
          go_meet
          case rel => exact ⟨rfl, rfl⟩
        · go_wp2_with fail
          go_meet
          case rel => exact ⟨rfl, rfl⟩
      · have hvn : (VB != 11) = false := by unfold bne; rw [hvb]; rfl
        rw [hvb, Bool.true_or] at hm2
        subst hm2
        clear hok
        have HVB := Lib.hid hvb
        clear hvb
        go_wp2_with fail
        refine hcm.mono ?_
        rintro e w1 ⟨rfl, rfl⟩
        go_wp2_with fail
        go_meet
        case rel => exact ⟨rfl, rfl⟩
  case rest =>
    obtain ⟨rfl, rfl⟩ := hcut
    obtain ⟨W1, rfl⟩ : ∃ Y, Y = wc := ⟨_, rfl⟩
    cases my
    · have hgn : givesM m ⟨VB, KY, V, F, X, ID, BY⟩ ep = none := by
        unfold givesM
        rw [← HMY.out]
        rfl
      have HGN := Lib.hid hgn
      clear hgn
      have qz : ∀ W : World, (Instr.build 88 #[]).run Tryz.prog W = .ok (.agg #[.int .u8 0, .int .u64 0, .string ⟨#[]⟩, .string ⟨#[]⟩, .int .u32 0, .int .u64 0, .int .i64 0, .int .i64 0, .slice none 0 0, .int .u64 0, .int .u64 0, .bool false]) W := fun W => by kernel_rfl
      go_wp2_with (first | ((with_reducible show wpList _ _ _ (⟨none, Op.store 88 _ _, _, _, _, _⟩ :: _) _ _); refine wpList_store_whole (by rfl) 88 (.tmp 6) (.tmp 29) (by rfl) (w.heap.size + 1) (by rfl) #[.int .u8 0, .int .u64 0, .string ⟨#[]⟩, .string ⟨#[]⟩, .int .u32 0, .int .u64 0, .int .i64 0, .int .i64 0, .slice none 0 0, .int .u64 0, .int .u64 0, .bool false] (by rfl) _ 88 HR0.out (by rfl) (by kernel_rfl) (by simp [Value.oneCell']) ?_; intro w3 hr3 hg3 hs3) | ((with_reducible show bodyPost _ _ _ Exit.ret _ _); exact bodyPost_ret (v := .tuple #[.agg #[.int .u8 0, .int .u64 0, .string ⟨#[]⟩, .string ⟨#[]⟩, .int .u32 0, .int .u64 0, .int .i64 0, .int .i64 0, .slice none 0 0, .int .u64 0, .int .u64 0, .bool false], .bool false]) (results_row_tmp rfl _ _ (w.heap.size + 1) _ _ _ _ (by rfl) hr3 Tryz.underlying88 rfl (by kernel_rfl) _ (by rfl)) rfl (rg_none (c := ⟨VB, KY, V, F, X, ID, BY⟩) HGN.out (below_grown HB0.out HB0.out.size hg3 (Nat.le_succ _)))) | fail)
    · have hgs : givesM m ⟨VB, KY, V, F, X, ID, BY⟩ ep = givesV ⟨VB, KY, V, F, X, ID, BY⟩ ep (m.ids + 1) (wasL m.L KY) (thereL m.L KY ep) := by
        unfold givesM
        rw [← HMY.out]
        rfl
      have HGS := Lib.hid hgs
      clear hgs HMY
      have k1 : W1.cell? ⟨w.heap.size, 1, none⟩ = some (.string KY) := (cells_at HX0.out 1).1
      go_upto_region 3 with fail
      go_wp2_with fail
      clear k1
      refine (rAtM_any (k := KY) (HM.out W1 HB0.out)).mono ?_
      rintro e W2 ⟨rfl, hb⟩
      obtain ⟨was, hwas⟩ : ∃ x, x = wasL m.L KY := ⟨_, rfl⟩
      obtain ⟨has, hhas⟩ : ∃ b, b = (atL m.L KY).isSome := ⟨_, rfl⟩
      obtain ⟨th, hth⟩ : ∃ b, b = thereL m.L KY ep := ⟨_, rfl⟩
      have hthr : th = (has && aliveE was ep) := by rw [hth, hhas, hwas]; rfl
      have hgs := HGS.out
      have hwv : was.value.size ≤ maxLen := by
        rw [hwas]
        unfold wasL
        cases ha : atL m.L KY with
        | none => show 0 ≤ maxLen; omega
        | some x => exact HVAL.out x (List.mem_of_find?_eq_some ha)
      rw [← hwas, ← hth] at hgs
      rw [← hwas, ← hhas]
      have HGS2 := Lib.hid hgs
      have HTHR := Lib.hid hthr
      have HHAS := Lib.hid hhas
      have HWV := Lib.hid hwv
      have HB2 := Lib.hid (HB0.out.trans (hb.mono HB0.out.size))
      have HX2 := Lib.hid ((hb.block w.heap.size (by have := HN0.out; omega)).trans HX0.out)
      have HR2 := Lib.hid ((hb.block (w.heap.size + 1) HN0.out).trans HR0.out)
      have HN2 := Lib.hid (Nat.lt_of_lt_of_le HN0.out hb.size)
      clear hwas hhas hth hthr hgs hwv hb HGS HB0 HX0 HR0 HN0 HVAL
      go_upto_region 4 with (first | ((with_reducible show wpList _ _ _ (⟨none, Op.store _ _ _, _, _, _, _⟩ :: _) _ _); refine wpList_store_whole (by rfl) 38 (.tmp 8) (.tmp 35) (by rfl) W2.heap.size (by rfl) #[.string was.key, .string was.value, .int .u32 was.flags, .int .u64 was.id, .int .i64 was.dies, .int .i64 was.gen] (by rfl) _ 38 (heap_alloc_new _ _) (by rfl) (by kernel_rfl) (by simp [Value.oneCell']) ?_; intro w2 hr2 hg2 hs2; have HRI := Lib.hid hr2; have HGI := Lib.hid hg2; clear hr2 hg2 hs2) | fail)
      have hb3 : Below W2.heap.size W2 w2 := grown_below ((Below.refl _ _).alloc (Nat.le_refl _) _) (by rw [size_at]; omega) HGI.out (fun k hk => by cases hk; exact Nat.le_refl _)
      have HB3 := Lib.hid (HB2.out.trans (hb3.mono HB2.out.size))
      have HX3 := Lib.hid ((hb3.block w.heap.size (by have := HN2.out; omega)).trans HX2.out)
      have HR3 := Lib.hid ((hb3.block (w.heap.size + 1) HN2.out).trans HR2.out)
      have HN3 := Lib.hid (Nat.lt_of_lt_of_le HN2.out hb3.size)
      obtain ⟨q, hq⟩ : ∃ q, q = W2.heap.size := ⟨_, rfl⟩
      rw [← hq] at HRI ⊢
      clear hb3 hq HGI HB2 HX2 HR2 HN2
      obtain ⟨W3, rfl⟩ : ∃ Y, Y = w2 := ⟨_, rfl⟩
      go_cut [10] (fun s10 wx => s10 = .bool th ∧ Below W3.heap.size W3 wx)
      case first =>
        have x0 : W3.cell? ⟨q, 0, none⟩ = some (.string was.key) := (cells_at HRI.out 0).1
        have x1 : W3.cell? ⟨q, 1, none⟩ = some (.string was.value) := (cells_at HRI.out 1).1
        have x2 : W3.cell? ⟨q, 2, none⟩ = some (.int .u32 was.flags) := (cells_at HRI.out 2).1
        have x3 : W3.cell? ⟨q, 3, none⟩ = some (.int .u64 was.id) := (cells_at HRI.out 3).1
        have x4 : W3.cell? ⟨q, 4, none⟩ = some (.int .i64 was.dies) := (cells_at HRI.out 4).1
        have x5 : W3.cell? ⟨q, 5, none⟩ = some (.int .i64 was.gen) := (cells_at HRI.out 5).1
        have hal := rAlive_any was ep HE.out W3
        have hthr := HTHR.out
        cases has
        · rw [Bool.false_and] at hthr
          subst hthr
          clear hal
          go_wp2_with fail
          go_meet
          case rel => exact ⟨rfl, Below.refl _ _⟩
        · rw [Bool.true_and] at hthr
          rw [← hthr] at hal
          have HAL := Lib.hid hal
          clear hal hthr
          go_wp2_with fail
          refine HAL.out.mono ?_
          rintro e w4 ⟨rfl, hb⟩
          have HB4 := Lib.hid hb
          clear hb x0 x1 x2 x3 x4 x5
          go_wp2_with fail
          go_meet
          case rel => exact ⟨rfl, HB4.out⟩
      case rest =>
        obtain ⟨rfl, hb⟩ := hcut
        obtain ⟨W4, rfl⟩ : ∃ Y, Y = wc := ⟨_, rfl⟩
        have HB4 := Lib.hid (HB3.out.trans (hb.mono HB3.out.size))
        have HX4 := Lib.hid ((hb.block w.heap.size (by have := HN3.out; omega)).trans HX3.out)
        have HR4 := Lib.hid ((hb.block (w.heap.size + 1) HN3.out).trans HR3.out)
        have HN4 := Lib.hid (Nat.lt_of_lt_of_le HN3.out hb.size)
        have HI4 := Lib.hid ((hb.block q (Array.getElem?_eq_some_iff.1 HRI.out).1).trans HRI.out)
        clear hb HB3 HX3 HR3 HN3 HRI HTHR
        obtain ⟨n0, hn0⟩ : ∃ k, k = m.L.length := ⟨_, rfl⟩
        rw [← hn0] at hv0
        subst hv0
        clear hn0
        have qm : ∀ (a : Option Addr) (n k : Nat) (ep ids : Int) (W : World), (Instr.build 31 #[(0, .slice a n k), (1, .int .u64 ep), (2, .int .u64 ids)]).run Tryz.prog W = .ok (.agg #[.slice a n k, .int .u64 ep, .int .u64 ids]) W := fun a n k ep ids W => by kernel_rfl
        go_upto_region 5 with fail
        go_cut [11] (fun s11 wx => ∃ s, s11 = .pointer (some ⟨s, 0, none⟩) ∧ wx.heap[s]? = some (.cells #[.slice va n0 vc, .int .u64 (ep : Int), .int .u64 (m.ids : Int)] 31 (0, 0)) ∧ Below W4.heap.size W4 wx)
        case first =>
          refine wp_region_held_drew (S := fun W => Below w.heap.size w W) (by kernel_rfl) (bdrew HB4.out) (fun hHeld => ?_)
          refine tkq (i := 0) (v := ?_) rfl (by kernel_rfl) (fun _ _ _ h => h) (by rfl) ?_ (by assumption) ?_
          rotate_left 1
          · ((intro w hSw; (try dsimp only at hSw); go_simp) <;> with_reducible rfl)
          try simp only [Act.put, tzA, tzB, tzC, tzD, tzE]
          refine tkq (i := 1) (v := ?_) rfl (by kernel_rfl) (fun _ _ _ h => h) (by rfl) ?_ (by assumption) ?_
          rotate_left 1
          · ((intro w hSw; (try dsimp only at hSw); go_simp) <;> with_reducible rfl)
          try simp only [Act.put, tzA, tzB, tzC, tzD, tzE, tzF]
          refine tkq (i := 2) (v := ?_) rfl (by kernel_rfl) (fun _ _ _ h => h) (by rfl) ?_ (by assumption) ?_
          rotate_left 1
          · ((intro w hSw; (try dsimp only at hSw); go_simp) <;> with_reducible rfl)
          try simp only [Act.put, tzA, tzB, tzC, tzD, tzE, tzF]
          refine tkq (i := 3) (v := ?_) rfl (by kernel_rfl) (fun _ _ _ h => h) (by rfl) ?_ (by assumption) ?_
          rotate_left 1
          · ((intro w hSw; (try dsimp only at hSw); have c0 := (cells_at (HM.out _ hSw).box 0).1; go_simp) <;> with_reducible rfl)
          try simp only [Act.put, tzA, tzB, tzC, tzD, tzE, tzF]
          refine tkq (i := 4) (v := ?_) rfl (by kernel_rfl) (fun _ _ _ h => h) (by rfl) ?_ (by assumption) ?_
          rotate_left 1
          · ((intro w hSw; (try dsimp only at hSw); go_simp) <;> with_reducible rfl)
          try simp only [Act.put, tzA, tzB, tzC, tzD, tzE, tzF]
          refine tkq (i := 5) (v := ?_) rfl (by kernel_rfl) (fun _ _ _ h => h) (by rfl) ?_ (by assumption) ?_
          rotate_left 1
          · ((intro w hSw; (try dsimp only at hSw); go_simp) <;> with_reducible rfl)
          try simp only [Act.put, tzA, tzB, tzC, tzD, tzE, tzF]
          refine tkq (i := 6) (v := ?_) rfl (by kernel_rfl) (fun _ _ _ h => h) (by rfl) ?_ (by assumption) ?_
          rotate_left 1
          · ((intro w hSw; (try dsimp only at hSw); go_simp) <;> with_reducible rfl)
          try simp only [Act.put, tzA, tzB, tzC, tzD, tzE, tzF]
          refine tkq (i := 7) (v := ?_) rfl (by kernel_rfl) (fun _ _ _ h => h) (by rfl) ?_ (by assumption) ?_
          rotate_left 1
          · ((intro w hSw; (try dsimp only at hSw); go_simp) <;> with_reducible rfl)
          try simp only [Act.put, tzA, tzB, tzC, tzD, tzE, tzF]
          refine tkq (i := 8) (v := ?_) rfl (by kernel_rfl) (fun _ _ _ h => h) (by rfl) ?_ (by assumption) ?_
          rotate_left 1
          · ((intro w hSw; (try dsimp only at hSw); have c2 := (cells_at (HM.out _ hSw).box 2).1; go_simp) <;> with_reducible rfl)
          try simp only [Act.put, tzA, tzB, tzC, tzD, tzE, tzF]
          refine tkq (i := 9) (v := ?_) rfl (by kernel_rfl) (fun _ _ _ h => h) (by rfl) ?_ (by assumption) ?_
          rotate_left 1
          · ((intro w hSw; (try dsimp only at hSw); go_simp) <;> with_reducible rfl)
          try simp only [Act.put, tzA, tzB, tzC, tzD, tzE, tzF]
          refine wpAnyH_ready (rs := [10]) (by kernel_rfl) (by simp) ?_
          refine (AllReadyH.cons rfl (fun K hK => ?_) AllReadyH.nil)
          go_simp
          have HZ := Lib.hid (show (World.drew (W4.alloc (.cells #[.slice none 0 0, .int .u64 0, .int .u64 0] 31))).heap[W4.heap.size]? = some (.cells #[.slice none 0 0, .int .u64 0, .int .u64 0] 31 (0, 0)) from heap_alloc_new _ _)
          refine hK.out _ _ (HB4.out.trans ((show Below W4.heap.size W4 (World.drew (W4.alloc (.cells #[.slice none 0 0, .int .u64 0, .int .u64 0] 31))) from bdrew ((Below.refl _ _).alloc (Nat.le_refl _) _)).mono HB4.out.size)) (fun hHeld2 => ?_)
          clear hK K
          try simp only [Act.put, tzA, tzB, tzC, tzD, tzE, tzF]
          refine wpAnyH_ready (rs := [11]) (by kernel_rfl) (by simp) ?_
          refine (AllReadyH.cons rfl (fun K hK => ?_) AllReadyH.nil)
          rw [if_pos (by rfl)]
          refine wp_store_mid 31 (.tmp 11) (.tmp 52) (by rfl) W4.heap.size 0 #[.slice va n0 vc, .int .u64 (ep : Int), .int .u64 (m.ids : Int)] (by rfl) (by rfl) (by have h := there_block HZ.out; exact h) (by kernel_rfl) (by simp [Value.oneCell']) ?_
          have HQ := Lib.hid (setCells_whole (cells := #[.slice va n0 vc, .int .u64 (ep : Int), .int .u64 (m.ids : Int)]) HZ.out (by rfl))
          have HBQ := Lib.hid (below_grown (show Below W4.heap.size W4 (World.drew (W4.alloc (.cells #[.slice none 0 0, .int .u64 0, .int .u64 0] 31))) from bdrew ((Below.refl _ _).alloc (Nat.le_refl _) _)) (by show W4.heap.size ≤ (W4.alloc _).heap.size; rw [size_at]; omega) (setCells_grown #[.slice va n0 vc, .int .u64 (ep : Int), .int .u64 (m.ids : Int)].toList 0 (World.drew (W4.alloc (.cells #[.slice none 0 0, .int .u64 0, .int .u64 0] 31))) W4.heap.size).1 (Nat.le_refl _))
          refine hK.out _ _ (HB4.out.trans (HBQ.out.mono HB4.out.size)) (fun hHeld2 => ?_)
          clear hK K HZ
          try simp only [Act.put, tzD, tzE, tzF]
          refine wpAnyH_done (by kernel_rfl) ?_ _
          clear hHeld2
          go_wp2_with fail
          go_meet
          case rel => exact ⟨_, rfl, HQ.out, HBQ.out⟩
        case rest =>
          obtain ⟨s, rfl, hsx, hb⟩ := hcut
          obtain ⟨W5, rfl⟩ : ∃ Y, Y = wc := ⟨_, rfl⟩
          have HB := Lib.hid (HB4.out.trans (hb.mono HB4.out.size))
          have HX := Lib.hid ((hb.block w.heap.size (by have := HN4.out; omega)).trans HX4.out)
          have HR := Lib.hid ((hb.block (w.heap.size + 1) HN4.out).trans HR4.out)
          have HN := Lib.hid (Nat.lt_of_lt_of_le HN4.out hb.size)
          have HI := Lib.hid ((hb.block q (Array.getElem?_eq_some_iff.1 HI4.out).1).trans HI4.out)
          have HS := Lib.hid hsx
          clear hb hsx HB4 HX4 HR4 HN4 HI4
          have k0 : W5.cell? ⟨w.heap.size, 0, none⟩ = some (.int .u8 VB) := (cells_at HX.out 0).1
          go_upto_region 6 with fail
          by_cases h1 : VB = 1
          · subst h1
            cases th
            · skip
              have HGW := Lib.hid (show givesM m ⟨1, KY, V, F, X, ID, BY⟩ ep = some (saysG 12 ep) from HGS2.out.trans (by rfl))
              have m0 : W5.cell? ⟨s, 0, none⟩ = some (.slice va n0 vc) := (cells_at HS.out 0).1
              have m1 : W5.cell? ⟨s, 1, none⟩ = some (.int .u64 (ep : Int)) := (cells_at HS.out 1).1
              have m2 : W5.cell? ⟨s, 2, none⟩ = some (.int .u64 (m.ids : Int)) := (cells_at HS.out 2).1
              go_wp2_with fail
              refine (rSays_any 12 (ep : Int) (m.ids : Int) va n0 vc W5).mono ?_
              rintro e w6 ⟨rfl, hb6⟩
              have HB6 := Lib.hid (HB.out.trans (hb6.mono HB.out.size))
              have HR6 := Lib.hid ((hb6.block (w.heap.size + 1) HN.out).trans HR.out)
              clear hb6 m0 m1 m2 k0
              go_wp2_with (first | ((with_reducible show wpList _ _ _ (⟨none, Op.store 88 _ _, _, _, _, _⟩ :: _) _ _); refine wpList_store_whole (by rfl) 88 (.tmp 6) (.tmp 66) (by rfl) (w.heap.size + 1) (by rfl) #[.int .u8 12, .int .u64 0, .string ⟨#[]⟩, .string ⟨#[]⟩, .int .u32 0, .int .u64 0, .int .i64 0, .int .i64 0, .slice va n0 vc, .int .u64 (ep : Int), .int .u64 (m.ids : Int), .bool false] (by rfl) _ 88 HR6.out (by rfl) (by kernel_rfl) (by simp [Value.oneCell']) ?_; intro w3 hr3 hg3 hs3) | ((with_reducible show bodyPost _ _ _ Exit.ret _ _); exact bodyPost_ret (v := .tuple #[.agg #[.int .u8 12, .int .u64 0, .string ⟨#[]⟩, .string ⟨#[]⟩, .int .u32 0, .int .u64 0, .int .i64 0, .int .i64 0, .slice va n0 vc, .int .u64 (ep : Int), .int .u64 (m.ids : Int), .bool false], .bool true]) (results_row_tmp rfl _ _ (w.heap.size + 1) _ _ _ _ (by rfl) hr3 Tryz.underlying88 rfl (by kernel_rfl) _ (by rfl)) rfl (rg_says (c := ⟨1, KY, V, F, X, ID, BY⟩) HGW.out (HM.out _ (below_grown HB6.out HB6.out.size hg3 (Nat.le_succ _))).row (below_grown HB6.out HB6.out.size hg3 (Nat.le_succ _)))) | fail)
            · skip
              have HGW := Lib.hid (show givesM m ⟨1, KY, V, F, X, ID, BY⟩ ep = some (hitG was ep) from HGS2.out.trans (by rfl))
              have m0 : W5.cell? ⟨s, 0, none⟩ = some (.slice va n0 vc) := (cells_at HS.out 0).1
              have m1 : W5.cell? ⟨s, 1, none⟩ = some (.int .u64 (ep : Int)) := (cells_at HS.out 1).1
              have m2 : W5.cell? ⟨s, 2, none⟩ = some (.int .u64 (m.ids : Int)) := (cells_at HS.out 2).1
              have x0 : W5.cell? ⟨q, 0, none⟩ = some (.string was.key) := (cells_at HI.out 0).1
              have x1 : W5.cell? ⟨q, 1, none⟩ = some (.string was.value) := (cells_at HI.out 1).1
              have x2 : W5.cell? ⟨q, 2, none⟩ = some (.int .u32 was.flags) := (cells_at HI.out 2).1
              have x3 : W5.cell? ⟨q, 3, none⟩ = some (.int .u64 was.id) := (cells_at HI.out 3).1
              have x4 : W5.cell? ⟨q, 4, none⟩ = some (.int .i64 was.dies) := (cells_at HI.out 4).1
              have x5 : W5.cell? ⟨q, 5, none⟩ = some (.int .i64 was.gen) := (cells_at HI.out 5).1
              have qa : ∀ W : World, (Instr.build 40 #[(0, .int .u8 11), (2, .agg #[.string was.key, .string was.value, .int .u32 was.flags, .int .u64 was.id, .int .i64 was.dies, .int .i64 was.gen])]).run Tryz.prog W = .ok (.agg #[.int .u8 11, .int .u64 0, .string was.key, .string was.value, .int .u32 was.flags, .int .u64 was.id, .int .i64 was.dies, .int .i64 was.gen]) W := fun W => by kernel_rfl
              have qg : ∀ W : World, (Instr.build 88 #[(0, .agg #[.int .u8 11, .int .u64 0, .string was.key, .string was.value, .int .u32 was.flags, .int .u64 was.id, .int .i64 was.dies, .int .i64 was.gen]), (1, .agg #[.slice va n0 vc, .int .u64 (ep : Int), .int .u64 (m.ids : Int)])]).run Tryz.prog W = .ok (.agg #[.int .u8 11, .int .u64 0, .string was.key, .string was.value, .int .u32 was.flags, .int .u64 was.id, .int .i64 was.dies, .int .i64 was.gen, .slice va n0 vc, .int .u64 (ep : Int), .int .u64 (m.ids : Int), .bool false]) W := fun W => by kernel_rfl
              go_wp2_with (first | ((with_reducible show wpList _ _ _ (⟨none, Op.store 88 _ _, _, _, _, _⟩ :: _) _ _); refine wpList_store_whole (by rfl) 88 (.tmp 6) (.tmp 63) (by rfl) (w.heap.size + 1) (by rfl) #[.int .u8 11, .int .u64 0, .string was.key, .string was.value, .int .u32 was.flags, .int .u64 was.id, .int .i64 was.dies, .int .i64 was.gen, .slice va n0 vc, .int .u64 (ep : Int), .int .u64 (m.ids : Int), .bool false] (by rfl) _ 88 HR.out (by rfl) (by kernel_rfl) (by simp [Value.oneCell']) ?_; intro w3 hr3 hg3 hs3) | ((with_reducible show bodyPost _ _ _ Exit.ret _ _); exact bodyPost_ret (v := .tuple #[.agg #[.int .u8 11, .int .u64 0, .string was.key, .string was.value, .int .u32 was.flags, .int .u64 was.id, .int .i64 was.dies, .int .i64 was.gen, .slice va n0 vc, .int .u64 (ep : Int), .int .u64 (m.ids : Int), .bool false], .bool true]) (results_row_tmp rfl _ _ (w.heap.size + 1) _ _ _ _ (by rfl) hr3 Tryz.underlying88 rfl (by kernel_rfl) _ (by rfl)) rfl (rg_hit (c := ⟨1, KY, V, F, X, ID, BY⟩) HGW.out (HM.out _ (below_grown HB.out HB.out.size hg3 (Nat.le_succ _))).row (below_grown HB.out HB.out.size hg3 (Nat.le_succ _)))) | fail)
          by_cases h2 : VB = 2
          · subst h2
            cases th
            · skip
              have HGW := Lib.hid (show givesM m ⟨2, KY, V, F, X, ID, BY⟩ ep = some (saysG 12 ep) from HGS2.out.trans (by rfl))
              have m0 : W5.cell? ⟨s, 0, none⟩ = some (.slice va n0 vc) := (cells_at HS.out 0).1
              have m1 : W5.cell? ⟨s, 1, none⟩ = some (.int .u64 (ep : Int)) := (cells_at HS.out 1).1
              have m2 : W5.cell? ⟨s, 2, none⟩ = some (.int .u64 (m.ids : Int)) := (cells_at HS.out 2).1
              go_wp2_with fail
              refine (rSays_any 12 (ep : Int) (m.ids : Int) va n0 vc W5).mono ?_
              rintro e w6 ⟨rfl, hb6⟩
              have HB6 := Lib.hid (HB.out.trans (hb6.mono HB.out.size))
              have HR6 := Lib.hid ((hb6.block (w.heap.size + 1) HN.out).trans HR.out)
              clear hb6 m0 m1 m2 k0
              go_wp2_with (first | ((with_reducible show wpList _ _ _ (⟨none, Op.store 88 _ _, _, _, _, _⟩ :: _) _ _); refine wpList_store_whole (by rfl) 88 (.tmp 6) (.tmp 66) (by rfl) (w.heap.size + 1) (by rfl) #[.int .u8 12, .int .u64 0, .string ⟨#[]⟩, .string ⟨#[]⟩, .int .u32 0, .int .u64 0, .int .i64 0, .int .i64 0, .slice va n0 vc, .int .u64 (ep : Int), .int .u64 (m.ids : Int), .bool false] (by rfl) _ 88 HR6.out (by rfl) (by kernel_rfl) (by simp [Value.oneCell']) ?_; intro w3 hr3 hg3 hs3) | ((with_reducible show bodyPost _ _ _ Exit.ret _ _); exact bodyPost_ret (v := .tuple #[.agg #[.int .u8 12, .int .u64 0, .string ⟨#[]⟩, .string ⟨#[]⟩, .int .u32 0, .int .u64 0, .int .i64 0, .int .i64 0, .slice va n0 vc, .int .u64 (ep : Int), .int .u64 (m.ids : Int), .bool false], .bool true]) (results_row_tmp rfl _ _ (w.heap.size + 1) _ _ _ _ (by rfl) hr3 Tryz.underlying88 rfl (by kernel_rfl) _ (by rfl)) rfl (rg_says (c := ⟨2, KY, V, F, X, ID, BY⟩) HGW.out (HM.out _ (below_grown HB6.out HB6.out.size hg3 (Nat.le_succ _))).row (below_grown HB6.out HB6.out.size hg3 (Nat.le_succ _)))) | fail)
            · skip
              have HGW := Lib.hid (show givesM m ⟨2, KY, V, F, X, ID, BY⟩ ep = some (hitG was ep) from HGS2.out.trans (by rfl))
              have m0 : W5.cell? ⟨s, 0, none⟩ = some (.slice va n0 vc) := (cells_at HS.out 0).1
              have m1 : W5.cell? ⟨s, 1, none⟩ = some (.int .u64 (ep : Int)) := (cells_at HS.out 1).1
              have m2 : W5.cell? ⟨s, 2, none⟩ = some (.int .u64 (m.ids : Int)) := (cells_at HS.out 2).1
              have x0 : W5.cell? ⟨q, 0, none⟩ = some (.string was.key) := (cells_at HI.out 0).1
              have x1 : W5.cell? ⟨q, 1, none⟩ = some (.string was.value) := (cells_at HI.out 1).1
              have x2 : W5.cell? ⟨q, 2, none⟩ = some (.int .u32 was.flags) := (cells_at HI.out 2).1
              have x3 : W5.cell? ⟨q, 3, none⟩ = some (.int .u64 was.id) := (cells_at HI.out 3).1
              have x4 : W5.cell? ⟨q, 4, none⟩ = some (.int .i64 was.dies) := (cells_at HI.out 4).1
              have x5 : W5.cell? ⟨q, 5, none⟩ = some (.int .i64 was.gen) := (cells_at HI.out 5).1
              have qa : ∀ W : World, (Instr.build 40 #[(0, .int .u8 11), (2, .agg #[.string was.key, .string was.value, .int .u32 was.flags, .int .u64 was.id, .int .i64 was.dies, .int .i64 was.gen])]).run Tryz.prog W = .ok (.agg #[.int .u8 11, .int .u64 0, .string was.key, .string was.value, .int .u32 was.flags, .int .u64 was.id, .int .i64 was.dies, .int .i64 was.gen]) W := fun W => by kernel_rfl
              have qg : ∀ W : World, (Instr.build 88 #[(0, .agg #[.int .u8 11, .int .u64 0, .string was.key, .string was.value, .int .u32 was.flags, .int .u64 was.id, .int .i64 was.dies, .int .i64 was.gen]), (1, .agg #[.slice va n0 vc, .int .u64 (ep : Int), .int .u64 (m.ids : Int)])]).run Tryz.prog W = .ok (.agg #[.int .u8 11, .int .u64 0, .string was.key, .string was.value, .int .u32 was.flags, .int .u64 was.id, .int .i64 was.dies, .int .i64 was.gen, .slice va n0 vc, .int .u64 (ep : Int), .int .u64 (m.ids : Int), .bool false]) W := fun W => by kernel_rfl
              go_wp2_with (first | ((with_reducible show wpList _ _ _ (⟨none, Op.store 88 _ _, _, _, _, _⟩ :: _) _ _); refine wpList_store_whole (by rfl) 88 (.tmp 6) (.tmp 63) (by rfl) (w.heap.size + 1) (by rfl) #[.int .u8 11, .int .u64 0, .string was.key, .string was.value, .int .u32 was.flags, .int .u64 was.id, .int .i64 was.dies, .int .i64 was.gen, .slice va n0 vc, .int .u64 (ep : Int), .int .u64 (m.ids : Int), .bool false] (by rfl) _ 88 HR.out (by rfl) (by kernel_rfl) (by simp [Value.oneCell']) ?_; intro w3 hr3 hg3 hs3) | ((with_reducible show bodyPost _ _ _ Exit.ret _ _); exact bodyPost_ret (v := .tuple #[.agg #[.int .u8 11, .int .u64 0, .string was.key, .string was.value, .int .u32 was.flags, .int .u64 was.id, .int .i64 was.dies, .int .i64 was.gen, .slice va n0 vc, .int .u64 (ep : Int), .int .u64 (m.ids : Int), .bool false], .bool true]) (results_row_tmp rfl _ _ (w.heap.size + 1) _ _ _ _ (by rfl) hr3 Tryz.underlying88 rfl (by kernel_rfl) _ (by rfl)) rfl (rg_hit (c := ⟨2, KY, V, F, X, ID, BY⟩) HGW.out (HM.out _ (below_grown HB.out HB.out.size hg3 (Nat.le_succ _))).row (below_grown HB.out HB.out.size hg3 (Nat.le_succ _)))) | fail)
          by_cases h3 : VB = 3
          · subst h3
            have HGW := Lib.hid (show givesM m ⟨3, KY, V, F, X, ID, BY⟩ ep = some (storesG ⟨3, KY, V, F, X, ID, BY⟩ ep (m.ids + 1)) from HGS2.out.trans (by rfl))
            have k1 : W5.cell? ⟨w.heap.size, 1, none⟩ = some (.string KY) := (cells_at HX.out 1).1
            have k2 : W5.cell? ⟨w.heap.size, 2, none⟩ = some (.string V) := (cells_at HX.out 2).1
            have k3 : W5.cell? ⟨w.heap.size, 3, none⟩ = some (.int .u32 F) := (cells_at HX.out 3).1
            have k4 : W5.cell? ⟨w.heap.size, 4, none⟩ = some (.int .i64 X) := (cells_at HX.out 4).1
            have k5 : W5.cell? ⟨w.heap.size, 5, none⟩ = some (.int .u64 ID) := (cells_at HX.out 5).1
            have k6 : W5.cell? ⟨w.heap.size, 6, none⟩ = some (.int .u64 BY) := (cells_at HX.out 6).1
            go_upto_region 37 with fail
            go_wp2_with fail
            refine (rStores_any (c := ⟨3, KY, V, F, X, ID, BY⟩) (has := has) (HM.out W5 HB.out) HFEW.out HE.out HX'.out HID.out).mono ?_
            rintro e w6 ⟨v6, rfl, hj⟩
            have hr6 : IRow w6 v6 (withoutL m.L KY ++ ([⟨KY, V, F, ((m.ids + 1 : Nat) : Int), diesE ep X, genE ep⟩] : List ItemD)) := hj.irow
            have hb6 := hj.low
            clear hj
            obtain ⟨a6, c6, hv6⟩ := Row.len hr6
            obtain ⟨n6, hn6⟩ : ∃ k, k = (withoutL m.L KY ++ ([⟨KY, V, F, ((m.ids + 1 : Nat) : Int), diesE ep X, genE ep⟩] : List ItemD)).length := ⟨_, rfl⟩
            rw [← hn6] at hv6
            subst hv6
            have HJR := Lib.hid hr6
            have HB6 := Lib.hid (HB.out.trans (hb6.mono HB.out.size))
            have HR6 := Lib.hid ((hb6.block (w.heap.size + 1) HN.out).trans HR.out)
            clear hb6 hr6 hn6 k0 k1 k2 k3 k4 k5 k6
            go_wp2_with (first | ((with_reducible show wpList _ _ _ (⟨none, Op.store 88 _ _, _, _, _, _⟩ :: _) _ _); refine wpList_store_whole (by rfl) 88 (.tmp 6) (.tmp 149) (by rfl) (w.heap.size + 1) (by rfl) #[.int .u8 1, .int .u64 ((m.ids + 1 : Nat) : Int), .string ⟨#[]⟩, .string ⟨#[]⟩, .int .u32 0, .int .u64 0, .int .i64 0, .int .i64 0, .slice a6 n6 c6, .int .u64 (ep : Int), .int .u64 ((m.ids + 1 : Nat) : Int), .bool (!has)] (by rfl) _ 88 HR6.out (by rfl) (by kernel_rfl) (by simp [Value.oneCell']) ?_; intro w3 hr3 hg3 hs3) | ((with_reducible show bodyPost _ _ _ Exit.ret _ _); exact bodyPost_ret (v := .tuple #[.agg #[.int .u8 1, .int .u64 ((m.ids + 1 : Nat) : Int), .string ⟨#[]⟩, .string ⟨#[]⟩, .int .u32 0, .int .u64 0, .int .i64 0, .int .i64 0, .slice a6 n6 c6, .int .u64 (ep : Int), .int .u64 ((m.ids + 1 : Nat) : Int), .bool (!has)], .bool true]) (results_row_tmp rfl _ _ (w.heap.size + 1) _ _ _ _ (by rfl) hr3 Tryz.underlying88 rfl (by kernel_rfl) _ (by rfl)) rfl (rg_stores (c := ⟨3, KY, V, F, X, ID, BY⟩) HHAS.out HGW.out (HJR.out.fin hg3 HR6.out) (below_grown HB6.out HB6.out.size hg3 (Nat.le_succ _)))) | fail)
          by_cases h4 : VB = 4
          · subst h4
            cases th
            · skip
              have HGW := Lib.hid (show givesM m ⟨4, KY, V, F, X, ID, BY⟩ ep = some (storesG ⟨4, KY, V, F, X, ID, BY⟩ ep (m.ids + 1)) from HGS2.out.trans (by rfl))
              have k1 : W5.cell? ⟨w.heap.size, 1, none⟩ = some (.string KY) := (cells_at HX.out 1).1
              have k2 : W5.cell? ⟨w.heap.size, 2, none⟩ = some (.string V) := (cells_at HX.out 2).1
              have k3 : W5.cell? ⟨w.heap.size, 3, none⟩ = some (.int .u32 F) := (cells_at HX.out 3).1
              have k4 : W5.cell? ⟨w.heap.size, 4, none⟩ = some (.int .i64 X) := (cells_at HX.out 4).1
              have k5 : W5.cell? ⟨w.heap.size, 5, none⟩ = some (.int .u64 ID) := (cells_at HX.out 5).1
              have k6 : W5.cell? ⟨w.heap.size, 6, none⟩ = some (.int .u64 BY) := (cells_at HX.out 6).1
              go_upto_region 37 with fail
              go_wp2_with fail
              refine (rStores_any (c := ⟨4, KY, V, F, X, ID, BY⟩) (has := has) (HM.out W5 HB.out) HFEW.out HE.out HX'.out HID.out).mono ?_
              rintro e w6 ⟨v6, rfl, hj⟩
              have hr6 : IRow w6 v6 (withoutL m.L KY ++ ([⟨KY, V, F, ((m.ids + 1 : Nat) : Int), diesE ep X, genE ep⟩] : List ItemD)) := hj.irow
              have hb6 := hj.low
              clear hj
              obtain ⟨a6, c6, hv6⟩ := Row.len hr6
              obtain ⟨n6, hn6⟩ : ∃ k, k = (withoutL m.L KY ++ ([⟨KY, V, F, ((m.ids + 1 : Nat) : Int), diesE ep X, genE ep⟩] : List ItemD)).length := ⟨_, rfl⟩
              rw [← hn6] at hv6
              subst hv6
              have HJR := Lib.hid hr6
              have HB6 := Lib.hid (HB.out.trans (hb6.mono HB.out.size))
              have HR6 := Lib.hid ((hb6.block (w.heap.size + 1) HN.out).trans HR.out)
              clear hb6 hr6 hn6 k0 k1 k2 k3 k4 k5 k6
              go_wp2_with (first | ((with_reducible show wpList _ _ _ (⟨none, Op.store 88 _ _, _, _, _, _⟩ :: _) _ _); refine wpList_store_whole (by rfl) 88 (.tmp 6) (.tmp 149) (by rfl) (w.heap.size + 1) (by rfl) #[.int .u8 1, .int .u64 ((m.ids + 1 : Nat) : Int), .string ⟨#[]⟩, .string ⟨#[]⟩, .int .u32 0, .int .u64 0, .int .i64 0, .int .i64 0, .slice a6 n6 c6, .int .u64 (ep : Int), .int .u64 ((m.ids + 1 : Nat) : Int), .bool (!has)] (by rfl) _ 88 HR6.out (by rfl) (by kernel_rfl) (by simp [Value.oneCell']) ?_; intro w3 hr3 hg3 hs3) | ((with_reducible show bodyPost _ _ _ Exit.ret _ _); exact bodyPost_ret (v := .tuple #[.agg #[.int .u8 1, .int .u64 ((m.ids + 1 : Nat) : Int), .string ⟨#[]⟩, .string ⟨#[]⟩, .int .u32 0, .int .u64 0, .int .i64 0, .int .i64 0, .slice a6 n6 c6, .int .u64 (ep : Int), .int .u64 ((m.ids + 1 : Nat) : Int), .bool (!has)], .bool true]) (results_row_tmp rfl _ _ (w.heap.size + 1) _ _ _ _ (by rfl) hr3 Tryz.underlying88 rfl (by kernel_rfl) _ (by rfl)) rfl (rg_stores (c := ⟨4, KY, V, F, X, ID, BY⟩) HHAS.out HGW.out (HJR.out.fin hg3 HR6.out) (below_grown HB6.out HB6.out.size hg3 (Nat.le_succ _)))) | fail)
            · skip
              have HGW := Lib.hid (show givesM m ⟨4, KY, V, F, X, ID, BY⟩ ep = some (saysG 2 ep) from HGS2.out.trans (by rfl))
              have m0 : W5.cell? ⟨s, 0, none⟩ = some (.slice va n0 vc) := (cells_at HS.out 0).1
              have m1 : W5.cell? ⟨s, 1, none⟩ = some (.int .u64 (ep : Int)) := (cells_at HS.out 1).1
              have m2 : W5.cell? ⟨s, 2, none⟩ = some (.int .u64 (m.ids : Int)) := (cells_at HS.out 2).1
              go_wp2_with fail
              refine (rSays_any 2 (ep : Int) (m.ids : Int) va n0 vc W5).mono ?_
              rintro e w6 ⟨rfl, hb6⟩
              have HB6 := Lib.hid (HB.out.trans (hb6.mono HB.out.size))
              have HR6 := Lib.hid ((hb6.block (w.heap.size + 1) HN.out).trans HR.out)
              clear hb6 m0 m1 m2 k0
              go_wp2_with (first | ((with_reducible show wpList _ _ _ (⟨none, Op.store 88 _ _, _, _, _, _⟩ :: _) _ _); refine wpList_store_whole (by rfl) 88 (.tmp 6) (.tmp 75) (by rfl) (w.heap.size + 1) (by rfl) #[.int .u8 2, .int .u64 0, .string ⟨#[]⟩, .string ⟨#[]⟩, .int .u32 0, .int .u64 0, .int .i64 0, .int .i64 0, .slice va n0 vc, .int .u64 (ep : Int), .int .u64 (m.ids : Int), .bool false] (by rfl) _ 88 HR6.out (by rfl) (by kernel_rfl) (by simp [Value.oneCell']) ?_; intro w3 hr3 hg3 hs3) | ((with_reducible show bodyPost _ _ _ Exit.ret _ _); exact bodyPost_ret (v := .tuple #[.agg #[.int .u8 2, .int .u64 0, .string ⟨#[]⟩, .string ⟨#[]⟩, .int .u32 0, .int .u64 0, .int .i64 0, .int .i64 0, .slice va n0 vc, .int .u64 (ep : Int), .int .u64 (m.ids : Int), .bool false], .bool true]) (results_row_tmp rfl _ _ (w.heap.size + 1) _ _ _ _ (by rfl) hr3 Tryz.underlying88 rfl (by kernel_rfl) _ (by rfl)) rfl (rg_says (c := ⟨4, KY, V, F, X, ID, BY⟩) HGW.out (HM.out _ (below_grown HB6.out HB6.out.size hg3 (Nat.le_succ _))).row (below_grown HB6.out HB6.out.size hg3 (Nat.le_succ _)))) | fail)
          by_cases h5 : VB = 5
          · subst h5
            cases th
            · skip
              have HGW := Lib.hid (show givesM m ⟨5, KY, V, F, X, ID, BY⟩ ep = some (saysG 2 ep) from HGS2.out.trans (by rfl))
              have m0 : W5.cell? ⟨s, 0, none⟩ = some (.slice va n0 vc) := (cells_at HS.out 0).1
              have m1 : W5.cell? ⟨s, 1, none⟩ = some (.int .u64 (ep : Int)) := (cells_at HS.out 1).1
              have m2 : W5.cell? ⟨s, 2, none⟩ = some (.int .u64 (m.ids : Int)) := (cells_at HS.out 2).1
              go_wp2_with fail
              refine (rSays_any 2 (ep : Int) (m.ids : Int) va n0 vc W5).mono ?_
              rintro e w6 ⟨rfl, hb6⟩
              have HB6 := Lib.hid (HB.out.trans (hb6.mono HB.out.size))
              have HR6 := Lib.hid ((hb6.block (w.heap.size + 1) HN.out).trans HR.out)
              clear hb6 m0 m1 m2 k0
              go_wp2_with (first | ((with_reducible show wpList _ _ _ (⟨none, Op.store 88 _ _, _, _, _, _⟩ :: _) _ _); refine wpList_store_whole (by rfl) 88 (.tmp 6) (.tmp 83) (by rfl) (w.heap.size + 1) (by rfl) #[.int .u8 2, .int .u64 0, .string ⟨#[]⟩, .string ⟨#[]⟩, .int .u32 0, .int .u64 0, .int .i64 0, .int .i64 0, .slice va n0 vc, .int .u64 (ep : Int), .int .u64 (m.ids : Int), .bool false] (by rfl) _ 88 HR6.out (by rfl) (by kernel_rfl) (by simp [Value.oneCell']) ?_; intro w3 hr3 hg3 hs3) | ((with_reducible show bodyPost _ _ _ Exit.ret _ _); exact bodyPost_ret (v := .tuple #[.agg #[.int .u8 2, .int .u64 0, .string ⟨#[]⟩, .string ⟨#[]⟩, .int .u32 0, .int .u64 0, .int .i64 0, .int .i64 0, .slice va n0 vc, .int .u64 (ep : Int), .int .u64 (m.ids : Int), .bool false], .bool true]) (results_row_tmp rfl _ _ (w.heap.size + 1) _ _ _ _ (by rfl) hr3 Tryz.underlying88 rfl (by kernel_rfl) _ (by rfl)) rfl (rg_says (c := ⟨5, KY, V, F, X, ID, BY⟩) HGW.out (HM.out _ (below_grown HB6.out HB6.out.size hg3 (Nat.le_succ _))).row (below_grown HB6.out HB6.out.size hg3 (Nat.le_succ _)))) | fail)
            · skip
              have HGW := Lib.hid (show givesM m ⟨5, KY, V, F, X, ID, BY⟩ ep = some (storesG ⟨5, KY, V, F, X, ID, BY⟩ ep (m.ids + 1)) from HGS2.out.trans (by rfl))
              have k1 : W5.cell? ⟨w.heap.size, 1, none⟩ = some (.string KY) := (cells_at HX.out 1).1
              have k2 : W5.cell? ⟨w.heap.size, 2, none⟩ = some (.string V) := (cells_at HX.out 2).1
              have k3 : W5.cell? ⟨w.heap.size, 3, none⟩ = some (.int .u32 F) := (cells_at HX.out 3).1
              have k4 : W5.cell? ⟨w.heap.size, 4, none⟩ = some (.int .i64 X) := (cells_at HX.out 4).1
              have k5 : W5.cell? ⟨w.heap.size, 5, none⟩ = some (.int .u64 ID) := (cells_at HX.out 5).1
              have k6 : W5.cell? ⟨w.heap.size, 6, none⟩ = some (.int .u64 BY) := (cells_at HX.out 6).1
              go_upto_region 37 with fail
              go_wp2_with fail
              refine (rStores_any (c := ⟨5, KY, V, F, X, ID, BY⟩) (has := has) (HM.out W5 HB.out) HFEW.out HE.out HX'.out HID.out).mono ?_
              rintro e w6 ⟨v6, rfl, hj⟩
              have hr6 : IRow w6 v6 (withoutL m.L KY ++ ([⟨KY, V, F, ((m.ids + 1 : Nat) : Int), diesE ep X, genE ep⟩] : List ItemD)) := hj.irow
              have hb6 := hj.low
              clear hj
              obtain ⟨a6, c6, hv6⟩ := Row.len hr6
              obtain ⟨n6, hn6⟩ : ∃ k, k = (withoutL m.L KY ++ ([⟨KY, V, F, ((m.ids + 1 : Nat) : Int), diesE ep X, genE ep⟩] : List ItemD)).length := ⟨_, rfl⟩
              rw [← hn6] at hv6
              subst hv6
              have HJR := Lib.hid hr6
              have HB6 := Lib.hid (HB.out.trans (hb6.mono HB.out.size))
              have HR6 := Lib.hid ((hb6.block (w.heap.size + 1) HN.out).trans HR.out)
              clear hb6 hr6 hn6 k0 k1 k2 k3 k4 k5 k6
              go_wp2_with (first | ((with_reducible show wpList _ _ _ (⟨none, Op.store 88 _ _, _, _, _, _⟩ :: _) _ _); refine wpList_store_whole (by rfl) 88 (.tmp 6) (.tmp 149) (by rfl) (w.heap.size + 1) (by rfl) #[.int .u8 1, .int .u64 ((m.ids + 1 : Nat) : Int), .string ⟨#[]⟩, .string ⟨#[]⟩, .int .u32 0, .int .u64 0, .int .i64 0, .int .i64 0, .slice a6 n6 c6, .int .u64 (ep : Int), .int .u64 ((m.ids + 1 : Nat) : Int), .bool (!has)] (by rfl) _ 88 HR6.out (by rfl) (by kernel_rfl) (by simp [Value.oneCell']) ?_; intro w3 hr3 hg3 hs3) | ((with_reducible show bodyPost _ _ _ Exit.ret _ _); exact bodyPost_ret (v := .tuple #[.agg #[.int .u8 1, .int .u64 ((m.ids + 1 : Nat) : Int), .string ⟨#[]⟩, .string ⟨#[]⟩, .int .u32 0, .int .u64 0, .int .i64 0, .int .i64 0, .slice a6 n6 c6, .int .u64 (ep : Int), .int .u64 ((m.ids + 1 : Nat) : Int), .bool (!has)], .bool true]) (results_row_tmp rfl _ _ (w.heap.size + 1) _ _ _ _ (by rfl) hr3 Tryz.underlying88 rfl (by kernel_rfl) _ (by rfl)) rfl (rg_stores (c := ⟨5, KY, V, F, X, ID, BY⟩) HHAS.out HGW.out (HJR.out.fin hg3 HR6.out) (below_grown HB6.out HB6.out.size hg3 (Nat.le_succ _)))) | fail)
          by_cases h6 : VB = 6
          · subst h6
            cases th
            · skip
              have HGW := Lib.hid (show givesM m ⟨6, KY, V, F, X, ID, BY⟩ ep = some (saysG 4 ep) from HGS2.out.trans (by rfl))
              have m0 : W5.cell? ⟨s, 0, none⟩ = some (.slice va n0 vc) := (cells_at HS.out 0).1
              have m1 : W5.cell? ⟨s, 1, none⟩ = some (.int .u64 (ep : Int)) := (cells_at HS.out 1).1
              have m2 : W5.cell? ⟨s, 2, none⟩ = some (.int .u64 (m.ids : Int)) := (cells_at HS.out 2).1
              go_wp2_with fail
              refine (rSays_any 4 (ep : Int) (m.ids : Int) va n0 vc W5).mono ?_
              rintro e w6 ⟨rfl, hb6⟩
              have HB6 := Lib.hid (HB.out.trans (hb6.mono HB.out.size))
              have HR6 := Lib.hid ((hb6.block (w.heap.size + 1) HN.out).trans HR.out)
              clear hb6 m0 m1 m2 k0
              go_wp2_with (first | ((with_reducible show wpList _ _ _ (⟨none, Op.store 88 _ _, _, _, _, _⟩ :: _) _ _); refine wpList_store_whole (by rfl) 88 (.tmp 6) (.tmp 91) (by rfl) (w.heap.size + 1) (by rfl) #[.int .u8 4, .int .u64 0, .string ⟨#[]⟩, .string ⟨#[]⟩, .int .u32 0, .int .u64 0, .int .i64 0, .int .i64 0, .slice va n0 vc, .int .u64 (ep : Int), .int .u64 (m.ids : Int), .bool false] (by rfl) _ 88 HR6.out (by rfl) (by kernel_rfl) (by simp [Value.oneCell']) ?_; intro w3 hr3 hg3 hs3) | ((with_reducible show bodyPost _ _ _ Exit.ret _ _); exact bodyPost_ret (v := .tuple #[.agg #[.int .u8 4, .int .u64 0, .string ⟨#[]⟩, .string ⟨#[]⟩, .int .u32 0, .int .u64 0, .int .i64 0, .int .i64 0, .slice va n0 vc, .int .u64 (ep : Int), .int .u64 (m.ids : Int), .bool false], .bool true]) (results_row_tmp rfl _ _ (w.heap.size + 1) _ _ _ _ (by rfl) hr3 Tryz.underlying88 rfl (by kernel_rfl) _ (by rfl)) rfl (rg_says (c := ⟨6, KY, V, F, X, ID, BY⟩) HGW.out (HM.out _ (below_grown HB6.out HB6.out.size hg3 (Nat.le_succ _))).row (below_grown HB6.out HB6.out.size hg3 (Nat.le_succ _)))) | fail)
            · have y3 : W5.cell? ⟨q, 3, none⟩ = some (.int .u64 was.id) := (cells_at HI.out 3).1
              have z5 : W5.cell? ⟨w.heap.size, 5, none⟩ = some (.int .u64 ID) := (cells_at HX.out 5).1
              by_cases hi : was.id = ID
              · have hne : (was.id != ID) = false := by rw [hi]; simp
                have HII := Lib.hid hi
                clear hi
                have HGW := Lib.hid (show givesM m ⟨6, KY, V, F, X, ID, BY⟩ ep = some (storesG ⟨6, KY, V, F, X, ID, BY⟩ ep (m.ids + 1)) from HGS2.out.trans (by show some (casG ⟨6, KY, V, F, X, ID, BY⟩ ep (m.ids + 1) was true) = _; unfold casG; rw [if_pos rfl, if_pos HII.out]))
                have k1 : W5.cell? ⟨w.heap.size, 1, none⟩ = some (.string KY) := (cells_at HX.out 1).1
                have k2 : W5.cell? ⟨w.heap.size, 2, none⟩ = some (.string V) := (cells_at HX.out 2).1
                have k3 : W5.cell? ⟨w.heap.size, 3, none⟩ = some (.int .u32 F) := (cells_at HX.out 3).1
                have k4 : W5.cell? ⟨w.heap.size, 4, none⟩ = some (.int .i64 X) := (cells_at HX.out 4).1
                have k5 : W5.cell? ⟨w.heap.size, 5, none⟩ = some (.int .u64 ID) := (cells_at HX.out 5).1
                have k6 : W5.cell? ⟨w.heap.size, 6, none⟩ = some (.int .u64 BY) := (cells_at HX.out 6).1
                go_upto_region 37 with fail
                go_wp2_with fail
                refine (rStores_any (c := ⟨6, KY, V, F, X, ID, BY⟩) (has := has) (HM.out W5 HB.out) HFEW.out HE.out HX'.out HID.out).mono ?_
                rintro e w6 ⟨v6, rfl, hj⟩
                have hr6 : IRow w6 v6 (withoutL m.L KY ++ ([⟨KY, V, F, ((m.ids + 1 : Nat) : Int), diesE ep X, genE ep⟩] : List ItemD)) := hj.irow
                have hb6 := hj.low
                clear hj
                obtain ⟨a6, c6, hv6⟩ := Row.len hr6
                obtain ⟨n6, hn6⟩ : ∃ k, k = (withoutL m.L KY ++ ([⟨KY, V, F, ((m.ids + 1 : Nat) : Int), diesE ep X, genE ep⟩] : List ItemD)).length := ⟨_, rfl⟩
                rw [← hn6] at hv6
                subst hv6
                have HJR := Lib.hid hr6
                have HB6 := Lib.hid (HB.out.trans (hb6.mono HB.out.size))
                have HR6 := Lib.hid ((hb6.block (w.heap.size + 1) HN.out).trans HR.out)
                clear hb6 hr6 hn6 k0 k1 k2 k3 k4 k5 k6 y3 z5 hne
                go_wp2_with (first | ((with_reducible show wpList _ _ _ (⟨none, Op.store 88 _ _, _, _, _, _⟩ :: _) _ _); refine wpList_store_whole (by rfl) 88 (.tmp 6) (.tmp 149) (by rfl) (w.heap.size + 1) (by rfl) #[.int .u8 1, .int .u64 ((m.ids + 1 : Nat) : Int), .string ⟨#[]⟩, .string ⟨#[]⟩, .int .u32 0, .int .u64 0, .int .i64 0, .int .i64 0, .slice a6 n6 c6, .int .u64 (ep : Int), .int .u64 ((m.ids + 1 : Nat) : Int), .bool (!has)] (by rfl) _ 88 HR6.out (by rfl) (by kernel_rfl) (by simp [Value.oneCell']) ?_; intro w3 hr3 hg3 hs3) | ((with_reducible show bodyPost _ _ _ Exit.ret _ _); exact bodyPost_ret (v := .tuple #[.agg #[.int .u8 1, .int .u64 ((m.ids + 1 : Nat) : Int), .string ⟨#[]⟩, .string ⟨#[]⟩, .int .u32 0, .int .u64 0, .int .i64 0, .int .i64 0, .slice a6 n6 c6, .int .u64 (ep : Int), .int .u64 ((m.ids + 1 : Nat) : Int), .bool (!has)], .bool true]) (results_row_tmp rfl _ _ (w.heap.size + 1) _ _ _ _ (by rfl) hr3 Tryz.underlying88 rfl (by kernel_rfl) _ (by rfl)) rfl (rg_stores (c := ⟨6, KY, V, F, X, ID, BY⟩) HHAS.out HGW.out (HJR.out.fin hg3 HR6.out) (below_grown HB6.out HB6.out.size hg3 (Nat.le_succ _)))) | fail)
              · have hne : (was.id != ID) = true := bne_iff_ne.2 hi
                have HII := Lib.hid hi
                clear hi
                have HGW := Lib.hid (show givesM m ⟨6, KY, V, F, X, ID, BY⟩ ep = some (saysG 3 ep) from HGS2.out.trans (by show some (casG ⟨6, KY, V, F, X, ID, BY⟩ ep (m.ids + 1) was true) = _; unfold casG; rw [if_pos rfl, if_neg HII.out]))
                have m0 : W5.cell? ⟨s, 0, none⟩ = some (.slice va n0 vc) := (cells_at HS.out 0).1
                have m1 : W5.cell? ⟨s, 1, none⟩ = some (.int .u64 (ep : Int)) := (cells_at HS.out 1).1
                have m2 : W5.cell? ⟨s, 2, none⟩ = some (.int .u64 (m.ids : Int)) := (cells_at HS.out 2).1
                go_wp2_with fail
                refine (rSays_any 3 (ep : Int) (m.ids : Int) va n0 vc W5).mono ?_
                rintro e w6 ⟨rfl, hb6⟩
                have HB6 := Lib.hid (HB.out.trans (hb6.mono HB.out.size))
                have HR6 := Lib.hid ((hb6.block (w.heap.size + 1) HN.out).trans HR.out)
                clear hb6 m0 m1 m2 k0 y3 z5 hne
                go_wp2_with (first | ((with_reducible show wpList _ _ _ (⟨none, Op.store 88 _ _, _, _, _, _⟩ :: _) _ _); refine wpList_store_whole (by rfl) 88 (.tmp 6) (.tmp 100) (by rfl) (w.heap.size + 1) (by rfl) #[.int .u8 3, .int .u64 0, .string ⟨#[]⟩, .string ⟨#[]⟩, .int .u32 0, .int .u64 0, .int .i64 0, .int .i64 0, .slice va n0 vc, .int .u64 (ep : Int), .int .u64 (m.ids : Int), .bool false] (by rfl) _ 88 HR6.out (by rfl) (by kernel_rfl) (by simp [Value.oneCell']) ?_; intro w3 hr3 hg3 hs3) | ((with_reducible show bodyPost _ _ _ Exit.ret _ _); exact bodyPost_ret (v := .tuple #[.agg #[.int .u8 3, .int .u64 0, .string ⟨#[]⟩, .string ⟨#[]⟩, .int .u32 0, .int .u64 0, .int .i64 0, .int .i64 0, .slice va n0 vc, .int .u64 (ep : Int), .int .u64 (m.ids : Int), .bool false], .bool true]) (results_row_tmp rfl _ _ (w.heap.size + 1) _ _ _ _ (by rfl) hr3 Tryz.underlying88 rfl (by kernel_rfl) _ (by rfl)) rfl (rg_says (c := ⟨6, KY, V, F, X, ID, BY⟩) HGW.out (HM.out _ (below_grown HB6.out HB6.out.size hg3 (Nat.le_succ _))).row (below_grown HB6.out HB6.out.size hg3 (Nat.le_succ _)))) | fail)
          by_cases h11 : VB = 11
          · subst h11
            have k4 : W5.cell? ⟨w.heap.size, 4, none⟩ = some (.int .i64 X) := (cells_at HX.out 4).1
            have hfl := rFlush_any ep HE.out X HX'.out W5
            obtain ⟨⟨f, fok⟩, hf⟩ : ∃ y, y = flushE ep X := ⟨_, rfl⟩
            rw [← hf] at hfl
            have HFL := Lib.hid hf
            have HFC := Lib.hid hfl
            clear hf hfl
            go_upto_region 26 with fail
            go_wp2_with fail
            refine HFC.out.mono ?_
            rintro e w6 ⟨rfl, rfl⟩
            clear HFC
            simp only
            cases fok
            · skip
              have HGW := Lib.hid (show givesM m ⟨11, KY, V, F, X, ID, BY⟩ ep = some (saysG 5 ep) from HGS2.out.trans (by show some (flushG ⟨11, KY, V, F, X, ID, BY⟩ ep) = _; unfold flushG; rw [show flushE ep (CallD.exp ⟨11, KY, V, F, X, ID, BY⟩) = (f, false) from HFL.out.symm]; rfl))
              have m0 : W5.cell? ⟨s, 0, none⟩ = some (.slice va n0 vc) := (cells_at HS.out 0).1
              have m1 : W5.cell? ⟨s, 1, none⟩ = some (.int .u64 (ep : Int)) := (cells_at HS.out 1).1
              have m2 : W5.cell? ⟨s, 2, none⟩ = some (.int .u64 (m.ids : Int)) := (cells_at HS.out 2).1
              go_wp2_with fail
              refine (rSays_any 5 (ep : Int) (m.ids : Int) va n0 vc W5).mono ?_
              rintro e w6 ⟨rfl, hb6⟩
              have HB6 := Lib.hid (HB.out.trans (hb6.mono HB.out.size))
              have HR6 := Lib.hid ((hb6.block (w.heap.size + 1) HN.out).trans HR.out)
              clear hb6 m0 m1 m2 k0 k4
              go_wp2_with (first | ((with_reducible show wpList _ _ _ (⟨none, Op.store 88 _ _, _, _, _, _⟩ :: _) _ _); refine wpList_store_whole (by rfl) 88 (.tmp 6) (.tmp 115) (by rfl) (w.heap.size + 1) (by rfl) #[.int .u8 5, .int .u64 0, .string ⟨#[]⟩, .string ⟨#[]⟩, .int .u32 0, .int .u64 0, .int .i64 0, .int .i64 0, .slice va n0 vc, .int .u64 (ep : Int), .int .u64 (m.ids : Int), .bool false] (by rfl) _ 88 HR6.out (by rfl) (by kernel_rfl) (by simp [Value.oneCell']) ?_; intro w3 hr3 hg3 hs3) | ((with_reducible show bodyPost _ _ _ Exit.ret _ _); exact bodyPost_ret (v := .tuple #[.agg #[.int .u8 5, .int .u64 0, .string ⟨#[]⟩, .string ⟨#[]⟩, .int .u32 0, .int .u64 0, .int .i64 0, .int .i64 0, .slice va n0 vc, .int .u64 (ep : Int), .int .u64 (m.ids : Int), .bool false], .bool true]) (results_row_tmp rfl _ _ (w.heap.size + 1) _ _ _ _ (by rfl) hr3 Tryz.underlying88 rfl (by kernel_rfl) _ (by rfl)) rfl (rg_says (c := ⟨11, KY, V, F, X, ID, BY⟩) HGW.out (HM.out _ (below_grown HB6.out HB6.out.size hg3 (Nat.le_succ _))).row (below_grown HB6.out HB6.out.size hg3 (Nat.le_succ _)))) | fail)
            · have HGW := Lib.hid (show givesM m ⟨11, KY, V, F, X, ID, BY⟩ ep = some (flushG ⟨11, KY, V, F, X, ID, BY⟩ ep) from HGS2.out.trans (by rfl))
              have qa : ∀ W : World, (Instr.build 40 #[(0, .int .u8 10)]).run Tryz.prog W = .ok (.agg #[.int .u8 10, .int .u64 0, .string ⟨#[]⟩, .string ⟨#[]⟩, .int .u32 0, .int .u64 0, .int .i64 0, .int .i64 0]) W := fun W => by kernel_rfl
              have qg : ∀ W : World, (Instr.build 88 #[(0, .agg #[.int .u8 10, .int .u64 0, .string ⟨#[]⟩, .string ⟨#[]⟩, .int .u32 0, .int .u64 0, .int .i64 0, .int .i64 0]), (1, .agg #[.slice va n0 vc, .int .u64 (f : Int), .int .u64 (m.ids : Int)])]).run Tryz.prog W = .ok (.agg #[.int .u8 10, .int .u64 0, .string ⟨#[]⟩, .string ⟨#[]⟩, .int .u32 0, .int .u64 0, .int .i64 0, .int .i64 0, .slice va n0 vc, .int .u64 (f : Int), .int .u64 (m.ids : Int), .bool false]) W := fun W => by kernel_rfl
              go_upto_region 29 with fail
              clear k0 k4
              refine wp_region_held_drew (S := fun W => Below w.heap.size w W) (by kernel_rfl) (bdrew HB.out) (fun hHeld => ?_)
              refine tkq (i := 0) (v := ?_) rfl (by kernel_rfl) (fun _ _ _ h => h) (by rfl) ?_ (by assumption) ?_
              rotate_left 1
              · ((intro w hSw; (try dsimp only at hSw); go_simp) <;> with_reducible rfl)
              try simp only [Act.put, tzA, tzB, tzC, tzD, tzE]
              refine tkq (i := 1) (v := ?_) rfl (by kernel_rfl) (fun _ _ _ h => h) (by rfl) ?_ (by assumption) ?_
              rotate_left 1
              · ((intro w hSw; (try dsimp only at hSw); go_simp) <;> with_reducible rfl)
              try simp only [Act.put, tzA, tzB, tzC, tzD, tzE, tzF]
              refine tkq (i := 2) (v := ?_) rfl (by kernel_rfl) (fun _ _ _ h => h) (by rfl) ?_ (by assumption) ?_
              rotate_left 1
              · ((intro w hSw; (try dsimp only at hSw); go_simp) <;> with_reducible rfl)
              try simp only [Act.put, tzA, tzB, tzC, tzD, tzE, tzF]
              refine tkq (i := 3) (v := ?_) rfl (by kernel_rfl) (fun _ _ _ h => h) (by rfl) ?_ (by assumption) ?_
              rotate_left 1
              · ((intro w hSw; (try dsimp only at hSw); go_simp) <;> with_reducible rfl)
              try simp only [Act.put, tzA, tzB, tzC, tzD, tzE, tzF]
              refine tkq (i := 4) (v := ?_) rfl (by kernel_rfl) (fun _ _ _ h => h) (by rfl) ?_ (by assumption) ?_
              rotate_left 1
              · ((intro w hSw; (try dsimp only at hSw); have c0 := (cells_at (HM.out _ hSw).box 0).1; go_simp) <;> with_reducible rfl)
              try simp only [Act.put, tzA, tzB, tzC, tzD, tzE, tzF]
              refine tkq (i := 5) (v := ?_) rfl (by kernel_rfl) (fun _ _ _ h => h) (by rfl) ?_ (by assumption) ?_
              rotate_left 1
              · ((intro w hSw; (try dsimp only at hSw); go_simp) <;> with_reducible rfl)
              try simp only [Act.put, tzA, tzB, tzC, tzD, tzE, tzF]
              refine tkq (i := 6) (v := ?_) rfl (by kernel_rfl) (fun _ _ _ h => h) (by rfl) ?_ (by assumption) ?_
              rotate_left 1
              · ((intro w hSw; (try dsimp only at hSw); go_simp) <;> with_reducible rfl)
              try simp only [Act.put, tzA, tzB, tzC, tzD, tzE, tzF]
              refine tkq (i := 7) (v := ?_) rfl (by kernel_rfl) (fun _ _ _ h => h) (by rfl) ?_ (by assumption) ?_
              rotate_left 1
              · ((intro w hSw; (try dsimp only at hSw); go_simp) <;> with_reducible rfl)
              try simp only [Act.put, tzA, tzB, tzC, tzD, tzE, tzF]
              refine tkq (i := 8) (v := ?_) rfl (by kernel_rfl) (fun _ _ _ h => h) (by rfl) ?_ (by assumption) ?_
              rotate_left 1
              · ((intro w hSw; (try dsimp only at hSw); go_simp) <;> with_reducible rfl)
              try simp only [Act.put, tzA, tzB, tzC, tzD, tzE, tzF]
              refine tkq (i := 9) (v := ?_) rfl (by kernel_rfl) (fun _ _ _ h => h) (by rfl) ?_ (by assumption) ?_
              rotate_left 1
              · ((intro w hSw; (try dsimp only at hSw); have c2 := (cells_at (HM.out _ hSw).box 2).1; go_simp) <;> with_reducible rfl)
              try simp only [Act.put, tzA, tzB, tzC, tzD, tzE, tzF]
              refine tkq (i := 10) (v := ?_) rfl (by kernel_rfl) (fun _ _ _ h => h) (by rfl) ?_ (by assumption) ?_
              rotate_left 1
              · ((intro w hSw; (try dsimp only at hSw); go_simp) <;> with_reducible rfl)
              try simp only [Act.put, tzA, tzB, tzC, tzD, tzE, tzF]
              refine tkq (i := 11) (v := ?_) rfl (by kernel_rfl) (fun _ _ _ h => h) (by rfl) ?_ (by assumption) ?_
              rotate_left 1
              · ((intro w hSw; (try dsimp only at hSw); go_simp) <;> with_reducible rfl)
              try simp only [Act.put, tzA, tzB, tzC, tzD, tzE, tzF]
              refine wpAnyH_ready (rs := [12]) (by kernel_rfl) (by simp) ?_
              refine (AllReadyH.cons rfl (fun K hK => ?_) AllReadyH.nil)
              rw [if_pos (by rfl)]
              refine wp_store_mid 88 (.tmp 6) (.tmp 128) (by rfl) (w.heap.size + 1) 0 #[.int .u8 10, .int .u64 0, .string ⟨#[]⟩, .string ⟨#[]⟩, .int .u32 0, .int .u64 0, .int .i64 0, .int .i64 0, .slice va n0 vc, .int .u64 (f : Int), .int .u64 (m.ids : Int), .bool false] (by rfl) (by rfl) (by have h := there_block (w := W5.drew) HR.out; exact h) (by kernel_rfl) (by simp [Value.oneCell']) ?_
              have hr3 := setCells_whole (w := W5.drew) (cells := #[.int .u8 10, .int .u64 0, .string ⟨#[]⟩, .string ⟨#[]⟩, .int .u32 0, .int .u64 0, .int .i64 0, .int .i64 0, .slice va n0 vc, .int .u64 (f : Int), .int .u64 (m.ids : Int), .bool false]) HR.out (by rfl)
              have HBF := Lib.hid (below_grown (bdrew HB.out) HB.out.size (setCells_grown #[.int .u8 10, .int .u64 0, .string ⟨#[]⟩, .string ⟨#[]⟩, .int .u32 0, .int .u64 0, .int .i64 0, .int .i64 0, .slice va n0 vc, .int .u64 (f : Int), .int .u64 (m.ids : Int), .bool false].toList 0 W5.drew (w.heap.size + 1)).1 (Nat.le_succ _))
              have HQ := Lib.hid hr3
              clear hr3
              refine hK.out _ _ HBF.out (fun hHeld2 => ?_)
              clear hK K
              try simp only [Act.put, tzD, tzE, tzF]
              refine tkq (i := 13) (v := ?_) rfl (by kernel_rfl) (fun _ _ _ h => h) (by rfl) ?_ (by assumption) ?_
              rotate_left 1
              · ((intro w hSw; (try dsimp only at hSw); go_simp) <;> with_reducible rfl)
              try simp only [Act.put, tzA, tzB, tzC, tzD, tzE, tzF]
              refine wpAnyH_done (by kernel_rfl) ?_ _
              clear hHeld2
              have hr3 := HQ.out
              go_wp2_with (first | ((with_reducible show bodyPost _ _ _ Exit.ret _ _); exact bodyPost_ret (v := .tuple #[.agg #[.int .u8 10, .int .u64 0, .string ⟨#[]⟩, .string ⟨#[]⟩, .int .u32 0, .int .u64 0, .int .i64 0, .int .i64 0, .slice va n0 vc, .int .u64 (f : Int), .int .u64 (m.ids : Int), .bool false], .bool true]) (results_row_tmp rfl _ _ (w.heap.size + 1) _ _ _ _ (by rfl) hr3 Tryz.underlying88 rfl (by kernel_rfl) _ (by rfl)) rfl (rg_flush (c := ⟨11, KY, V, F, X, ID, BY⟩) HFL.out.symm HGW.out (HM.out _ HBF.out).row HBF.out)) | fail)
          by_cases h7 : VB = 7
          · subst h7
            cases th
            · skip
              have HGW := Lib.hid (show givesM m ⟨7, KY, V, F, X, ID, BY⟩ ep = some (saysG 4 ep) from HGS2.out.trans (by rfl))
              have m0 : W5.cell? ⟨s, 0, none⟩ = some (.slice va n0 vc) := (cells_at HS.out 0).1
              have m1 : W5.cell? ⟨s, 1, none⟩ = some (.int .u64 (ep : Int)) := (cells_at HS.out 1).1
              have m2 : W5.cell? ⟨s, 2, none⟩ = some (.int .u64 (m.ids : Int)) := (cells_at HS.out 2).1
              go_wp2_with fail
              refine (rSays_any 4 (ep : Int) (m.ids : Int) va n0 vc W5).mono ?_
              rintro e w6 ⟨rfl, hb6⟩
              have HB6 := Lib.hid (HB.out.trans (hb6.mono HB.out.size))
              have HR6 := Lib.hid ((hb6.block (w.heap.size + 1) HN.out).trans HR.out)
              clear hb6 m0 m1 m2 k0
              go_wp2_with (first | ((with_reducible show wpList _ _ _ (⟨none, Op.store 88 _ _, _, _, _, _⟩ :: _) _ _); refine wpList_store_whole (by rfl) 88 (.tmp 6) (.tmp 138) (by rfl) (w.heap.size + 1) (by rfl) #[.int .u8 4, .int .u64 0, .string ⟨#[]⟩, .string ⟨#[]⟩, .int .u32 0, .int .u64 0, .int .i64 0, .int .i64 0, .slice va n0 vc, .int .u64 (ep : Int), .int .u64 (m.ids : Int), .bool false] (by rfl) _ 88 HR6.out (by rfl) (by kernel_rfl) (by simp [Value.oneCell']) ?_; intro w3 hr3 hg3 hs3) | ((with_reducible show bodyPost _ _ _ Exit.ret _ _); exact bodyPost_ret (v := .tuple #[.agg #[.int .u8 4, .int .u64 0, .string ⟨#[]⟩, .string ⟨#[]⟩, .int .u32 0, .int .u64 0, .int .i64 0, .int .i64 0, .slice va n0 vc, .int .u64 (ep : Int), .int .u64 (m.ids : Int), .bool false], .bool true]) (results_row_tmp rfl _ _ (w.heap.size + 1) _ _ _ _ (by rfl) hr3 Tryz.underlying88 rfl (by kernel_rfl) _ (by rfl)) rfl (rg_says (c := ⟨7, KY, V, F, X, ID, BY⟩) HGW.out (HM.out _ (below_grown HB6.out HB6.out.size hg3 (Nat.le_succ _))).row (below_grown HB6.out HB6.out.size hg3 (Nat.le_succ _)))) | fail)
            · skip
              have HGW := Lib.hid (show givesM m ⟨7, KY, V, F, X, ID, BY⟩ ep = some (goneG ep) from HGS2.out.trans (by rfl))
              have k1 : W5.cell? ⟨w.heap.size, 1, none⟩ = some (.string KY) := (cells_at HX.out 1).1
              have k2 : W5.cell? ⟨w.heap.size, 2, none⟩ = some (.string V) := (cells_at HX.out 2).1
              have k3 : W5.cell? ⟨w.heap.size, 3, none⟩ = some (.int .u32 F) := (cells_at HX.out 3).1
              have k4 : W5.cell? ⟨w.heap.size, 4, none⟩ = some (.int .i64 X) := (cells_at HX.out 4).1
              have k5 : W5.cell? ⟨w.heap.size, 5, none⟩ = some (.int .u64 ID) := (cells_at HX.out 5).1
              have k6 : W5.cell? ⟨w.heap.size, 6, none⟩ = some (.int .u64 BY) := (cells_at HX.out 6).1
              have x0 : W5.cell? ⟨q, 0, none⟩ = some (.string was.key) := (cells_at HI.out 0).1
              have x1 : W5.cell? ⟨q, 1, none⟩ = some (.string was.value) := (cells_at HI.out 1).1
              have x2 : W5.cell? ⟨q, 2, none⟩ = some (.int .u32 was.flags) := (cells_at HI.out 2).1
              have x3 : W5.cell? ⟨q, 3, none⟩ = some (.int .u64 was.id) := (cells_at HI.out 3).1
              have x4 : W5.cell? ⟨q, 4, none⟩ = some (.int .i64 was.dies) := (cells_at HI.out 4).1
              have x5 : W5.cell? ⟨q, 5, none⟩ = some (.int .i64 was.gen) := (cells_at HI.out 5).1
              go_upto_region 36 with fail
              go_wp2_with fail
              refine (rGone_any (KY := KY) (V := V) (F := F) (X := X) (ID := ID) (BY := BY) (was := was) (HM.out W5 HB.out) HFEW.out).mono ?_
              rintro e w6 ⟨v6, rfl, hr6, hb6⟩
              obtain ⟨a6, c6, hv6⟩ := Row.len hr6
              obtain ⟨n6, hn6⟩ : ∃ k, k = (withoutL m.L KY).length := ⟨_, rfl⟩
              rw [← hn6] at hv6
              subst hv6
              have HJR := Lib.hid hr6
              have HB6 := Lib.hid (HB.out.trans (hb6.mono HB.out.size))
              have HR6 := Lib.hid ((hb6.block (w.heap.size + 1) HN.out).trans HR.out)
              clear hb6 hr6 hn6 k0 k1 k2 k3 k4 k5 k6 x0 x1 x2 x3 x4 x5
              go_wp2_with (first | ((with_reducible show wpList _ _ _ (⟨none, Op.store 88 _ _, _, _, _, _⟩ :: _) _ _); refine wpList_store_whole (by rfl) 88 (.tmp 6) (.tmp 144) (by rfl) (w.heap.size + 1) (by rfl) #[.int .u8 6, .int .u64 0, .string ⟨#[]⟩, .string ⟨#[]⟩, .int .u32 0, .int .u64 0, .int .i64 0, .int .i64 0, .slice a6 n6 c6, .int .u64 (ep : Int), .int .u64 (m.ids : Int), .bool false] (by rfl) _ 88 HR6.out (by rfl) (by kernel_rfl) (by simp [Value.oneCell']) ?_; intro w3 hr3 hg3 hs3) | ((with_reducible show bodyPost _ _ _ Exit.ret _ _); exact bodyPost_ret (v := .tuple #[.agg #[.int .u8 6, .int .u64 0, .string ⟨#[]⟩, .string ⟨#[]⟩, .int .u32 0, .int .u64 0, .int .i64 0, .int .i64 0, .slice a6 n6 c6, .int .u64 (ep : Int), .int .u64 (m.ids : Int), .bool false], .bool true]) (results_row_tmp rfl _ _ (w.heap.size + 1) _ _ _ _ (by rfl) hr3 Tryz.underlying88 rfl (by kernel_rfl) _ (by rfl)) rfl (rg_gone (c := ⟨7, KY, V, F, X, ID, BY⟩) HGW.out (HJR.out.fin hg3 HR6.out) (below_grown HB6.out HB6.out.size hg3 (Nat.le_succ _)))) | fail)
          by_cases h8 : VB = 8
          · subst h8
            cases th
            · skip
              have HGW := Lib.hid (show givesM m ⟨8, KY, V, F, X, ID, BY⟩ ep = some (saysG 4 ep) from HGS2.out.trans (by rfl))
              have m0 : W5.cell? ⟨s, 0, none⟩ = some (.slice va n0 vc) := (cells_at HS.out 0).1
              have m1 : W5.cell? ⟨s, 1, none⟩ = some (.int .u64 (ep : Int)) := (cells_at HS.out 1).1
              have m2 : W5.cell? ⟨s, 2, none⟩ = some (.int .u64 (m.ids : Int)) := (cells_at HS.out 2).1
              go_wp2_with fail
              refine (rSays_any 4 (ep : Int) (m.ids : Int) va n0 vc W5).mono ?_
              rintro e w6 ⟨rfl, hb6⟩
              have HB6 := Lib.hid (HB.out.trans (hb6.mono HB.out.size))
              have HR6 := Lib.hid ((hb6.block (w.heap.size + 1) HN.out).trans HR.out)
              clear hb6 m0 m1 m2 k0
              go_wp2_with (first | ((with_reducible show wpList _ _ _ (⟨none, Op.store 88 _ _, _, _, _, _⟩ :: _) _ _); refine wpList_store_whole (by rfl) 88 (.tmp 6) (.tmp 138) (by rfl) (w.heap.size + 1) (by rfl) #[.int .u8 4, .int .u64 0, .string ⟨#[]⟩, .string ⟨#[]⟩, .int .u32 0, .int .u64 0, .int .i64 0, .int .i64 0, .slice va n0 vc, .int .u64 (ep : Int), .int .u64 (m.ids : Int), .bool false] (by rfl) _ 88 HR6.out (by rfl) (by kernel_rfl) (by simp [Value.oneCell']) ?_; intro w3 hr3 hg3 hs3) | ((with_reducible show bodyPost _ _ _ Exit.ret _ _); exact bodyPost_ret (v := .tuple #[.agg #[.int .u8 4, .int .u64 0, .string ⟨#[]⟩, .string ⟨#[]⟩, .int .u32 0, .int .u64 0, .int .i64 0, .int .i64 0, .slice va n0 vc, .int .u64 (ep : Int), .int .u64 (m.ids : Int), .bool false], .bool true]) (results_row_tmp rfl _ _ (w.heap.size + 1) _ _ _ _ (by rfl) hr3 Tryz.underlying88 rfl (by kernel_rfl) _ (by rfl)) rfl (rg_says (c := ⟨8, KY, V, F, X, ID, BY⟩) HGW.out (HM.out _ (below_grown HB6.out HB6.out.size hg3 (Nat.le_succ _))).row (below_grown HB6.out HB6.out.size hg3 (Nat.le_succ _)))) | fail)
            · skip
              have HGW := Lib.hid (show givesM m ⟨8, KY, V, F, X, ID, BY⟩ ep = some (touchG ⟨8, KY, V, F, X, ID, BY⟩ ep was) from HGS2.out.trans (by rfl))
              have k1 : W5.cell? ⟨w.heap.size, 1, none⟩ = some (.string KY) := (cells_at HX.out 1).1
              have k2 : W5.cell? ⟨w.heap.size, 2, none⟩ = some (.string V) := (cells_at HX.out 2).1
              have k3 : W5.cell? ⟨w.heap.size, 3, none⟩ = some (.int .u32 F) := (cells_at HX.out 3).1
              have k4 : W5.cell? ⟨w.heap.size, 4, none⟩ = some (.int .i64 X) := (cells_at HX.out 4).1
              have k5 : W5.cell? ⟨w.heap.size, 5, none⟩ = some (.int .u64 ID) := (cells_at HX.out 5).1
              have k6 : W5.cell? ⟨w.heap.size, 6, none⟩ = some (.int .u64 BY) := (cells_at HX.out 6).1
              have x0 : W5.cell? ⟨q, 0, none⟩ = some (.string was.key) := (cells_at HI.out 0).1
              have x1 : W5.cell? ⟨q, 1, none⟩ = some (.string was.value) := (cells_at HI.out 1).1
              have x2 : W5.cell? ⟨q, 2, none⟩ = some (.int .u32 was.flags) := (cells_at HI.out 2).1
              have x3 : W5.cell? ⟨q, 3, none⟩ = some (.int .u64 was.id) := (cells_at HI.out 3).1
              have x4 : W5.cell? ⟨q, 4, none⟩ = some (.int .i64 was.dies) := (cells_at HI.out 4).1
              have x5 : W5.cell? ⟨q, 5, none⟩ = some (.int .i64 was.gen) := (cells_at HI.out 5).1
              go_upto_region 36 with fail
              go_wp2_with fail
              refine (rTouch_any (KY := KY) (V := V) (F := F) (X := X) (ID := ID) (BY := BY) (was := was) (HM.out W5 HB.out) HFEW.out HX'.out).mono ?_
              rintro e w6 ⟨v6, rfl, hr6, hb6⟩
              obtain ⟨a6, c6, hv6⟩ := Row.len hr6
              obtain ⟨n6, hn6⟩ : ∃ k, k = (withoutL m.L KY ++ ([{ was with dies := diesE ep X }] : List ItemD)).length := ⟨_, rfl⟩
              rw [← hn6] at hv6
              subst hv6
              have HJR := Lib.hid hr6
              have HB6 := Lib.hid (HB.out.trans (hb6.mono HB.out.size))
              have HR6 := Lib.hid ((hb6.block (w.heap.size + 1) HN.out).trans HR.out)
              clear hb6 hr6 hn6 k0 k1 k2 k3 k4 k5 k6 x0 x1 x2 x3 x4 x5
              go_wp2_with (first | ((with_reducible show wpList _ _ _ (⟨none, Op.store 88 _ _, _, _, _, _⟩ :: _) _ _); refine wpList_store_whole (by rfl) 88 (.tmp 6) (.tmp 144) (by rfl) (w.heap.size + 1) (by rfl) #[.int .u8 7, .int .u64 0, .string ⟨#[]⟩, .string ⟨#[]⟩, .int .u32 0, .int .u64 0, .int .i64 0, .int .i64 0, .slice a6 n6 c6, .int .u64 (ep : Int), .int .u64 (m.ids : Int), .bool false] (by rfl) _ 88 HR6.out (by rfl) (by kernel_rfl) (by simp [Value.oneCell']) ?_; intro w3 hr3 hg3 hs3) | ((with_reducible show bodyPost _ _ _ Exit.ret _ _); exact bodyPost_ret (v := .tuple #[.agg #[.int .u8 7, .int .u64 0, .string ⟨#[]⟩, .string ⟨#[]⟩, .int .u32 0, .int .u64 0, .int .i64 0, .int .i64 0, .slice a6 n6 c6, .int .u64 (ep : Int), .int .u64 (m.ids : Int), .bool false], .bool true]) (results_row_tmp rfl _ _ (w.heap.size + 1) _ _ _ _ (by rfl) hr3 Tryz.underlying88 rfl (by kernel_rfl) _ (by rfl)) rfl (rg_touch (c := ⟨8, KY, V, F, X, ID, BY⟩) HGW.out (HJR.out.fin hg3 HR6.out) (below_grown HB6.out HB6.out.size hg3 (Nat.le_succ _)))) | fail)
          by_cases h9 : VB = 9
          · subst h9
            cases th
            · skip
              have HGW := Lib.hid (show givesM m ⟨9, KY, V, F, X, ID, BY⟩ ep = some (saysG 4 ep) from HGS2.out.trans (by rfl))
              have m0 : W5.cell? ⟨s, 0, none⟩ = some (.slice va n0 vc) := (cells_at HS.out 0).1
              have m1 : W5.cell? ⟨s, 1, none⟩ = some (.int .u64 (ep : Int)) := (cells_at HS.out 1).1
              have m2 : W5.cell? ⟨s, 2, none⟩ = some (.int .u64 (m.ids : Int)) := (cells_at HS.out 2).1
              go_wp2_with fail
              refine (rSays_any 4 (ep : Int) (m.ids : Int) va n0 vc W5).mono ?_
              rintro e w6 ⟨rfl, hb6⟩
              have HB6 := Lib.hid (HB.out.trans (hb6.mono HB.out.size))
              have HR6 := Lib.hid ((hb6.block (w.heap.size + 1) HN.out).trans HR.out)
              clear hb6 m0 m1 m2 k0
              go_wp2_with (first | ((with_reducible show wpList _ _ _ (⟨none, Op.store 88 _ _, _, _, _, _⟩ :: _) _ _); refine wpList_store_whole (by rfl) 88 (.tmp 6) (.tmp 138) (by rfl) (w.heap.size + 1) (by rfl) #[.int .u8 4, .int .u64 0, .string ⟨#[]⟩, .string ⟨#[]⟩, .int .u32 0, .int .u64 0, .int .i64 0, .int .i64 0, .slice va n0 vc, .int .u64 (ep : Int), .int .u64 (m.ids : Int), .bool false] (by rfl) _ 88 HR6.out (by rfl) (by kernel_rfl) (by simp [Value.oneCell']) ?_; intro w3 hr3 hg3 hs3) | ((with_reducible show bodyPost _ _ _ Exit.ret _ _); exact bodyPost_ret (v := .tuple #[.agg #[.int .u8 4, .int .u64 0, .string ⟨#[]⟩, .string ⟨#[]⟩, .int .u32 0, .int .u64 0, .int .i64 0, .int .i64 0, .slice va n0 vc, .int .u64 (ep : Int), .int .u64 (m.ids : Int), .bool false], .bool true]) (results_row_tmp rfl _ _ (w.heap.size + 1) _ _ _ _ (by rfl) hr3 Tryz.underlying88 rfl (by kernel_rfl) _ (by rfl)) rfl (rg_says (c := ⟨9, KY, V, F, X, ID, BY⟩) HGW.out (HM.out _ (below_grown HB6.out HB6.out.size hg3 (Nat.le_succ _))).row (below_grown HB6.out HB6.out.size hg3 (Nat.le_succ _)))) | fail)
            · cases hp : parseN (bs was.value) with
              | none =>
                have HPP := Lib.hid hp
                clear hp
                have HGW := Lib.hid (show givesM m ⟨9, KY, V, F, X, ID, BY⟩ ep = some (saysG 9 ep) from HGS2.out.trans (by show some (countG true ⟨9, KY, V, F, X, ID, BY⟩ ep (m.ids + 1) was true) = _; unfold countG; rw [if_pos rfl, HPP.out]))
                have k1 : W5.cell? ⟨w.heap.size, 1, none⟩ = some (.string KY) := (cells_at HX.out 1).1
                have k2 : W5.cell? ⟨w.heap.size, 2, none⟩ = some (.string V) := (cells_at HX.out 2).1
                have k3 : W5.cell? ⟨w.heap.size, 3, none⟩ = some (.int .u32 F) := (cells_at HX.out 3).1
                have k4 : W5.cell? ⟨w.heap.size, 4, none⟩ = some (.int .i64 X) := (cells_at HX.out 4).1
                have k5 : W5.cell? ⟨w.heap.size, 5, none⟩ = some (.int .u64 ID) := (cells_at HX.out 5).1
                have k6 : W5.cell? ⟨w.heap.size, 6, none⟩ = some (.int .u64 BY) := (cells_at HX.out 6).1
                have x0 : W5.cell? ⟨q, 0, none⟩ = some (.string was.key) := (cells_at HI.out 0).1
                have x1 : W5.cell? ⟨q, 1, none⟩ = some (.string was.value) := (cells_at HI.out 1).1
                have x2 : W5.cell? ⟨q, 2, none⟩ = some (.int .u32 was.flags) := (cells_at HI.out 2).1
                have x3 : W5.cell? ⟨q, 3, none⟩ = some (.int .u64 was.id) := (cells_at HI.out 3).1
                have x4 : W5.cell? ⟨q, 4, none⟩ = some (.int .i64 was.dies) := (cells_at HI.out 4).1
                have x5 : W5.cell? ⟨q, 5, none⟩ = some (.int .i64 was.gen) := (cells_at HI.out 5).1
                go_upto_region 36 with fail
                go_wp2_with fail
                refine (rBad9_any (KY := KY) (V := V) (F := F) (X := X) (ID := ID) (BY := BY) (was := was) (HM.out W5 HB.out) HFEW.out HWV.out HPP.out).mono ?_
                rintro e w6 ⟨v6, rfl, hr6, hb6⟩
                obtain ⟨a6, c6, hv6⟩ := Row.len hr6
                obtain ⟨n6, hn6⟩ : ∃ k, k = m.L.length := ⟨_, rfl⟩
                rw [← hn6] at hv6
                subst hv6
                have HJR := Lib.hid hr6
                have HB6 := Lib.hid (HB.out.trans (hb6.mono HB.out.size))
                have HR6 := Lib.hid ((hb6.block (w.heap.size + 1) HN.out).trans HR.out)
                clear hb6 hr6 hn6 k0 k1 k2 k3 k4 k5 k6 x0 x1 x2 x3 x4 x5
                go_wp2_with (first | ((with_reducible show wpList _ _ _ (⟨none, Op.store 88 _ _, _, _, _, _⟩ :: _) _ _); refine wpList_store_whole (by rfl) 88 (.tmp 6) (.tmp 144) (by rfl) (w.heap.size + 1) (by rfl) #[.int .u8 9, .int .u64 0, .string ⟨#[]⟩, .string ⟨#[]⟩, .int .u32 0, .int .u64 0, .int .i64 0, .int .i64 0, .slice a6 n6 c6, .int .u64 (ep : Int), .int .u64 (m.ids : Int), .bool false] (by rfl) _ 88 HR6.out (by rfl) (by kernel_rfl) (by simp [Value.oneCell']) ?_; intro w3 hr3 hg3 hs3) | ((with_reducible show bodyPost _ _ _ Exit.ret _ _); exact bodyPost_ret (v := .tuple #[.agg #[.int .u8 9, .int .u64 0, .string ⟨#[]⟩, .string ⟨#[]⟩, .int .u32 0, .int .u64 0, .int .i64 0, .int .i64 0, .slice a6 n6 c6, .int .u64 (ep : Int), .int .u64 (m.ids : Int), .bool false], .bool true]) (results_row_tmp rfl _ _ (w.heap.size + 1) _ _ _ _ (by rfl) hr3 Tryz.underlying88 rfl (by kernel_rfl) _ (by rfl)) rfl (rg_says (c := ⟨9, KY, V, F, X, ID, BY⟩) HGW.out (HJR.out.fin hg3 HR6.out) (below_grown HB6.out HB6.out.size hg3 (Nat.le_succ _)))) | fail)
              | some nn =>
                have HPP := Lib.hid hp
                have hnl := parse_lt hp
                have hbyb := HBY.out
                obtain ⟨u, hu⟩ : ∃ u, u = countN true nn BY.toNat := ⟨_, rfl⟩
                have HU := Lib.hid hu
                have hco : ∀ W, Calls Tryz.prog 92 #[.int .u64 (nn : Int), .int .u64 BY] W fun e w' => e = .returned (.int .u64 (u : Int)) ∧ W = w' := fun W => by
                  have h := refIncr_any nn BY W
                  rw [show IntKind.u64.wrap ((nn : Int) + BY) = (u : Int) from by rw [hu, IntKind.wrap_u64]; unfold countN; rw [if_pos rfl]; omega] at h
                  exact h
                have hul : u < 18446744073709551616 := by rw [hu]; unfold countN; rw [if_pos rfl]; omega
                have htx : ∀ W, Calls Tryz.prog 94 #[.int .u64 (u : Int)] W fun e w' => e = .returned (.string ⟨(Lib.decDigits u).toArray⟩) ∧ W = w' := fun W => refText_any (u : Int) (by omega) (by omega) W
                have HCO := Lib.hid hco
                have HTX := Lib.hid htx
                clear hp hnl hbyb hu hco hul htx
                have HGW := Lib.hid (show givesM m ⟨9, KY, V, F, X, ID, BY⟩ ep = some (numberG u ep (m.ids + 1) was) from HGS2.out.trans (by show some (countG true ⟨9, KY, V, F, X, ID, BY⟩ ep (m.ids + 1) was true) = _; unfold countG; rw [if_pos rfl, HPP.out, HU.out]))
                have k1 : W5.cell? ⟨w.heap.size, 1, none⟩ = some (.string KY) := (cells_at HX.out 1).1
                have k2 : W5.cell? ⟨w.heap.size, 2, none⟩ = some (.string V) := (cells_at HX.out 2).1
                have k3 : W5.cell? ⟨w.heap.size, 3, none⟩ = some (.int .u32 F) := (cells_at HX.out 3).1
                have k4 : W5.cell? ⟨w.heap.size, 4, none⟩ = some (.int .i64 X) := (cells_at HX.out 4).1
                have k5 : W5.cell? ⟨w.heap.size, 5, none⟩ = some (.int .u64 ID) := (cells_at HX.out 5).1
                have k6 : W5.cell? ⟨w.heap.size, 6, none⟩ = some (.int .u64 BY) := (cells_at HX.out 6).1
                have x0 : W5.cell? ⟨q, 0, none⟩ = some (.string was.key) := (cells_at HI.out 0).1
                have x1 : W5.cell? ⟨q, 1, none⟩ = some (.string was.value) := (cells_at HI.out 1).1
                have x2 : W5.cell? ⟨q, 2, none⟩ = some (.int .u32 was.flags) := (cells_at HI.out 2).1
                have x3 : W5.cell? ⟨q, 3, none⟩ = some (.int .u64 was.id) := (cells_at HI.out 3).1
                have x4 : W5.cell? ⟨q, 4, none⟩ = some (.int .i64 was.dies) := (cells_at HI.out 4).1
                have x5 : W5.cell? ⟨q, 5, none⟩ = some (.int .i64 was.gen) := (cells_at HI.out 5).1
                go_upto_region 36 with fail
                go_wp2_with fail
                refine (rCount9_any (KY := KY) (V := V) (F := F) (X := X) (ID := ID) (BY := BY) (was := was) (HM.out W5 HB.out) HFEW.out HID.out HWV.out HPP.out HCO.out HTX.out).mono ?_
                rintro e w6 ⟨v6, rfl, hr6, hb6⟩
                obtain ⟨a6, c6, hv6⟩ := Row.len hr6
                obtain ⟨n6, hn6⟩ : ∃ k, k = (withoutL m.L KY ++ ([{ was with id := ((m.ids + 1 : Nat) : Int), value := ⟨(Lib.decDigits u).toArray⟩ }] : List ItemD)).length := ⟨_, rfl⟩
                rw [← hn6] at hv6
                subst hv6
                have HJR := Lib.hid hr6
                have HB6 := Lib.hid (HB.out.trans (hb6.mono HB.out.size))
                have HR6 := Lib.hid ((hb6.block (w.heap.size + 1) HN.out).trans HR.out)
                clear hb6 hr6 hn6 k0 k1 k2 k3 k4 k5 k6 x0 x1 x2 x3 x4 x5
                go_wp2_with (first | ((with_reducible show wpList _ _ _ (⟨none, Op.store 88 _ _, _, _, _, _⟩ :: _) _ _); refine wpList_store_whole (by rfl) 88 (.tmp 6) (.tmp 144) (by rfl) (w.heap.size + 1) (by rfl) #[.int .u8 8, .int .u64 (u : Int), .string ⟨#[]⟩, .string ⟨#[]⟩, .int .u32 0, .int .u64 0, .int .i64 0, .int .i64 0, .slice a6 n6 c6, .int .u64 (ep : Int), .int .u64 ((m.ids + 1 : Nat) : Int), .bool false] (by rfl) _ 88 HR6.out (by rfl) (by kernel_rfl) (by simp [Value.oneCell']) ?_; intro w3 hr3 hg3 hs3) | ((with_reducible show bodyPost _ _ _ Exit.ret _ _); exact bodyPost_ret (v := .tuple #[.agg #[.int .u8 8, .int .u64 (u : Int), .string ⟨#[]⟩, .string ⟨#[]⟩, .int .u32 0, .int .u64 0, .int .i64 0, .int .i64 0, .slice a6 n6 c6, .int .u64 (ep : Int), .int .u64 ((m.ids + 1 : Nat) : Int), .bool false], .bool true]) (results_row_tmp rfl _ _ (w.heap.size + 1) _ _ _ _ (by rfl) hr3 Tryz.underlying88 rfl (by kernel_rfl) _ (by rfl)) rfl (rg_number (c := ⟨9, KY, V, F, X, ID, BY⟩) HGW.out (HJR.out.fin hg3 HR6.out) (below_grown HB6.out HB6.out.size hg3 (Nat.le_succ _)))) | fail)
          by_cases h10 : VB = 10
          · subst h10
            cases th
            · skip
              have HGW := Lib.hid (show givesM m ⟨10, KY, V, F, X, ID, BY⟩ ep = some (saysG 4 ep) from HGS2.out.trans (by rfl))
              have m0 : W5.cell? ⟨s, 0, none⟩ = some (.slice va n0 vc) := (cells_at HS.out 0).1
              have m1 : W5.cell? ⟨s, 1, none⟩ = some (.int .u64 (ep : Int)) := (cells_at HS.out 1).1
              have m2 : W5.cell? ⟨s, 2, none⟩ = some (.int .u64 (m.ids : Int)) := (cells_at HS.out 2).1
              go_wp2_with fail
              refine (rSays_any 4 (ep : Int) (m.ids : Int) va n0 vc W5).mono ?_
              rintro e w6 ⟨rfl, hb6⟩
              have HB6 := Lib.hid (HB.out.trans (hb6.mono HB.out.size))
              have HR6 := Lib.hid ((hb6.block (w.heap.size + 1) HN.out).trans HR.out)
              clear hb6 m0 m1 m2 k0
              go_wp2_with (first | ((with_reducible show wpList _ _ _ (⟨none, Op.store 88 _ _, _, _, _, _⟩ :: _) _ _); refine wpList_store_whole (by rfl) 88 (.tmp 6) (.tmp 138) (by rfl) (w.heap.size + 1) (by rfl) #[.int .u8 4, .int .u64 0, .string ⟨#[]⟩, .string ⟨#[]⟩, .int .u32 0, .int .u64 0, .int .i64 0, .int .i64 0, .slice va n0 vc, .int .u64 (ep : Int), .int .u64 (m.ids : Int), .bool false] (by rfl) _ 88 HR6.out (by rfl) (by kernel_rfl) (by simp [Value.oneCell']) ?_; intro w3 hr3 hg3 hs3) | ((with_reducible show bodyPost _ _ _ Exit.ret _ _); exact bodyPost_ret (v := .tuple #[.agg #[.int .u8 4, .int .u64 0, .string ⟨#[]⟩, .string ⟨#[]⟩, .int .u32 0, .int .u64 0, .int .i64 0, .int .i64 0, .slice va n0 vc, .int .u64 (ep : Int), .int .u64 (m.ids : Int), .bool false], .bool true]) (results_row_tmp rfl _ _ (w.heap.size + 1) _ _ _ _ (by rfl) hr3 Tryz.underlying88 rfl (by kernel_rfl) _ (by rfl)) rfl (rg_says (c := ⟨10, KY, V, F, X, ID, BY⟩) HGW.out (HM.out _ (below_grown HB6.out HB6.out.size hg3 (Nat.le_succ _))).row (below_grown HB6.out HB6.out.size hg3 (Nat.le_succ _)))) | fail)
            · cases hp : parseN (bs was.value) with
              | none =>
                have HPP := Lib.hid hp
                clear hp
                have HGW := Lib.hid (show givesM m ⟨10, KY, V, F, X, ID, BY⟩ ep = some (saysG 9 ep) from HGS2.out.trans (by show some (countG false ⟨10, KY, V, F, X, ID, BY⟩ ep (m.ids + 1) was true) = _; unfold countG; rw [if_pos rfl, HPP.out]))
                have k1 : W5.cell? ⟨w.heap.size, 1, none⟩ = some (.string KY) := (cells_at HX.out 1).1
                have k2 : W5.cell? ⟨w.heap.size, 2, none⟩ = some (.string V) := (cells_at HX.out 2).1
                have k3 : W5.cell? ⟨w.heap.size, 3, none⟩ = some (.int .u32 F) := (cells_at HX.out 3).1
                have k4 : W5.cell? ⟨w.heap.size, 4, none⟩ = some (.int .i64 X) := (cells_at HX.out 4).1
                have k5 : W5.cell? ⟨w.heap.size, 5, none⟩ = some (.int .u64 ID) := (cells_at HX.out 5).1
                have k6 : W5.cell? ⟨w.heap.size, 6, none⟩ = some (.int .u64 BY) := (cells_at HX.out 6).1
                have x0 : W5.cell? ⟨q, 0, none⟩ = some (.string was.key) := (cells_at HI.out 0).1
                have x1 : W5.cell? ⟨q, 1, none⟩ = some (.string was.value) := (cells_at HI.out 1).1
                have x2 : W5.cell? ⟨q, 2, none⟩ = some (.int .u32 was.flags) := (cells_at HI.out 2).1
                have x3 : W5.cell? ⟨q, 3, none⟩ = some (.int .u64 was.id) := (cells_at HI.out 3).1
                have x4 : W5.cell? ⟨q, 4, none⟩ = some (.int .i64 was.dies) := (cells_at HI.out 4).1
                have x5 : W5.cell? ⟨q, 5, none⟩ = some (.int .i64 was.gen) := (cells_at HI.out 5).1
                go_upto_region 36 with fail
                go_wp2_with fail
                refine (rBad10_any (KY := KY) (V := V) (F := F) (X := X) (ID := ID) (BY := BY) (was := was) (HM.out W5 HB.out) HFEW.out HWV.out HPP.out).mono ?_
                rintro e w6 ⟨v6, rfl, hr6, hb6⟩
                obtain ⟨a6, c6, hv6⟩ := Row.len hr6
                obtain ⟨n6, hn6⟩ : ∃ k, k = m.L.length := ⟨_, rfl⟩
                rw [← hn6] at hv6
                subst hv6
                have HJR := Lib.hid hr6
                have HB6 := Lib.hid (HB.out.trans (hb6.mono HB.out.size))
                have HR6 := Lib.hid ((hb6.block (w.heap.size + 1) HN.out).trans HR.out)
                clear hb6 hr6 hn6 k0 k1 k2 k3 k4 k5 k6 x0 x1 x2 x3 x4 x5
                go_wp2_with (first | ((with_reducible show wpList _ _ _ (⟨none, Op.store 88 _ _, _, _, _, _⟩ :: _) _ _); refine wpList_store_whole (by rfl) 88 (.tmp 6) (.tmp 144) (by rfl) (w.heap.size + 1) (by rfl) #[.int .u8 9, .int .u64 0, .string ⟨#[]⟩, .string ⟨#[]⟩, .int .u32 0, .int .u64 0, .int .i64 0, .int .i64 0, .slice a6 n6 c6, .int .u64 (ep : Int), .int .u64 (m.ids : Int), .bool false] (by rfl) _ 88 HR6.out (by rfl) (by kernel_rfl) (by simp [Value.oneCell']) ?_; intro w3 hr3 hg3 hs3) | ((with_reducible show bodyPost _ _ _ Exit.ret _ _); exact bodyPost_ret (v := .tuple #[.agg #[.int .u8 9, .int .u64 0, .string ⟨#[]⟩, .string ⟨#[]⟩, .int .u32 0, .int .u64 0, .int .i64 0, .int .i64 0, .slice a6 n6 c6, .int .u64 (ep : Int), .int .u64 (m.ids : Int), .bool false], .bool true]) (results_row_tmp rfl _ _ (w.heap.size + 1) _ _ _ _ (by rfl) hr3 Tryz.underlying88 rfl (by kernel_rfl) _ (by rfl)) rfl (rg_says (c := ⟨10, KY, V, F, X, ID, BY⟩) HGW.out (HJR.out.fin hg3 HR6.out) (below_grown HB6.out HB6.out.size hg3 (Nat.le_succ _)))) | fail)
              | some nn =>
                have HPP := Lib.hid hp
                have hnl := parse_lt hp
                have hbyb := HBY.out
                obtain ⟨u, hu⟩ : ∃ u, u = countN false nn BY.toNat := ⟨_, rfl⟩
                have HU := Lib.hid hu
                have hco : ∀ W, Calls Tryz.prog 93 #[.int .u64 (nn : Int), .int .u64 BY] W fun e w' => e = .returned (.int .u64 (u : Int)) ∧ W = w' := fun W => by
                  have h := refDecr_any nn BY W (by omega) (by omega) (by omega) (by omega)
                  rw [show decrN (nn : Int) BY = (u : Int) from by rw [hu, show countN false nn BY.toNat = nn - BY.toNat from rfl]; unfold decrN; split <;> omega] at h
                  exact h
                have hul : u < 18446744073709551616 := by rw [hu, show countN false nn BY.toNat = nn - BY.toNat from rfl]; omega
                have htx : ∀ W, Calls Tryz.prog 94 #[.int .u64 (u : Int)] W fun e w' => e = .returned (.string ⟨(Lib.decDigits u).toArray⟩) ∧ W = w' := fun W => refText_any (u : Int) (by omega) (by omega) W
                have HCO := Lib.hid hco
                have HTX := Lib.hid htx
                clear hp hnl hbyb hu hco hul htx
                have HGW := Lib.hid (show givesM m ⟨10, KY, V, F, X, ID, BY⟩ ep = some (numberG u ep (m.ids + 1) was) from HGS2.out.trans (by show some (countG false ⟨10, KY, V, F, X, ID, BY⟩ ep (m.ids + 1) was true) = _; unfold countG; rw [if_pos rfl, HPP.out, HU.out]))
                have k1 : W5.cell? ⟨w.heap.size, 1, none⟩ = some (.string KY) := (cells_at HX.out 1).1
                have k2 : W5.cell? ⟨w.heap.size, 2, none⟩ = some (.string V) := (cells_at HX.out 2).1
                have k3 : W5.cell? ⟨w.heap.size, 3, none⟩ = some (.int .u32 F) := (cells_at HX.out 3).1
                have k4 : W5.cell? ⟨w.heap.size, 4, none⟩ = some (.int .i64 X) := (cells_at HX.out 4).1
                have k5 : W5.cell? ⟨w.heap.size, 5, none⟩ = some (.int .u64 ID) := (cells_at HX.out 5).1
                have k6 : W5.cell? ⟨w.heap.size, 6, none⟩ = some (.int .u64 BY) := (cells_at HX.out 6).1
                have x0 : W5.cell? ⟨q, 0, none⟩ = some (.string was.key) := (cells_at HI.out 0).1
                have x1 : W5.cell? ⟨q, 1, none⟩ = some (.string was.value) := (cells_at HI.out 1).1
                have x2 : W5.cell? ⟨q, 2, none⟩ = some (.int .u32 was.flags) := (cells_at HI.out 2).1
                have x3 : W5.cell? ⟨q, 3, none⟩ = some (.int .u64 was.id) := (cells_at HI.out 3).1
                have x4 : W5.cell? ⟨q, 4, none⟩ = some (.int .i64 was.dies) := (cells_at HI.out 4).1
                have x5 : W5.cell? ⟨q, 5, none⟩ = some (.int .i64 was.gen) := (cells_at HI.out 5).1
                go_upto_region 36 with fail
                go_wp2_with fail
                refine (rCount10_any (KY := KY) (V := V) (F := F) (X := X) (ID := ID) (BY := BY) (was := was) (HM.out W5 HB.out) HFEW.out HID.out HWV.out HPP.out HCO.out HTX.out).mono ?_
                rintro e w6 ⟨v6, rfl, hr6, hb6⟩
                obtain ⟨a6, c6, hv6⟩ := Row.len hr6
                obtain ⟨n6, hn6⟩ : ∃ k, k = (withoutL m.L KY ++ ([{ was with id := ((m.ids + 1 : Nat) : Int), value := ⟨(Lib.decDigits u).toArray⟩ }] : List ItemD)).length := ⟨_, rfl⟩
                rw [← hn6] at hv6
                subst hv6
                have HJR := Lib.hid hr6
                have HB6 := Lib.hid (HB.out.trans (hb6.mono HB.out.size))
                have HR6 := Lib.hid ((hb6.block (w.heap.size + 1) HN.out).trans HR.out)
                clear hb6 hr6 hn6 k0 k1 k2 k3 k4 k5 k6 x0 x1 x2 x3 x4 x5
                go_wp2_with (first | ((with_reducible show wpList _ _ _ (⟨none, Op.store 88 _ _, _, _, _, _⟩ :: _) _ _); refine wpList_store_whole (by rfl) 88 (.tmp 6) (.tmp 144) (by rfl) (w.heap.size + 1) (by rfl) #[.int .u8 8, .int .u64 (u : Int), .string ⟨#[]⟩, .string ⟨#[]⟩, .int .u32 0, .int .u64 0, .int .i64 0, .int .i64 0, .slice a6 n6 c6, .int .u64 (ep : Int), .int .u64 ((m.ids + 1 : Nat) : Int), .bool false] (by rfl) _ 88 HR6.out (by rfl) (by kernel_rfl) (by simp [Value.oneCell']) ?_; intro w3 hr3 hg3 hs3) | ((with_reducible show bodyPost _ _ _ Exit.ret _ _); exact bodyPost_ret (v := .tuple #[.agg #[.int .u8 8, .int .u64 (u : Int), .string ⟨#[]⟩, .string ⟨#[]⟩, .int .u32 0, .int .u64 0, .int .i64 0, .int .i64 0, .slice a6 n6 c6, .int .u64 (ep : Int), .int .u64 ((m.ids + 1 : Nat) : Int), .bool false], .bool true]) (results_row_tmp rfl _ _ (w.heap.size + 1) _ _ _ _ (by rfl) hr3 Tryz.underlying88 rfl (by kernel_rfl) _ (by rfl)) rfl (rg_number (c := ⟨10, KY, V, F, X, ID, BY⟩) HGW.out (HJR.out.fin hg3 HR6.out) (below_grown HB6.out HB6.out.size hg3 (Nat.le_succ _)))) | fail)
          have hgn : givesM m ⟨VB, KY, V, F, X, ID, BY⟩ ep = none := HGS2.out.trans (by
            unfold givesV
            simp [h1, h2, h3, h4, h5, h6, h11, h7, h8, h9, h10])
          have HGN := Lib.hid hgn
          have t1 : (VB == 1) = false := beq_eq_false_iff_ne.2 h1
          have t2 : (VB == 2) = false := beq_eq_false_iff_ne.2 h2
          have t3 : (VB == 3) = false := beq_eq_false_iff_ne.2 h3
          have t4 : (VB == 4) = false := beq_eq_false_iff_ne.2 h4
          have t5 : (VB == 5) = false := beq_eq_false_iff_ne.2 h5
          have t6 : (VB == 6) = false := beq_eq_false_iff_ne.2 h6
          have t11 : (VB == 11) = false := beq_eq_false_iff_ne.2 h11
          have t7 : (VB == 7) = false := beq_eq_false_iff_ne.2 h7
          have t8 : (VB == 8) = false := beq_eq_false_iff_ne.2 h8
          have t9 : (VB == 9) = false := beq_eq_false_iff_ne.2 h9
          have t10 : (VB == 10) = false := beq_eq_false_iff_ne.2 h10
          clear hgn h1 h2 h3 h4 h5 h6 h11 h7 h8 h9 h10
          have qz : ∀ W : World, (Instr.build 88 #[]).run Tryz.prog W = .ok (.agg #[.int .u8 0, .int .u64 0, .string ⟨#[]⟩, .string ⟨#[]⟩, .int .u32 0, .int .u64 0, .int .i64 0, .int .i64 0, .slice none 0 0, .int .u64 0, .int .u64 0, .bool false]) W := fun W => by kernel_rfl
          go_wp2_with (first | ((with_reducible show wpList _ _ _ (⟨none, Op.store 88 _ _, _, _, _, _⟩ :: _) _ _); refine wpList_store_whole (by rfl) 88 (.tmp 6) (.tmp 55) (by rfl) (w.heap.size + 1) (by rfl) #[.int .u8 0, .int .u64 0, .string ⟨#[]⟩, .string ⟨#[]⟩, .int .u32 0, .int .u64 0, .int .i64 0, .int .i64 0, .slice none 0 0, .int .u64 0, .int .u64 0, .bool false] (by rfl) _ 88 HR.out (by rfl) (by kernel_rfl) (by simp [Value.oneCell']) ?_; intro w3 hr3 hg3 hs3) | ((with_reducible show bodyPost _ _ _ Exit.ret _ _); exact bodyPost_ret (v := .tuple #[.agg #[.int .u8 0, .int .u64 0, .string ⟨#[]⟩, .string ⟨#[]⟩, .int .u32 0, .int .u64 0, .int .i64 0, .int .i64 0, .slice none 0 0, .int .u64 0, .int .u64 0, .bool false], .bool false]) (results_row_tmp rfl _ _ (w.heap.size + 1) _ _ _ _ (by rfl) hr3 Tryz.underlying88 rfl (by kernel_rfl) _ (by rfl)) rfl (rg_none (c := ⟨VB, KY, V, F, X, ID, BY⟩) HGN.out (below_grown HB.out HB.out.size hg3 (Nat.le_succ _)))) | fail)
end Go.Proofs.YtaooangnnlopcaaGreatDoor
