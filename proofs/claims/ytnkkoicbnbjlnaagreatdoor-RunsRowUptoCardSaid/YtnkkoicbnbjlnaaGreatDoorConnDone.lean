/- What Done does with a connection: an answer to the call that is under way. Condition: the library's variables are as they are laid. -/
import Derived.Test.YtnkkoicbnbjlnaaGreatDoorCoD
import Derived.Test.YtnkkoicbnbjlnaaGreatDoorLowA
namespace Go.Proofs.YtnkkoicbnbjlnaaGreatDoor
set_option maxRecDepth 100000
set_option maxHeartbeats 8000000
open Go.RowKit Go.ChangeMaps Go.MapKept
def EnvP (n₀ : Nat) (w : World) : Prop := ∃ W0, W0.heap.size ≤ n₀ ∧ HasLen W0 ∧ HasErr W0 ∧ HasPow W0 ∧ Below W0.heap.size W0 w
theorem EnvP.env {n₀ : Nat} {w : World} (h : EnvP n₀ w) : Env n₀ w := by
 obtain ⟨W0, h1, h2, h3, h4, h5⟩ := h
 exact ⟨W0, h1, h2, h3, h5⟩
theorem EnvP.pow {n₀ : Nat} {w : World} (h : EnvP n₀ w) : HasPow w := by
 obtain ⟨W0, h1, h2, h3, h4, h5⟩ := h
 exact h4.below h5
theorem EnvP.of {w : World} (h1 : HasLen w) (h2 : HasErr w) (h3 : HasPow w) : EnvP w.heap.size w := ⟨w, Nat.le_refl _, h1, h2, h3, Below.refl _ _⟩
theorem EnvP.chg {n₀ : Nat} {M : Nat → Prop} {w w' : World} (h : EnvP n₀ w) (hc : Chg M w w') (hM : ∀ k, M k → n₀ ≤ k) : EnvP n₀ w' := by
 obtain ⟨W0, h1, h2, h3, h4, h5⟩ := h
 exact ⟨W0, h1, h2, h3, h4, h5.trans (hc.below (fun k hk => ⟨Nat.lt_of_lt_of_le hk h5.size, fun e => by have := hM k e; omega⟩))⟩
theorem EnvP.mono {n₀ n₁ : Nat} {w : World} (h : EnvP n₀ w) (hn : n₀ ≤ n₁) : EnvP n₁ w := by
 obtain ⟨W0, h1, h2⟩ := h
 exact ⟨W0, Nat.le_trans h1 hn, h2⟩
def toD (ka : Option Addr) (kn kc : Nat) (c : Cmd) : CmdD := ⟨c.verb, ka, kn, kc, ⟨c.cverb, ⟨c.key.toArray⟩, ⟨c.value.toArray⟩, c.flags, c.exp, c.id, c.by'⟩, c.bytes, c.quiet⟩
theorem toD_val (ka : Option Addr) (kn kc : Nat) (c : Cmd) : (toD ka kn kc c).val = .agg (cmdCells (.slice ka kn kc) c).toArray := rfl
section
variable {n₀ : Nat} {w : World} {p : Nat} {m : ConnM} {S : Nat → Prop}
theorem tell_is (h : ConnIs n₀ w p m S) (s : List UInt8) (hn₀ : n₀ ≤ w.heap.size) (hl : m.out.length + s.length ≤ 1099511627776) :
  Calls Tryz.prog 104 #[.pointer (some ⟨p, 0, none⟩), sv s] w fun e w' => (∃ v, e = .returned v) ∧ CStep n₀ w p S { m with out := m.out ++ s } w' := by
 obtain ⟨hv, ks, wv, cv, ov, L, h, rfl⟩ := h
 refine (connTell_any h s hn₀ hl).mono ?_
 rintro e w' ⟨hv1, ov', hc, hch, hfr⟩
 refine ⟨hv1, _, hc.is, hch, fun k hk => ?_⟩
 rcases hk with hk | hk | hk | hk | hk
 ·exact .inl (.inl hk)
 ·exact .inl (.inr (.inl hk))
 ·exact .inl (.inr (.inr (.inl hk)))
 ·exact .inl (.inr (.inr (.inr (.inl hk))))
 ·exact (hfr k hk).imp (fun h => .inr (.inr (.inr (.inr h)))) id
theorem slice_call {g o n cap : Nat} (hc : n + 1 ≤ cap) (W : World) : (Instr.slice 117 (.slice (some ⟨g, o, none⟩) (n + 1) cap) (some (.int .i64 1)) none none).run Tryz.prog W = .ok (.slice (some ⟨g, if cap = 1 then o else o + 7, none⟩) n (cap - 1)) W := by
 have h2 := Tryz.underlying117
 obtain ⟨i0, hi, hz0, hz1, hz2⟩ := info_parts infoCall
 have h3 : (1 : Int) ≤ (n : Int) + 1 := by omega
 have h4 : (n : Int) + 1 ≤ (cap : Int) := by omega
 by_cases hn : cap = 1
 ·subst hn
  obtain rfl : n = 0 := by omega
  go_simp
 ·rw [if_neg hn]
  go_simp
theorem ConnAt.tailCalls {hv ks wv cv ov : Value} {L : List (Value × Ev)} (h : ConnAt n₀ w p hv ks wv cv ov L m) {c : Cmd} {cs : List Cmd} (hc : m.calls = c :: cs) :
  ∃ g o cap o2, cv = .slice (some ⟨g, o, none⟩) (cs.length + 1) cap ∧ cs.length + 1 ≤ cap ∧ (∀ W : World, (Instr.slice 117 (.slice (some ⟨g, o, none⟩) (cs.length + 1) cap) (some (.int .i64 1)) none none).run Tryz.prog W = .ok (.slice (some ⟨g, o2, none⟩) cs.length (cap - 1)) W) ∧
   MidRow w n₀ 26 7 (.slice (some ⟨g, o2, none⟩) cs.length (cap - 1)) cs.length (callsCells cs) := by
 have hcal := h.calls
 rw [hc] at hcal
 have hcal0 := hcal
 obtain ⟨-, ⟨-, h0⟩ | ⟨g, o, cap, cur, h1, -, -, h2, -⟩⟩ := hcal
 ·simp at h0
 ·have h2 : cs.length + 1 ≤ cap := h2
  refine ⟨g, o, cap, if cap = 1 then o else o + 7, h1, h2, fun W => slice_call h2 W, ?_⟩
  rw [h1] at hcal0
  by_cases hn : cap = 1
  ·obtain rfl : cs = [] := List.eq_nil_of_length_eq_zero (by omega)
   rw [if_pos hn, hn]
   exact hcal0.empty
  ·rw [if_neg hn]
   exact hcal0.tail (x := callCells c) rfl (by omega) (by omega)
theorem connDone_none (h : ConnIs n₀ w p m S) (hu : m.under = false) (a : AnsD) :
  Calls Tryz.prog 73 #[.pointer (some ⟨p, 0, none⟩), a.val] w fun e w' => e = .returned (.int .i64 2) ∧ CStep n₀ w p S m w' := by
 obtain ⟨hv, ks, wv, cv, ov, L, h, rfl⟩ := h
 have c2 : w.cell? ⟨p, 16, none⟩ = some (.bool m.under) := (h.cell (j := 2) rfl).1
 rw [hu] at c2
 have hp := h.feed.plt
 have HST := hidZ (fun o1 : Obj => CStep.of_below h.is ((Below.refl w.heap.size w).alloc (Nat.le_refl _) o1))
 clear h hu
 go_enter Tryz.func73, Tryz.ntmps73
 go_wp2_with fail
 go_ret
 exact ⟨rfl, HST.out _⟩
theorem valueOf_len (v k : Int) (x : ItemD) (hx : x.Ok) (h : x.key.size + x.value.size ≤ 1048576) : (valueOf v k x).length ≤ 2200000 := by
 unfold valueOf
 split
 ·have h1 := join_words v x hx h
  have h2 := line_length (wordsL v x)
  rw [List.length_append, List.length_append]
  have h3 : (bs x.value).length = x.value.size := by simp [bs]
  simp only [List.length_cons, List.length_nil]
  omega
 ·simp
theorem ansOf_len (k n : Int) (hn : 0 ≤ n ∧ n ≤ 18446744073709551615) : (ansOf false k n).length ≤ 2200000 := by
 unfold ansOf
 rw [if_neg (by simp)]
 split
 ·have h1 := line_length [Lib.decDigits n.toNat]
  rw [Lib.join_one] at h1
  have h2 := dec_short n.toNat (by omega)
  omega
 ·unfold aOf
  have h1 := line_length [answersL.getD k.toNat []]
  rw [Lib.join_one] at h1
  have h2 : (answersL.getD k.toNat []).length ≤ 100 := by
   rw [List.getD_eq_getElem?_getD]
   cases h : answersL[k.toNat]? with
   | none => simp
   | some x =>
    have : ∀ y ∈ answersL, y.length ≤ 100 := by decide
    exact this x (List.mem_of_getElem? h)
  omega
theorem tellM_len (c : Cmd) (a : AnsD) (ha : a.Ok) (h : a.item.key.size + a.item.value.size ≤ 1048576) (last : Bool) : (tellM c a last).length ≤ 2300000 := by
 unfold tellM
 split
 ·have h1 := valueOf_len c.verb a.kind a.item ha.item h
  rw [List.length_append]
  have h2 : (if last = true then endL else []).length ≤ 100 := by
   cases last
   ·exact Nat.zero_le _
   ·show endL.length ≤ 100; decide
  omega
 ·split
  ·simp
  ·have := ansOf_len a.kind a.number ha.number
   omega
abbrev ansCells (a : AnsD) : List Value := [.int .u8 a.kind, .int .u64 a.number, .string a.item.key, .string a.item.value, .int .u32 a.item.flags, .int .u64 a.item.id, .int .i64 a.item.dies, .int .i64 a.item.gen]
structure DoneJ (n₀ : Nat) (w : World) (p : Nat) (S : Nat → Prop) (mm : ConnM) (ks : Value) (c : Cmd) (a : AnsD) (W : World) : Prop where
 is : ConnIs n₀ W p mm S
 chg : Chg S w W
 ans : W.heap[w.heap.size]? = some (.cells (ansCells a).toArray 31 (0, 0))
 cmd : W.heap[w.heap.size + 1]? = some (.cells (cmdCells ks c).toArray 113 (0, 0))
 env : EnvP n₀ W
def GetsB (G : Bool) (e : Ev) : Prop := G = true ↔ e.cmd.verb = 1 ∨ e.cmd.verb = 2
theorem connDone_some (h : ConnIs n₀ w p m S) (hE : EnvP n₀ w) (hn : n₀ ≤ w.heap.size) (hg : GoodM m) (hu : m.under = true) (a : AnsD) (ha : a.Ok) (hs : a.item.key.size + a.item.value.size ≤ 1048576)
  (hok : ∀ e ∈ m.wait, EvC e) (hwl : m.wait.length ≤ 1048576) (hol : m.out.length ≤ 1098000000000) :
  Calls Tryz.prog 73 #[.pointer (some ⟨p, 0, none⟩), a.val] w fun e w' => e = .returned (.int .i64 0) ∧ CStep n₀ w p S (doneM m a) w' := by
 obtain ⟨hv, ks, wv, cv, ov, L, hat, rfl⟩ := h
 have c2 : w.cell? ⟨p, 16, none⟩ = some (.bool m.under) := (hat.cell (j := 2) rfl).1
 have f2 : w.frozen? ⟨p, 16, none⟩ = false := (hat.cell (j := 2) rfl).2
 rw [hu] at c2
 have hp := hat.feed.plt
 have hcn := hg.under hu
 obtain ⟨e, es, hwe, hce, hq⟩ := hg.turn hcn
 obtain ⟨c, cs, hcc⟩ := List.exists_cons_of_ne_nil hcn
 obtain ⟨ke, L', hL, hLe⟩ : ∃ ke L', L = (ke, e) :: L' ∧ L'.map (·.2) = es := by
  have h1 := hat.evs
  rw [hwe] at h1
  cases hL : L with
  | nil => rw [hL] at h1; cases h1
  | cons x L' =>
   rw [hL] at h1
   obtain ⟨ke, e'⟩ := x
   obtain ⟨h2, h3⟩ := List.cons.inj h1
   exact ⟨ke, L', by rw [show e' = e from h2], h3⟩
 subst hL
 have hkv : KeysAt w ke e.cmd.keys := hat.keys (ke, e) (List.mem_cons_self ..)
 obtain ⟨ka, kc, rfl⟩ := hkv.len
 obtain ⟨g, o, wq, rfl⟩ : ∃ g o c, wv = .slice (some ⟨g, o, none⟩) (L'.length + 1) c := by
  obtain ⟨-, ⟨-, h0⟩ | ⟨g, o, cap, cur, h1, -⟩⟩ := hat.wait
  ·cases h0
  ·exact ⟨g, o, cap, h1⟩
 have hcell : ∀ (j : Nat) (u : Value), (evCells (.slice ka e.cmd.keys.length kc) e)[j]? = some u → w.cell? ⟨g, o + j, none⟩ = some u := fun j u hju => hat.wait.cell (by
  show (evCells (.slice ka e.cmd.keys.length kc) e ++ evsCells L')[j]? = _
  rw [List.getElem?_append_left (List.getElem?_eq_some_iff.1 hju).1]; exact hju)
 have y0 := hcell 0 _ rfl
 have y1 := hcell 1 _ rfl
 have y2 := hcell 2 _ rfl
 have y3 := hcell 3 _ rfl
 have y4 := hcell 4 _ rfl
 have y5 := hcell 5 _ rfl
 have y6 := hcell 6 _ rfl
 have y7 := hcell 7 _ rfl
 have y8 := hcell 8 _ rfl
 have y9 := hcell 9 _ rfl
 have y10 := hcell 10 _ rfl
 rw [Nat.add_zero] at y0
 have c0 : w.cell? ⟨p, 14, none⟩ = some (.slice (some ⟨g, o, none⟩) (L'.length + 1) wq) := (hat.cell (j := 0) rfl).1
 obtain ⟨g1, o1, cap1, o2, rfl, hcap, hsl, hmid⟩ := hat.tailCalls hcc
 have c1 : w.cell? ⟨p, 15, none⟩ = some (.slice (some ⟨g1, o1, none⟩) (cs.length + 1) cap1) := by
  have := (hat.cell (j := 1) rfl).1
  exact this
 have f1 : w.frozen? ⟨p, 15, none⟩ = false := (hat.cell (j := 1) rfl).2
 have ix := fun W => idx_evm (a := some ⟨g, o, none⟩) (n := L'.length + 1) (c := wq) rfl (by omega) W
 have hgl : g < w.heap.size := cell_lt y0
 have HAT := hidZ hat
 have HMID := hidZ hmid
 have HWE := hidZ hwe
 have HCC := hidZ hcc
 have HLE := hidZ hLe
 have HOK := hidZ hok
 obtain ⟨S, hS⟩ := xE (CM p hv (.slice (some ⟨g, o, none⟩) (L'.length + 1) wq) (.slice (some ⟨g1, o1, none⟩) (cs.length + 1) cap1) ov)
 rw [← hS]
 have HS := hidZ hS
 have HG := hidZ hg
 clear hg hok hat hmid hwe hcc hLe hcell hkv hcn hce hq hu hS
 go_enter Tryz.func73, Tryz.ntmps73
 go_upto_region 4 with fail
 go_cut [] (fun wx => DoneJ n₀ w p S { m with calls := cs, under := false } (.slice ka e.cmd.keys.length kc) e.cmd a wx)
 case first =>
  go_region
  have hu1 := HAT.out.setUnder false
  have hm1 := HMID.out.kept (cset_chg w p 16 (.bool false)) (fun k hk e => by
   subst e
   exact absurd (HAT.out.ptag.one (HMID.out.tag hk).1) (by decide))
  have hc1 := hu1.setCalls hm1
  have hch1 : Chg (fun k => k = p) w ((w.setCell ⟨p, 16, none⟩ (.bool false)).setCell ⟨p, 15, none⟩ (.slice (some ⟨g1, o2, none⟩) cs.length (cap1 - 1))) := (cset_chg _ _ _ _).trans (cset_chg _ _ _ _)
  have hall : ∀ (oa oc : Obj), oa = .cells (ansCells a).toArray 31 (0, 0) → oc = .cells (cmdCells (.slice ka e.cmd.keys.length kc) e.cmd).toArray 113 (0, 0) →
    DoneJ n₀ w p S { m with calls := cs, under := false } (.slice ka e.cmd.keys.length kc) e.cmd a
     ((((w.setCell ⟨p, 16, none⟩ (.bool false)).setCell ⟨p, 15, none⟩ (.slice (some ⟨g1, o2, none⟩) cs.length (cap1 - 1))).alloc oa).alloc oc).drew := fun oa oc ha hc => by
   subst ha hc
   rw [HS.out]
   have hch2 : Chg (fun k => k = p) w ((((w.setCell ⟨p, 16, none⟩ (.bool false)).setCell ⟨p, 15, none⟩ (.slice (some ⟨g1, o2, none⟩) cs.length (cap1 - 1))).alloc (.cells (ansCells a).toArray 31 (0, 0))).alloc (.cells (cmdCells (.slice ka e.cmd.keys.length kc) e.cmd).toArray 113 (0, 0))).drew := ((hch1.alloc _).alloc _).drew
   have hcc := hc1.kept (M := fun _ => False) (((Chg.refl _ _).alloc (.cells (ansCells a).toArray 31 (0, 0))).alloc (.cells (cmdCells (.slice ka e.cmd.keys.length kc) e.cmd).toArray 113 (0, 0))).drew (fun _ e => e.elim)
   refine ⟨⟨_, _, _, _, _, _, hcc, rfl⟩, hch2.mono (fun _ _ e => .inl e), ?_, ?_, hE.chg hch2 (fun k e => by subst e; exact HAT.out.feed.low)⟩
   ·rw [heap_drew, heap_at, if_neg (by simp), heap_at, if_pos (by simp)]
   ·rw [heap_drew, heap_at, if_pos (by simp)]
  have HALL := hidZ (hall _ _ rfl rfl)
  clear hall hch1 hc1 hm1 hu1
  go_wp2_with fail
  go_meet
  case rel => exact HALL.out
 case rest =>
  clear y0 y1 y2 y3 y4 y5 y6 y7 y8 y9 y10 c0 c1 c2 f1 f2 hsl ix hgl hcap HAT HMID HS
  have hj := hcut
  clear hcut
  have v0 : wc.cell? ⟨w.heap.size + 1, 0, none⟩ = some (.int .u8 (e.cmd.verb : Int)) := (block_cell hj.cmd 0).1
  have v1 : wc.cell? ⟨w.heap.size + 1, 1, none⟩ = some (.slice ka e.cmd.keys.length kc) := (block_cell hj.cmd 1).1
  have v2 : wc.cell? ⟨w.heap.size + 1, 2, none⟩ = some (.int .u8 (e.cmd.cverb : Int)) := (block_cell hj.cmd 2).1
  have v3 : wc.cell? ⟨w.heap.size + 1, 3, none⟩ = some (sv e.cmd.key) := (block_cell hj.cmd 3).1
  have v4 : wc.cell? ⟨w.heap.size + 1, 4, none⟩ = some (sv e.cmd.value) := (block_cell hj.cmd 4).1
  have v5 : wc.cell? ⟨w.heap.size + 1, 5, none⟩ = some (.int .u32 (e.cmd.flags : Int)) := (block_cell hj.cmd 5).1
  have v6 : wc.cell? ⟨w.heap.size + 1, 6, none⟩ = some (.int .i64 e.cmd.exp) := (block_cell hj.cmd 6).1
  have v7 : wc.cell? ⟨w.heap.size + 1, 7, none⟩ = some (.int .u64 (e.cmd.id : Int)) := (block_cell hj.cmd 7).1
  have v8 : wc.cell? ⟨w.heap.size + 1, 8, none⟩ = some (.int .u64 (e.cmd.by' : Int)) := (block_cell hj.cmd 8).1
  have v9 : wc.cell? ⟨w.heap.size + 1, 9, none⟩ = some (.int .i64 e.cmd.bytes) := (block_cell hj.cmd 9).1
  have v10 : wc.cell? ⟨w.heap.size + 1, 10, none⟩ = some (.bool e.cmd.quiet) := (block_cell hj.cmd 10).1
  have x0 : wc.cell? ⟨w.heap.size, 0, none⟩ = some (.int .u8 a.kind) := (block_cell hj.ans 0).1
  have x1 : wc.cell? ⟨w.heap.size, 1, none⟩ = some (.int .u64 a.number) := (block_cell hj.ans 1).1
  have x2 : wc.cell? ⟨w.heap.size, 2, none⟩ = some (.string a.item.key) := (block_cell hj.ans 2).1
  have x3 : wc.cell? ⟨w.heap.size, 3, none⟩ = some (.string a.item.value) := (block_cell hj.ans 3).1
  have x4 : wc.cell? ⟨w.heap.size, 4, none⟩ = some (.int .u32 a.item.flags) := (block_cell hj.ans 4).1
  have x5 : wc.cell? ⟨w.heap.size, 5, none⟩ = some (.int .u64 a.item.id) := (block_cell hj.ans 5).1
  have x6 : wc.cell? ⟨w.heap.size, 6, none⟩ = some (.int .i64 a.item.dies) := (block_cell hj.ans 6).1
  have x7 : wc.cell? ⟨w.heap.size, 7, none⟩ = some (.int .i64 a.item.gen) := (block_cell hj.ans 7).1
  have hsz := hj.chg.size
  have hval := value_any (toD ka e.cmd.keys.length kc e.cmd) a wc ha hs hj.env.pow
  have hans := answer_any (toD ka e.cmd.keys.length kc e.cmd) a wc ha hj.env.pow
  have htv := tellM_len e.cmd a ha hs
  have HJ := hidZ hj
  have HV := hidZ hval
  have HA := hidZ hans
  have HTV := hidZ htv
  clear hj hval hans htv ha hs hE
  go_upto_region 5 with fail
  go_cut [6] (fun s6 wx => ∃ G : Bool, s6 = .bool G ∧ GetsB G e ∧ wx = wc)
  case first =>
   by_cases h1 : e.cmd.verb = 1
   ·have t1 : ((e.cmd.verb : Int) == 1) = true := by rw [beq_iff_eq]; omega
    have d1 : GetsB true e := ⟨fun _ => by omega, fun _ => rfl⟩
    have HD1 := hidZ d1
    clear h1 d1
    go_wp2_with fail
    go_meet
    case rel => exact ⟨_, rfl, HD1.out, rfl⟩
   ·have t1 : ((e.cmd.verb : Int) == 1) = false := by rw [beq_eq_false_iff_ne]; omega
    by_cases h2 : e.cmd.verb = 2
    ·have t2 : ((e.cmd.verb : Int) == 2) = true := by rw [beq_iff_eq]; omega
     have d1 : GetsB true e := ⟨fun _ => by omega, fun _ => rfl⟩
     have HD1 := hidZ d1
     clear h1 h2 d1
     go_wp2_with fail
     go_meet
     case rel => exact ⟨_, rfl, HD1.out, rfl⟩
    ·have t2 : ((e.cmd.verb : Int) == 2) = false := by rw [beq_eq_false_iff_ne]; omega
     have d1 : GetsB false e := ⟨fun h => (nomatch h), fun h => by omega⟩
     have HD1 := hidZ d1
     clear h1 h2 d1
     go_wp2_with fail
     go_meet
     case rel => exact ⟨_, rfl, HD1.out, rfl⟩
  case rest =>
   obtain ⟨G, rfl, hG, rfl⟩ := hcut
   have HGG := hidZ hG
   clear hG
   go_upto_block 0 with fail
   go_cut [42, 58] (fun _ _ wx => CStep n₀ w p S { m with calls := cs, under := false, out := m.out ++ tellM e.cmd a (decide (cs = [])) } wx)
   case first =>
    clear HWE HCC HLE HOK HG
    cases G
    ·have hg : ¬ (e.cmd.verb = 1 ∨ e.cmd.verb = 2) := fun h => by have := HGG.out.2 h; cases this
     have htm : ∀ l, tellM e.cmd a l = if e.cmd.quiet then [] else ansOf false a.kind a.number := fun l => by unfold tellM; rw [if_neg hg]
     have HTM := hidZ htm
     cases hq : e.cmd.quiet
     ·have hvl : (ansOf false a.kind a.number).length ≤ 2300000 := by
       have := HTV.out false
       rw [htm false, hq, if_neg (by simp)] at this
       exact this
      have HV2 := hidZ (show Calls Tryz.prog 107 #[(toD ka e.cmd.keys.length kc e.cmd).val, a.val] wc fun e' w' => e' = .returned (sv (ansOf false a.kind a.number)) ∧ Below wc.heap.size wc w' from by
       have := HA.out
       rw [show (toD ka e.cmd.keys.length kc e.cmd).quiet = false from hq] at this
       exact this)
      rw [toD_val] at HV2
      rw [show cmdCells (.slice ka e.cmd.keys.length kc) e.cmd = [.int .u8 (e.cmd.verb : Int), .slice ka e.cmd.keys.length kc, .int .u8 (e.cmd.cverb : Int), sv e.cmd.key, sv e.cmd.value, .int .u32 (e.cmd.flags : Int), .int .i64 e.cmd.exp, .int .u64 (e.cmd.id : Int), .int .u64 (e.cmd.by' : Int), .int .i64 e.cmd.bytes, .bool false] from by rw [← hq]] at HV2
      have HQ := hidZ hq
      rw [hq] at v10
      clear htm hg HV HA HTV hq
      generalize ansOf false a.kind a.number = V at *
      go_wp2_with fail
      refine HV2.out.mono ?_
      rintro e1 w5 ⟨rfl, hb5⟩
      have hi5 := HJ.out.is.below hb5
      have ht5 := tell_is hi5 V (by have := hb5.size; omega) (by show m.out.length + _ ≤ _; omega)
      have HB5 := hidZ hb5
      have HT5 := hidZ ht5
      clear hb5 hi5 ht5 v0 v1 v2 v3 v4 v5 v6 v7 v8 v9 v10 x0 x1 x2 x3 x4 x5 x6 x7 HV2
      go_wp2_with fail
      refine HT5.out.mono ?_
      rintro e2 w6 ⟨⟨v6', rfl⟩, hst5⟩
      have hst6 := CStep.step (HJ.out.chg.then (M' := fun _ => False) (Chg.of_below HB5.out) (fun _ _ e => e.elim)) (fun k hk => .inl hk) hst5
      have HST6 := hidZ hst6
      clear hst5 hst6
      go_wp2_with fail
      go_meet
      case rel =>
       rw [HTM.out, HQ.out, if_neg (by simp)]
       exact HST6.out
     ·have HQ := hidZ hq
      rw [hq] at v10
      have HST := hidZ (show CStep n₀ w p S { m with calls := cs, under := false, out := m.out ++ tellM e.cmd a (decide (cs = [])) } wc from by
       rw [HTM.out, hq, if_pos rfl, List.append_nil]
       exact ⟨_, HJ.out.is, HJ.out.chg, fun _ e => .inl e⟩)
      clear htm hg HV HA HTV hq
      go_wp2_with fail
      go_meet
      case rel => exact HST.out
    ·have hg := HGG.out.1 rfl
     have htm : ∀ l, tellM e.cmd a l = valueOf e.cmd.verb a.kind a.item ++ (if l then endL else []) := fun l => by unfold tellM; rw [if_pos hg]
     have HTM := hidZ htm
     have hvl : (valueOf e.cmd.verb a.kind a.item).length ≤ 2300000 := by
      have := HTV.out false
      rw [htm false, List.length_append] at this
      omega
     have HV2 := hidZ (show Calls Tryz.prog 105 #[(toD ka e.cmd.keys.length kc e.cmd).val, a.val] wc fun e' w' => e' = .returned (sv (valueOf e.cmd.verb a.kind a.item)) ∧ Below wc.heap.size wc w' from HV.out)
     clear htm hg HV HA HTV
     generalize valueOf e.cmd.verb a.kind a.item = V at *
     go_wp2_with fail
     refine HV2.out.mono ?_
     rintro e1 w5 ⟨rfl, hb5⟩
     have hi5 := HJ.out.is.below hb5
     have ht5 := tell_is hi5 V (by have := hb5.size; omega) (by show m.out.length + _ ≤ _; omega)
     have HB5 := hidZ hb5
     have HT5 := hidZ ht5
     clear hb5 hi5 ht5 v0 v1 v2 v3 v4 v5 v6 v7 v8 v9 v10 x0 x1 x2 x3 x4 x5 x6 x7 HV2
     go_wp2_with fail
     refine HT5.out.mono ?_
     rintro e2 w6 ⟨⟨v6', rfl⟩, S6, hi6, hch6, hfr6⟩
     have hst6 : CStep n₀ w p S { m with calls := cs, under := false, out := m.out ++ V } w6 :=
      CStep.step (HJ.out.chg.then (M' := fun _ => False) (Chg.of_below HB5.out) (fun _ _ e => e.elim)) (fun k hk => .inl hk) (⟨S6, hi6, hch6, hfr6⟩ : CStep n₀ w5 p S _ w6)
     obtain ⟨S6', hi6', hch6', hfr6'⟩ := hst6
     have hst6 : CStep n₀ w p S { m with calls := cs, under := false, out := m.out ++ V } w6 := ⟨S6', hi6', hch6', hfr6'⟩
     have HCH6 := hidZ hch6'
     have HFR6 := hidZ hfr6'
     clear hi6 hch6 hfr6 hch6' hfr6'
     have hi6 := hi6'
     obtain ⟨hv6, ks6, wv6, cv6, ov6, L6, hat6, -⟩ := id hi6
     obtain ⟨ca6, cc6, rfl⟩ := hat6.calls.len
     have d6 : w6.cell? ⟨p, 15, none⟩ = some (.slice ca6 cs.length cc6) := (hat6.cell (j := 1) rfl).1
     have HI6 := hidZ hi6
     have HST6 := hidZ hst6
     have hs6 : n₀ ≤ w6.heap.size := Nat.le_trans hn hst6.size
     clear hi6 hst6 hat6 hi6'
     by_cases hcs : cs = []
     ·have hz : ((cs.length : Int) == 0) = true := by rw [hcs]; rfl
      have hdc : decide (cs = []) = true := by rw [decide_eq_true_eq]; exact hcs
      have HDC := hidZ hdc
      clear hcs hdc
      go_wp2_with fail
      refine (end_any w6).mono ?_
      rintro e3 w7 ⟨rfl, hb7⟩
      have hi7 := HI6.out.below hb7
      have hel : endL.length ≤ 100 := by decide
      have ht7 := tell_is hi7 endL (by have := hb7.size; omega) (by show (m.out ++ V).length + _ ≤ _; rw [List.length_append]; omega)
      have HB7 := hidZ hb7
      have HT7 := hidZ ht7
      clear hb7 hi7 ht7 d6
      go_wp2_with fail
      refine HT7.out.mono ?_
      rintro e4 w8 ⟨⟨v8', rfl⟩, hst8⟩
      have hst9 := CStep.step (HCH6.out.then (M' := fun _ => False) (Chg.of_below HB7.out) (fun _ _ e => e.elim)) HFR6.out hst8
      have HST9 := hidZ hst9
      clear hst8 hst9
      go_wp2_with fail
      go_meet
      case rel =>
       rw [HDC.out, HTM.out, if_pos rfl, ← List.append_assoc]
       exact HST9.out
     ·have hpos : 0 < cs.length := List.length_pos_iff.2 hcs
      have hz : ((cs.length : Int) == 0) = false := by rw [beq_eq_false_iff_ne]; omega
      have hdc : decide (cs = []) = false := by rw [decide_eq_false_iff_not]; exact hcs
      have HDC := hidZ hdc
      clear hcs hdc
      go_wp2_with fail
      go_meet
      case rel =>
       rw [HDC.out, HTM.out, if_neg (by simp), List.append_nil]
       exact HST6.out
   case rest =>
    clear v0 v1 v2 v3 v4 v5 v6 v7 v8 v9 v10 x0 x1 x2 x3 x4 x5 x6 x7 HJ HV HA HGG hsz
    obtain ⟨Sn, hin, hchn, hfrn⟩ := hcut
    have hn6 : n₀ ≤ wc.heap.size := Nat.le_trans hn hchn.size
    have htl := HTV.out (decide (cs = []))
    obtain ⟨hv6, ks6, wv6, cv6, ov6, L6, hat6, -⟩ := id hin
    obtain ⟨ca6, cc6, rfl⟩ := hat6.calls.len
    have d6 : wc.cell? ⟨p, 15, none⟩ = some (.slice ca6 cs.length cc6) := (hat6.cell (j := 1) rfl).1
    have HIN := hidZ hin
    have HCHN := hidZ hchn
    have HFRN := hidZ hfrn
    have HTL := hidZ htl
    clear hin hchn hfrn hat6 htl HTV
    by_cases hcs : cs = []
    ·have hz : ((cs.length : Int) == 0) = true := by rw [hcs]; rfl
     have hdc : decide (cs = []) = true := by rw [decide_eq_true_eq]; exact hcs
     have HDC := hidZ hdc
     have HCS := hidZ hcs
     clear hcs hdc
     have hdr := hidZ (drop_is HIN.out (by show m.wait.length ≤ _; omega))
     go_wp2_with fail
     refine hdr.out.mono ?_
     rintro e3 w7 ⟨⟨v7, rfl⟩, hst7⟩
     obtain ⟨S7, hi7, hch7, hfr7⟩ := CStep.step HCHN.out HFRN.out hst7
     have htn := turns_any hi7 (Nat.le_trans hn hch7.size) (fun x hx => HOK.out x (by
      have hx : x ∈ m.wait.tail := hx
      exact List.mem_of_mem_tail hx)) (by
      show (m.out ++ tellM e.cmd a (decide (cs = []))).length + 200 * m.wait.tail.length ≤ _
      have h1 := HTL.out
      rw [List.length_append, List.length_tail]
      omega)
     have HTN := hidZ htn
     have HCH7 := hidZ hch7
     have HFR7 := hidZ hfr7
     clear hst7 hi7 hch7 hfr7 htn d6 hdr
     go_wp2_with fail
     refine HTN.out.mono ?_
     rintro e4 w8 ⟨⟨v8, rfl⟩, hst8⟩
     have hst9 := CStep.step HCH7.out HFR7.out hst8
     have HST9 := hidZ hst9
     clear hst8 hst9
     go_wp2_with fail
     go_ret
     refine ⟨rfl, ?_⟩
     have hd : doneM m a = onM { m with wait := m.wait.tail, calls := cs, under := false, out := m.out ++ tellM e.cmd a (decide (cs = [])) } := by
      unfold doneM
      rw [HWE.out]
      dsimp only
      rw [HCC.out, List.tail_cons, if_pos HCS.out, HDC.out, HCS.out, List.tail_cons]
     rw [hd]
     exact HST9.out
    ·have hpos : 0 < cs.length := List.length_pos_iff.2 hcs
     have hz : ((cs.length : Int) == 0) = false := by rw [beq_eq_false_iff_ne]; omega
     have hdc : decide (cs = []) = false := by rw [decide_eq_false_iff_not]; exact hcs
     have HDC := hidZ hdc
     have HCS := hidZ hcs
     clear hcs hdc
     go_wp2_with fail
     go_ret
     refine ⟨rfl, ?_⟩
     have hd : doneM m a = { m with calls := cs, under := false, out := m.out ++ tellM e.cmd a (decide (cs = [])) } := by
      unfold doneM
      rw [HWE.out]
      dsimp only
      rw [HCC.out, List.tail_cons, if_neg HCS.out, HDC.out, ← HWE.out]
     rw [hd]
     exact ⟨Sn, HIN.out, HCHN.out, HFRN.out⟩
end
end Go.Proofs.YtnkkoicbnbjlnaaGreatDoor
