/- stores, machines: the phases of the example stay, and what their worlds count; Got. No condition. And what goes with it (5 texts). -/
import Derived.Test.YtnkkoicbnbjlnaaGreatDoorMfB
import Derived.Test.YtnkkoicbnbjlnaaGreatDoorMNewStore
import Derived.Test.YtnkkoicbnbjlnaaGreatDoorLowA
import Derived.Test.YtnkkoicbnbjlnaaGreatDoorMgA
namespace Go.Proofs.YtnkkoicbnbjlnaaGreatDoor
set_option maxRecDepth 100000
set_option maxHeartbeats 8000000
open Go.RowKit Go.ChangeMaps Go.MapKept
theorem results_row_tmp2 {P : Program} {fn : Func} {p u u2 : Tmp} {ty : TypeId} (h : fn.results = #[.cell p ty, .tmp u, .tmp u2]) (tmps : Array Value) (w : World) (g : Nat) (t : TypeId) (cs : Array Value) (fr : Nat × Nat) (d : TypeDesc)
  (hp : tmps.getD p undef = .pointer (some ⟨g, 0, none⟩)) (hg : w.heap[g]? = some (.cells cs t fr))
  (hu : P.underlying ty = some d) (hd : (match d with | .struct _ | .array _ _ => true | _ => false) = true) (hi : (P.info? ty).map (·.size) = some cs.size) (v v2 : Value) (hv : tmps.getD u undef = v) (hv2 : tmps.getD u2 undef = v2) :
  (results fn tmps).run P w = .ok (.tuple #[.agg cs, v, v2]) w := by
 have hp' : tmps[p]?.getD undef = .pointer (some ⟨g, 0, none⟩) := by simpa using hp
 have h1 : tmps[u]?.getD undef = v := by simpa using hv
 have h2 : tmps[u2]?.getD undef = v2 := by simpa using hv2
 simp [results, h, hp', h1, h2, asAddr, run_loadVar_row w g t ty cs fr d hg hu hd hi, Result.andThen]
theorem storeGot_any {A : Thing} {x : Nat} {thn : Value} {m : StM} {w : World} {S : Nat → Prop} (h : Star A (StoreB x .nilIface thn .nilFunc m) w S) :
  Calls Tryz.prog 396 #[ptrN x] w fun e w' => e = .returned (.tuple #[.agg #[.int .u8 (m.kind : Int), .int .u64 (m.num : Int), .string ⟨#[]⟩, .string ⟨#[]⟩, .int .u32 0, .int .u64 0, .int .i64 0, .int .i64 0], .int .u64 (m.epoch : Int), .int .i64 (m.point : Int)]) ∧ Below w.heap.size w w' := by
 obtain ⟨w1, hw1⟩ := xE (w.alloc (.cells #[.int .u8 0, .int .u64 0, .string ⟨#[]⟩, .string ⟨#[]⟩, .int .u32 0, .int .u64 0, .int .i64 0, .int .i64 0] 31))
 obtain ⟨rb, hrb⟩ := xE (w.heap.size)
 have hb1 : Below w.heap.size w w1 := bal hw1
 have hq1 : w1.heap[rb]? = some (.cells #[.int .u8 0, .int .u64 0, .string ⟨#[]⟩, .string ⟨#[]⟩, .int .u32 0, .int .u64 0, .int .i64 0, .int .i64 0] 31 (0, 0)) := by rw [hw1, hrb]; exact heap_mem w _
 have hc : ∀ {j : Nat} {v : Value}, (storeCells .nilIface thn .nilFunc m)[j]? = some v → w1.cell? ⟨x, j, none⟩ = some v := fun {j v} hj => (hb1.cell (p := ⟨x, j, none⟩) (cell_lt (Star.cellB h hj).1)).trans (Star.cellB h hj).1
 have hr1 : w1.rangeAt x 14 [.int .u8 (m.kind : Int), .int .u64 (m.num : Int), .string ⟨#[]⟩, .string ⟨#[]⟩, .int .u32 0, .int .u64 0, .int .i64 0, .int .i64 0] := fun j v hv => hc (j := 14 + j) (v := v) (by
  rcases j with _ | _ | _ | _ | _ | _ | _ | _ | j
  all_goals first | exact hv | (simp at hv))
 have k22 : w1.cell? ⟨x, 22, none⟩ = some (.int .u64 (m.epoch : Int)) := hc rfl
 have k23 : w1.cell? ⟨x, 23, none⟩ = some (.int .i64 (m.point : Int)) := hc rfl
 have HID := hidZ (show Calls Tryz.prog 399 #[ptrN x] w1 fun e w' => e = .returned (.bool true) ∧ w1 = w' from goesIdle_nil (hc (j := 0) (v := .nilIface) rfl) (hc (j := 2) (v := .nilFunc) rfl))
 have ht : w1.drew.there rb 0 8 := fun j hj => by
  have h := cellsAt hq1 (0 + j)
  rcases j with _ | _ | _ | _ | _ | _ | _ | _ | j
  all_goals first | exact ⟨by rw [show w1.drew.cell? ⟨rb, _, none⟩ = _ from h.1]; rfl, h.2⟩ | (exfalso; omega)
 obtain ⟨w2, hw2⟩ := xE (w1.drew.setCells rb 0 [.int .u8 (m.kind : Int), .int .u64 (m.num : Int), .string ⟨#[]⟩, .string ⟨#[]⟩, .int .u32 0, .int .u64 0, .int .i64 0, .int .i64 0])
 have hc2 : Chg (fun k => k = rb) w1.drew w2 := by rw [hw2]; exact mcells_chg _ _ _ _
 have hq2 : w2.heap[rb]? = some (.cells #[.int .u8 (m.kind : Int), .int .u64 (m.num : Int), .string ⟨#[]⟩, .string ⟨#[]⟩, .int .u32 0, .int .u64 0, .int .i64 0, .int .i64 0] 31 (0, 0)) := by rw [hw2]; exact setCells_whole (w := w1.drew) hq1 rfl
 have hne : ¬ x = rb := fun e => by
  obtain ⟨T1, T2, -, a2, -⟩ := h
  have := (framed_store x _ _ _ _).lt a2 ((a2.2 x).2 rfl)
  omega
 have hr2 : w2.rangeAt x 14 [.int .u8 (m.kind : Int), .int .u64 (m.num : Int), .string ⟨#[]⟩, .string ⟨#[]⟩, .int .u32 0, .int .u64 0, .int .i64 0, .int .i64 0] := range_keep (w := w1.drew) hr1 hc2 hne
 have c22 : w2.cell? ⟨x, 22, none⟩ = some (.int .u64 (m.epoch : Int)) := hc2.cell (w := w1.drew) k22 hne
 have c23 : w2.cell? ⟨x, 23, none⟩ = some (.int .i64 (m.point : Int)) := hc2.cell (w := w1.drew) k23 hne
 have HB2 := hidZ (show Below w.heap.size w w2 from (low_drew1 hb1).trans (hc2.below (fun k hk => ⟨Nat.lt_of_lt_of_le hk hb1.size, fun e => by omega⟩)))
 have HQ2 := hidZ hq2
 have HW2 := hidZ hw2
 clear h hb1 hq1 hc hc2 hq2 hw2 hne
 go_enter Tryz.func396, Tryz.ntmps396
 go_upto_region 1 with fail
 rw [← hw1, ← hrb]
 clear hw1 hrb
 go_upto_region 3 with (first
  | (go_at_call 399; refine HID.out.mono ?_; rintro e w' ⟨rfl, rfl⟩)
  | fail)
 refine wp_region_held_drew (S := fun V => V.rangeAt x 14 [.int .u8 (m.kind : Int), .int .u64 (m.num : Int), .string ⟨#[]⟩, .string ⟨#[]⟩, .int .u32 0, .int .u64 0, .int .i64 0, .int .i64 0] ∧ V.cell? ⟨x, 22, none⟩ = some (.int .u64 (m.epoch : Int)) ∧ V.cell? ⟨x, 23, none⟩ = some (.int .i64 (m.point : Int))) (by kernel_rfl) ⟨hr1, k22, k23⟩ (fun hHe => ?_)
 refine tkz 0 rfl ?_
 try simp only [tp, tz]
 refine tkz 1 rfl ?_
 try simp only [tp, tz]
 refine tkz 2 rfl ?_
 try simp only [tp, tz]
 refine wpAnyH_take (i := 3) rfl (by kernel_rfl) (by kernel_rfl) (by kernel_rfl) (fun _ _ _ h => h) (yieldsIf_load_mid (by rfl) 31 (.tmp 17) (by rfl) x 14 (by rfl) [.int .u8 (m.kind : Int), .int .u64 (m.num : Int), .string ⟨#[]⟩, .string ⟨#[]⟩, .int .u32 0, .int .u64 0, .int .i64 0, .int .i64 0] _ (fun w hSw => hSw.1) Tryz.underlying31 rfl (by kernel_rfl)) (by assumption) ?_
 try simp only [tp, tz]
 refine tkz 4 rfl ?_
 try simp only [tp, tz]
 refine tkz 5 rfl ?_
 try simp only [tp, tz]
 refine tkz 6 rfl ?_
 try simp only [tp, tz]
 refine tkw 7 rfl ?_
 try simp only [tp, tz]
 refine tkz 8 rfl ?_
 try simp only [tp, tz]
 refine tkz 9 rfl ?_
 try simp only [tp, tz]
 refine tkz 10 rfl ?_
 try simp only [tp, tz]
 refine tkw 11 rfl ?_
 try simp only [tp, tz]
 refine rdy 12 rfl (fun K hK => ?_)
 rw [if_pos (by rfl)]
 refine wp_store_mid 31 (.tmp 2) (.tmp 18) (by rfl) rb 0 #[.int .u8 (m.kind : Int), .int .u64 (m.num : Int), .string ⟨#[]⟩, .string ⟨#[]⟩, .int .u32 0, .int .u64 0, .int .i64 0, .int .i64 0] (by rfl) (by rfl) ht (by kernel_rfl) (by simp [Value.oneCell']) ?_
 refine hK.out _ _ (by have h : _ ∧ _ ∧ _ := ⟨hr2, c22, c23⟩; rw [HW2.out] at h; exact h) (fun hHf => ?_)
 clear hK K
 try simp only [Act.put, tzD, tzE, tzF]
 rw [show w1.drew.setCells rb 0 (#[.int .u8 (m.kind : Int), .int .u64 (m.num : Int), .string ⟨#[]⟩, .string ⟨#[]⟩, .int .u32 0, .int .u64 0, .int .i64 0, .int .i64 0] : Array Value).toList = w2 from HW2.out.symm] at hHf ⊢
 clear HW2 ht
 refine tkz 13 rfl ?_
 try simp only [tp, tz]
 refine tkz 14 rfl ?_
 try simp only [tp, tz]
 refine wpAnyH_done (by kernel_rfl) ?_ _
 clear hHe hHf
 go_wp2_with (first
  | ((with_reducible show bodyPost _ _ _ Exit.ret _ _); exact bodyPost_ret (v := .tuple #[.agg #[.int .u8 (m.kind : Int), .int .u64 (m.num : Int), .string ⟨#[]⟩, .string ⟨#[]⟩, .int .u32 0, .int .u64 0, .int .i64 0, .int .i64 0], .int .u64 (m.epoch : Int), .int .i64 (m.point : Int)]) (results_row_tmp2 (by exact Tryz.results396) _ _ rb _ _ _ _ (by rfl) HQ2.out Tryz.underlying31 rfl (by kernel_rfl) _ _ (by rfl) (by rfl)) rfl ⟨rfl, HB2.out⟩)
  | fail)
section
variable {p x : Nat}
end
open Go.RowKit Go.ChangeMaps Go.MapKept
def RoundJ (w0 : World) (SN : Nat → Thing) (n : Nat) (V : World) : Prop := ∃ S, SN n V S ∧ EnvP w0.heap.size V ∧ (∀ k, S k → w0.heap.size ≤ k) ∧ Below w0.heap.size w0 V
theorem RoundJ.step {w0 : World} {SN : Nat → Thing} {n : Nat} {V W : World} {S : Nat → Prop} (hE : EnvP w0.heap.size V) (hl : ∀ k, S k → w0.heap.size ≤ k) (hb : Below w0.heap.size w0 V) (h : Stp (SN n) S V W) : RoundJ w0 SN n W := by
 obtain ⟨S', h1, h2, h3⟩ := h
 exact ⟨S', h1, hE.chg h2 hl, fun k hk => (h3 k hk).elim (hl k) (fun e => Nat.le_trans hb.size e), hb.trans (h2.below (fun k hk => ⟨Nat.lt_of_lt_of_le hk hb.size, fun e => by have := hl k e; omega⟩))⟩
theorem RoundJ.below {w0 : World} {SN : Nat → Thing} {n : Nat} {V W : World} (hF : Framed (SN n)) (h : RoundJ w0 SN n V) (hb : Below V.heap.size V W) : RoundJ w0 SN n W := by
 obtain ⟨S, h1, h2, h3, h4⟩ := h
 exact RoundJ.step h2 h3 h4 (Stp.of_below hF h1 hb)
def setLine : List UInt8 := [115, 101, 116, 32, 97, 32, 48, 32, 48, 32, 49, 13, 10, 120, 13, 10]
def ansS : AnsD := ⟨1, 1, ⟨⟨#[]⟩, ⟨#[]⟩, 0, 0, 0, 0⟩⟩
def mcA : ConnM := inM cNew setLine
def mcB : ConnM := tookM mcA
def mcC : ConnM := afterM mcB ansS
theorem mfA : FitM 16 4000 mcA := ((fit_new 0).in setLine).1.mono (by decide) (by decide)
theorem mfB : FitM 16 4000 mcB := mfA.took
theorem ansS_ok : ansS.Ok := ⟨by decide, by decide, ⟨by decide, by decide, by decide, by decide⟩⟩
theorem mfC : FitM 16 2400000 mcC := (mfB.after ansS_ok (by decide)).1.mono (by decide) (by decide)
abbrev callL : List Value := [.int .u8 3, sv sm0.key, sv sm0.value, .int .u32 (sm0.flags : Int), .int .i64 sm0.exp, .int .u64 (sm0.id : Int), .int .u64 (sm0.by' : Int)]
abbrev calledL : List Value := [.int .i64 0, .int .u8 3, sv sm0.key, sv sm0.value, .int .u32 (sm0.flags : Int), .int .i64 sm0.exp, .int .u64 (sm0.id : Int), .int .u64 (sm0.by' : Int), .int .i64 ((0 : Nat) : Int), .int .i64 ((17 + 1 : Nat) : Int), .int .u8 1, .int .u64 1, .string ⟨#[]⟩, .string ⟨#[]⟩, .int .u32 0, .int .u64 0, .int .i64 0, .int .i64 0, .int .u64 0, .int .i64 11]
section
variable (X : Thing) (n₀ mp wp tb tc c0 c1 : Nat)
end
section
variable {X : Thing} {n₀ mp wp tb tc c0 c1 : Nat}
end
open Go.RowKit Go.ChangeMaps Go.MapKept
theorem clipNote_any {a : Option Addr} {n c : Nat} (w : World) (h : n ≤ c) (_hc : c ≤ maxLen) (ha : a = none → c = 0) : Calls Tryz.prog 115 #[.slice a n c] w fun e w' => e = .returned (.slice a n n) ∧ w = w' := by
 unfold maxLen at _hc
 cases a with
 | none =>
  obtain rfl := ha rfl
  obtain rfl : n = 0 := by omega
  clear ha h _hc
  go_enter Tryz.func115, Tryz.ntmps115
  go_wp2_with fail
  go_ret
  exact ⟨rfl, rfl⟩
 | some a =>
  clear ha
  go_enter Tryz.func115, Tryz.ntmps115
  go_wp2_with fail
  go_ret
  exact ⟨rfl, rfl⟩
theorem clipDrop_any {a : Option Addr} {n c : Nat} (w : World) (h : n ≤ c) (_hc : c ≤ maxLen) (ha : a = none → c = 0) : Calls Tryz.prog 56 #[.slice a n c] w fun e w' => e = .returned (.slice a n n) ∧ w = w' := by
 unfold maxLen at _hc
 cases a with
 | none =>
  obtain rfl := ha rfl
  obtain rfl : n = 0 := by omega
  clear ha h _hc
  go_enter Tryz.func56, Tryz.ntmps56
  go_wp2_with fail
  go_ret
  exact ⟨rfl, rfl⟩
 | some a =>
  clear ha
  go_enter Tryz.func56, Tryz.ntmps56
  go_wp2_with fail
  go_ret
  exact ⟨rfl, rfl⟩
theorem clipCalled_any {a : Option Addr} {n c : Nat} (w : World) (h : n ≤ c) (_hc : c ≤ maxLen) (ha : a = none → c = 0) : Calls Tryz.prog 31 #[.slice a n c] w fun e w' => e = .returned (.slice a n n) ∧ w = w' := by
 unfold maxLen at _hc
 cases a with
 | none =>
  obtain rfl := ha rfl
  obtain rfl : n = 0 := by omega
  clear ha h _hc
  go_enter Tryz.func31, Tryz.ntmps31
  go_wp2_with fail
  go_ret
  exact ⟨rfl, rfl⟩
 | some a =>
  clear ha
  go_enter Tryz.func31, Tryz.ntmps31
  go_wp2_with fail
  go_ret
  exact ⟨rfl, rfl⟩
theorem lptr_nil (x : Option Addr) (W : World) : (binOp .eql 123 (.pointer x) (.pointer none)).run Tryz.prog W = .ok (.bool x.isNone) W := by cases x <;> kernel_rfl
theorem notesNotes_any {w : World} {p c : Nat} {a : Option Addr} (h : w.cell? ⟨p, 0, none⟩ = some (.slice a 0 c)) : Calls Tryz.prog 114 #[ptrN p] w fun e w' => e = .returned (.slice a 0 c) ∧ w = w' := by
 have q := lptr_nil
 go_enter Tryz.func114, Tryz.ntmps114
 go_wp2_with fail
 go_ret
 exact ⟨rfl, rfl⟩
theorem notesPicked_none {w : World} {p c : Nat} {a : Option Addr} {fn : Value} (h : w.cell? ⟨p, 0, none⟩ = some (.slice a 0 c)) : Calls Tryz.prog 79 #[ptrN p, fn] w fun e w' => e = .returned (.slice none 0 0) ∧ w = w' := by
 have HN := hidZ (notesNotes_any h)
 have HC := hidZ (clipNote_any (a := none) (n := 0) (c := 0) w (Nat.le_refl _) (Nat.zero_le _) (fun _ => rfl))
 clear h
 go_enter Tryz.func79, Tryz.ntmps79
 go_upto_region 3 with (first
  | (go_at_call 114; refine HN.out.mono ?_; rintro e w' ⟨rfl, rfl⟩)
  | fail)
 go_loopw [5, 11] (fun s5 s11 wr => s5 = .slice none 0 0 ∧ s11 = .int .i64 0 ∧ wr = w) (fun _ _ _ => 0)
 case atStart => exact ⟨rfl, rfl, rfl⟩
 case round =>
  obtain ⟨rfl, rfl, rfl⟩ := hrel
  go_wp2_with fail
  refine HC.out.mono ?_
  rintro e w' ⟨rfl, rfl⟩
  go_wp2_with fail
  go_ret
  exact ⟨rfl, rfl⟩
theorem notesOf_none {w : World} {p c : Nat} {a : Option Addr} {k : Int} (h : w.cell? ⟨p, 0, none⟩ = some (.slice a 0 c)) : Calls Tryz.prog 54 #[ptrN p, .int .u8 k] w fun e w' => e = .returned (.slice none 0 0) ∧ Below w.heap.size w w' := by
 obtain ⟨w1, hw1⟩ := xE (w.alloc (.cells #[.int .u8 k] 128))
 have hb : Below w.heap.size w w1 := bal hw1
 have h1 : w1.cell? ⟨p, 0, none⟩ = some (.slice a 0 c) := (hb.cell (p := ⟨p, 0, none⟩) (cell_lt h)).trans h
 have HP := hidZ (fun fn : Value => notesPicked_none (fn := fn) h1)
 have HB := hidZ hb
 have hmf := @mkFn Tryz.prog
 clear h h1 hb
 go_enter Tryz.func54, Tryz.ntmps54
 go_upto_region 1 with fail
 rw [← hw1]
 clear hw1
 go_wp2_with fail
 refine (HP.out _).mono ?_
 rintro e w2 ⟨rfl, rfl⟩
 go_wp2_with fail
 go_ret
 exact ⟨rfl, HB.out⟩
theorem Star.notesW {p : Nat} {W : WorldM} {w : World} {S : Nat → Prop} (h : WorldIs p W w S) (hn : W.notes = []) : ∃ pn a c, w.cell? ⟨p, 2, none⟩ = some (ptrN pn) ∧ w.cell? ⟨pn, 0, none⟩ = some (.slice a 0 c) := by
 obtain ⟨pc, pi, pn, ha⟩ := h.at
 obtain ⟨S0, S1, h0, ⟨S2, S3, h2, ⟨S4, S5, h4, ⟨v, b1, b2, b3⟩, -⟩, -⟩, -⟩ := ha
 rw [hn] at b2
 obtain ⟨a, c, rfl⟩ := (Row.of_owns b2).len
 exact ⟨pn, a, c, (Blk.cell h0 (world_get2 pc pi pn W)).1, (cellsAt b1 0).1⟩
theorem wptr_nil (x : Option Addr) (W : World) : (binOp .eql 48 (.pointer x) (.pointer none)).run Tryz.prog W = .ok (.bool x.isNone) W := by cases x <;> kernel_rfl
theorem drops_none {w : World} {p : Nat} {W : WorldM} {S : Nat → Prop} (h : WorldIs p W w S) (hn : W.notes = []) : Calls Tryz.prog 33 #[ptrN p] w fun e w' => e = .returned (.slice none 0 0) ∧ Below w.heap.size w w' := by
 obtain ⟨pn, a, c, c2, n0⟩ := Star.notesW h hn
 have HO := hidZ (notesOf_none (k := 1) n0)
 have q := wptr_nil
 clear h hn n0
 go_enter Tryz.func33, Tryz.ntmps33
 go_upto_region 5 with (first
  | (go_at_call 54; refine HO.out.mono ?_; rintro e w1 ⟨rfl, hb⟩)
  | fail)
 have HC := hidZ (clipDrop_any (a := none) (n := 0) (c := 0) w1 (Nat.le_refl _) (Nat.zero_le _) (fun _ => rfl))
 have HB := hidZ hb
 clear hb HO
 go_loopw [3, 16] (fun s3 s16 wr => s3 = .slice none 0 0 ∧ s16 = .int .i64 0 ∧ wr = w1) (fun _ _ _ => 0)
 case atStart => exact ⟨rfl, rfl, rfl⟩
 case round =>
  obtain ⟨rfl, rfl, rfl⟩ := hrel
  go_wp2_with fail
  refine HC.out.mono ?_
  rintro e w' ⟨rfl, rfl⟩
  go_wp2_with fail
  go_ret
  exact ⟨rfl, HB.out⟩
theorem calledSlice (g n c : Nat) (W : World) : (binOp .eql 54 (.slice (some ⟨g, 0, none⟩) n c) (.slice none 0 0)).run Tryz.prog W = .ok (.bool false) W := by kernel_rfl
theorem app_clone {w : World} {g c : Nat} {cs : List Value} (hl : cs.length = 20) (h1 : ∀ u ∈ cs, u.oneCell' = true) (hc : ∀ j u, cs[j]? = some u → w.cell? ⟨g, j, none⟩ = some u) {q : Nat} (hq : w.heap[q]? = some (.cells #[] 33 (0, 0))) :
  ∃ v' W, (Builtin.append_ #[54, 54] 54 #[.slice (some ⟨q, 0, none⟩) 0 0, .slice (some ⟨g, 0, none⟩) 1 c]).run Tryz.prog w = .ok v' W ∧ W.ownsRow q 33 20 v' 1 cs ∧ w.grownBy W (some q) := by
 obtain ⟨i0, hi0, hz0, hz1, hz2⟩ := infoP_parts infoCalledM
 have hnews : ∀ j u, cs[j]? = some u → w.cell? (Addr.add ⟨g, 0, none⟩ j) = some u := by
  intro j u hj
  have := hc j u hj
  by_cases h0 : j = 0
  ·subst h0
   exact this
  ·simpa [Addr.add, h0] using this
 obtain ⟨v', w', hr, h2, h3, h4, h5⟩ := run_append_own_at (P := Tryz.prog) w q 54 54 33 i0 _ 20 192 Tryz.underlying54 hi0 hz0 hz1 hz2 (by rfl) (by omega) (.slice (some ⟨q, 0, none⟩) 0 0) 0 [] ⟨rfl, .inr ⟨q, 0, #[], rfl, Nat.le_refl _, hq, Nat.le_refl _, Nat.zero_le _, rfl, rfl⟩⟩ ⟨g, 0, none⟩ 1 c cs (by omega) hnews h1 (by unfold maxLen; omega) (by omega) (Nat.le_of_lt (Array.getElem?_eq_some_iff.1 hq).1)
 exact ⟨v', w', hr, by simpa using h2, h3⟩
theorem cloneCalled_one {w : World} {g c : Nat} {cs : List Value} (hl : cs.length = 20) (h1 : ∀ u ∈ cs, u.oneCell' = true) (hc : ∀ j u, cs[j]? = some u → w.cell? ⟨g, j, none⟩ = some u) :
  Calls Tryz.prog 32 #[.slice (some ⟨g, 0, none⟩) 1 c] w fun e w' => ∃ g' c', e = .returned (.slice (some ⟨g', 0, none⟩) 1 c') ∧ w.heap.size ≤ g' ∧ 1 ≤ c' ∧ c' ≤ maxLen ∧ (∀ j u, cs[j]? = some u → w'.cell? ⟨g', j, none⟩ = some u) ∧ Below w.heap.size w w' := by
 have q1 := calledSlice
 obtain ⟨w1, hw1⟩ := xE (w.alloc (.cells #[] 33))
 have hb : Below w.heap.size w w1 := bal hw1
 have hq : w1.heap[w.heap.size]? = some (.cells #[] 33 (0, 0)) := by rw [hw1]; exact heap_mem w _
 have hc1 : ∀ j u, cs[j]? = some u → w1.cell? ⟨g, j, none⟩ = some u := fun j u hj => (hb.cell (p := ⟨g, j, none⟩) (cell_lt (hc j u hj))).trans (hc j u hj)
 obtain ⟨v', W, hrun, hown, hgr⟩ := app_clone (c := c) hl h1 hc1 hq
 obtain ⟨g2, o2, c2, e2, -, hn2, hm2, -, hx2⟩ := (Row.of_owns hown).some (fun e => by rw [e] at hl; simp at hl)
 obtain ⟨g3, c3, e3, hg3⟩ : ∃ g3 c3, v' = .slice (some ⟨g3, 0, none⟩) 1 c3 ∧ w.heap.size ≤ g3 := by
  rcases hown.2 with ⟨-, h⟩ | ⟨g, cap, cur, h, h', -⟩
  ·omega
  ·exact ⟨g, cap, h, h'⟩
 obtain rfl := e3
 obtain ⟨ha, -, rfl⟩ := slice_inj e2
 obtain ⟨rfl, rfl⟩ : g3 = g2 ∧ o2 = 0 := by
  have := Option.some.inj ha
  injection this with e1 e2
  exact ⟨e1, e2.symm⟩
 have HO := hidZ (show w.heap.size ≤ g3 ∧ 1 ≤ c3 ∧ c3 ≤ maxLen ∧ (∀ j u, cs[j]? = some u → W.cell? ⟨g3, j, none⟩ = some u) ∧ Below w.heap.size w W from ⟨hg3, hn2, hm2, fun j u hj => by have := (hx2 j u hj).1; rwa [Nat.zero_add] at this, hb.trans ((Chg.of_grown (M := fun k => k = w.heap.size) hgr (fun _ _ e => (Option.some.inj e).symm)).below (fun k hk => ⟨Nat.lt_of_lt_of_le hk hb.size, fun e => by omega⟩))⟩)
 rw [hw1] at hrun
 clear hw1 hl h1 hc hb hq hc1 hown hgr hg3 e2 hn2 hm2 hx2 ha
 go_enter Tryz.func32, Tryz.ntmps32
 go_wp2_with (first
  | (at_builtin; refine wpList_plain (by rfl) fun _ hK => wp_append_run (.tmp 5) (.tmp 6) 54 (by rfl) _ _ _ (by rfl) (by rfl) hrun (hK _ _ ?_))
  | fail)
 go_ret
 exact ⟨_, _, rfl, HO.out⟩
theorem hist_any {w : World} {mp wp tb tc n g c : Nat} {th : List Value} {cs : List Value} {W : WorldM} {S : Nat → Prop} (hr : MachR w mp wp tb tc n th (.slice (some ⟨g, 0, none⟩) 1 c)) (hl : cs.length = 20) (h1 : ∀ u ∈ cs, u.oneCell' = true)
  (hc : ∀ j u, cs[j]? = some u → w.cell? ⟨g, j, none⟩ = some u) (hW : WorldIs wp W w S) (hn : W.notes = []) :
  Calls Tryz.prog 11 #[ptrN mp] w fun e w' => ∃ q, e = .returned (.agg #[.slice (some ⟨q, 0, none⟩) 1 1, .slice none 0 0]) ∧ (∀ j u, cs[j]? = some u → w'.cell? ⟨q, j, none⟩ = some u) ∧ Below w.heap.size w w' := by
 obtain ⟨rb, hrb⟩ := xE (w.heap.size)
 obtain ⟨w1, hw1⟩ := xE (w.alloc (.cells #[.slice none 0 0, .slice none 0 0] 57))
 have hb1 : Below w.heap.size w w1 := bal hw1
 have hq1 : w1.heap[rb]? = some (.cells #[.slice none 0 0, .slice none 0 0] 57 (0, 0)) := by rw [hw1, hrb]; exact heap_mem w _
 have c0 : w1.cell? ⟨mp, 0, none⟩ = some (ptrN wp) := (hb1.cell (p := ⟨mp, 0, none⟩) (cell_lt hr.c0)).trans hr.c0
 have c2 : w1.cell? ⟨mp, 2, none⟩ = some (.slice (some ⟨g, 0, none⟩) 1 c) := (hb1.cell (p := ⟨mp, 2, none⟩) (cell_lt hr.c2)).trans hr.c2
 have q := mptr_nil
 have HC0 := hidZ hr.c0
 have HCL := hidZ (cloneCalled_one (w := w1.drew) (g := g) (c := c) hl h1 (fun j u hj => (hb1.cell (p := ⟨g, j, none⟩) (cell_lt (hc j u hj))).trans (hc j u hj)))
 have HDR := hidZ (show ∀ V, Below w.heap.size w V → Calls Tryz.prog 33 #[ptrN wp] V fun e w' => e = .returned (.slice none 0 0) ∧ Below V.heap.size V w' from fun V hb => drops_none ((framed_worldIs wp W).below hW hb) hn)
 have HB1 := hidZ hb1
 have HQ1 := hidZ (And.intro hq1 hrb)
 clear hr hl h1 hc hW hn hb1 hq1
 go_enter Tryz.func11, Tryz.ntmps11
 go_upto_region 3 with fail
 rw [← hw1, ← hrb]
 clear hw1 hrb
 refine wp_region_held_drew (S := fun V => V.cell? ⟨mp, 0, none⟩ = some (ptrN wp) ∧ V.cell? ⟨mp, 2, none⟩ = some (.slice (some ⟨g, 0, none⟩) 1 c)) (by kernel_rfl) ⟨c0, c2⟩ (fun hHe => ?_)
 refine tkz 0 rfl ?_
 try simp only [tp, tz]
 refine tkz 1 rfl ?_
 try simp only [tp, tz]
 refine tkz 2 rfl ?_
 try simp only [tp, tz]
 refine tkw 3 rfl ?_
 try simp only [tp, tz]
 refine tkz 6 rfl ?_
 try simp only [tp, tz]
 refine tkz 7 rfl ?_
 try simp only [tp, tz]
 refine tkz 8 rfl ?_
 try simp only [tp, tz]
 refine tkw 9 rfl ?_
 try simp only [tp, tz]
 refine rdy 4 rfl (fun K hK => ?_)
 go_simp
 refine HCL.out.mono ?_
 rintro e w2 ⟨g', c', rfl, hgl', hc1', hcm', hx', hb2⟩
 refine hK.out _ _ ⟨(hb2.cell (p := ⟨mp, 0, none⟩) (cell_lt hHe.1)).trans hHe.1, (hb2.cell (p := ⟨mp, 2, none⟩) (cell_lt hHe.2)).trans hHe.2⟩ (fun hHf => ?_)
 clear hK K
 try simp only [tp, tz]
 have HCP := hidZ (clipCalled_any (a := some ⟨g', 0, none⟩) w2 hc1' hcm' (fun e => nomatch e))
 have hbw2 : Below w.heap.size w w2 := (low_drew1 HB1.out).trans (hb2.mono HB1.out.size)
 have HD2 := hidZ (HDR.out w2 hbw2)
 clear HCL hc1' hcm'
 refine rdy 5 rfl (fun K hK => ?_)
 go_simp
 go_at_call 31
 refine (HCP.out).mono ?_
 rintro e w' ⟨rfl, rfl⟩
 refine hK.out _ _ hHf (fun hHf => ?_)
 clear hK K
 try simp only [tp, tz]
 refine rdy 10 rfl (fun K hK => ?_)
 go_simp
 go_at_call 33
 refine (HD2.out).mono ?_
 rintro e w3 ⟨rfl, hb3⟩
 refine hK.out _ _ ⟨(hb3.cell (p := ⟨mp, 0, none⟩) (cell_lt hHf.1)).trans hHf.1, (hb3.cell (p := ⟨mp, 2, none⟩) (cell_lt hHf.2)).trans hHf.2⟩ (fun hHf => ?_)
 clear hK K
 try simp only [tp, tz]
 refine tkz 11 rfl ?_
 try simp only [tp, tz]
 have hq3 : w3.heap[rb]? = some (.cells #[.slice none 0 0, .slice none 0 0] 57 (0, 0)) := boxAt (boxAt (W := w1.drew) HQ1.out.1 hb2) hb3
 have ht3 : w3.there rb 0 2 := fun j hj => by
  rcases j with _ | _ | j
  all_goals first | exact ⟨by rw [(cellsAt hq3 _).1]; rfl, (cellsAt hq3 _).2⟩ | (exfalso; omega)
 have hne : ¬ mp = rb := fun e => by have := cell_lt HC0.out; have := HQ1.out.2; omega
 obtain ⟨w4, hw4⟩ := xE (w3.setCells rb 0 [.slice (some ⟨g', 0, none⟩) 1 1, .slice none 0 0])
 have hc4 : Chg (fun k => k = rb) w3 w4 := by rw [hw4]; exact mcells_chg _ _ _ _
 have hq4 : w4.heap[rb]? = some (.cells #[.slice (some ⟨g', 0, none⟩) 1 1, .slice none 0 0] 57 (0, 0)) := by rw [hw4]; exact setCells_whole hq3 rfl
 have hS4 : w4.cell? ⟨mp, 0, none⟩ = some (ptrN wp) ∧ w4.cell? ⟨mp, 2, none⟩ = some (.slice (some ⟨g, 0, none⟩) 1 c) := ⟨hc4.cell ((hb3.cell (p := ⟨mp, 0, none⟩) (cell_lt ((hb2.cell (p := ⟨mp, 0, none⟩) (cell_lt hHe.1)).trans hHe.1))).trans ((hb2.cell (p := ⟨mp, 0, none⟩) (cell_lt hHe.1)).trans hHe.1)) hne, hc4.cell ((hb3.cell (p := ⟨mp, 2, none⟩) (cell_lt ((hb2.cell (p := ⟨mp, 2, none⟩) (cell_lt hHe.2)).trans hHe.2))).trans ((hb2.cell (p := ⟨mp, 2, none⟩) (cell_lt hHe.2)).trans hHe.2)) hne⟩
 have HX := hidZ (show (∀ j u, cs[j]? = some u → w4.cell? ⟨g', j, none⟩ = some u) ∧ Below w.heap.size w w4 from by
  refine ⟨fun j u hj => ?_, ?_⟩
  ·have h2 := hx' j u hj
   refine hc4.cell ((hb3.cell (p := ⟨g', j, none⟩) (cell_lt h2)).trans h2) (fun e => ?_)
   have h4 : w1.drew.heap.size = w1.heap.size := rfl
   have h5 := (Array.getElem?_eq_some_iff.1 HQ1.out.1).1
   omega
  ·have hb := hbw2.trans (hb3.mono hbw2.size)
   exact hb.trans (hc4.below (fun k hk => ⟨Nat.lt_of_lt_of_le hk hb.size, fun e => by have := HQ1.out.2; omega⟩)))
 have HQ4 := hidZ hq4
 have HW4 := hidZ hw4
 clear hb2 hb3 hx' hgl' hq3 hq4 hw4 hc4 hbw2 hne
 refine rdy 12 rfl (fun K hK => ?_)
 rw [if_pos (by rfl)]
 refine wp_store_mid 57 (.tmp 2) (.tmp 17) (by rfl) rb 0 #[.slice (some ⟨g', 0, none⟩) 1 1, .slice none 0 0] (by rfl) (by rfl) ht3 (by kernel_rfl) (by simp [Value.oneCell']) ?_
 refine hK.out _ _ (by have h : _ ∧ _ := hS4; rw [HW4.out] at h; exact h) (fun hHf => ?_)
 clear hK K
 try simp only [Act.put, tzD, tzE, tzF]
 rw [show w3.setCells rb 0 (#[.slice (some ⟨g', 0, none⟩) 1 1, .slice none 0 0] : Array Value).toList = w4 from HW4.out.symm] at hHf ⊢
 clear HW4 ht3
 refine wpAnyH_done (by kernel_rfl) ?_ _
 clear hHe hHf
 go_wp2_with (first
  | ((with_reducible show bodyPost _ _ _ Exit.ret _ _); exact bodyPost_ret (results_cell_row (by exact Tryz.results11) _ _ rb _ _ _ _ (by rfl) HQ4.out Tryz.underlying57 rfl (by kernel_rfl)) rfl ⟨g', rfl, HX.out⟩)
  | fail)
end Go.Proofs.YtnkkoicbnbjlnaaGreatDoor
