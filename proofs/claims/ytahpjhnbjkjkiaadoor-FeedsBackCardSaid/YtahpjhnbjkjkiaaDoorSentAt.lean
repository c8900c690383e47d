/- A command as it is written, in memory: its text, and whether an event is that command. Condition: the library's table of powers is as it must be. -/
import Derived.Test.YtahpjhnbjkjkiaaDoorLowK
import Derived.Test.YtahpjhnbjkjkiaaDoorLowH
import Derived.Test.YtahpjhnbjkjkiaaDoorLowE
namespace Go.Proofs.YtahpjhnbjkjkiaaDoor
open Go.RowKit Go.ChangeMaps Go.MapKept

abbrev sentCells (x : SentD) : List Value := [.int .u8 (x.kind : Int), sv x.key, sv x.data, .int .u32 (x.flags : Int), .int .i32 x.exp, .bool x.quiet, .bool x.cr]
abbrev sentV (x : SentD) : Value := .agg (sentCells x).toArray
/-- Its numbers are of their kinds, its texts short. -/
structure SentNum (x : SentD) : Prop where
  kind : x.kind < 256
  key : x.key.length ≤ 250
  data : x.data.length ≤ 1024
  flags : x.flags < 4294967296
  exp0 : -2147483648 ≤ x.exp
  exp1 : x.exp ≤ 2147483647
theorem low_drewN {B : Nat} {w w' : World} (h : Below B w w') (n : Nat) : Below B w (w'.drewN n) := ⟨h.os, h.tape, h.output, h.size, h.block⟩
theorem cat_op (T a b : List UInt8) (hT : T = a ++ b) (h : a.length + b.length ≤ 9223372036854775807) (W : World) : (Op.stringOp .add ⟨a.toArray⟩ ⟨b.toArray⟩).run Tryd.prog W = .ok (sv T) W := by
  subst hT
  exact cat_sv a b h W
theorem cat_len (T a b : List UInt8) (n m : Nat) (h : T = a ++ b) (ha : a.length ≤ n) (hb : b.length ≤ m) : T.length ≤ n + m := by
  subst h; rw [List.length_append]; omega
def SentS (w : World) (x : SentD) (j : Nat) (nm : List UInt8) (W : World) : Prop := W.cell? ⟨w.heap.size, 0, none⟩ = some (.int .u8 (x.kind : Int)) ∧ W.cell? ⟨w.heap.size, 1, none⟩ = some (sv x.key) ∧ W.cell? ⟨w.heap.size, 2, none⟩ = some (sv x.data) ∧ W.cell? ⟨w.heap.size, 3, none⟩ = some (.int .u32 (x.flags : Int)) ∧ W.cell? ⟨w.heap.size, 4, none⟩ = some (.int .i32 x.exp) ∧ W.cell? ⟨w.heap.size, 5, none⟩ = some (.bool x.quiet) ∧ W.cell? ⟨w.heap.size, 6, none⟩ = some (.bool x.cr) ∧ W.cell? ⟨w.heap.size + 1, j, none⟩ = some (sv nm) ∧ HasPow W ∧ Below w.heap.size w W
theorem sent_keep {w : World} {x : SentD} {j : Nat} {nm : List UInt8} {W W' : World} (hb : Below W.heap.size W W') (h : SentS w x j nm W) : SentS w x j nm W' := by
  have hk := fun (p j : Nat) (x : Value) (hx : W.cell? ⟨p, j, none⟩ = some x) => (hb.cell (p := ⟨p, j, none⟩) (cell_lt hx)).trans hx
  obtain ⟨h0, h1, h2, h3, h4, h5, h6, h7, h8, hl⟩ := h
  exact ⟨hk _ _ _ h0, hk _ _ _ h1, hk _ _ _ h2, hk _ _ _ h3, hk _ _ _ h4, hk _ _ _ h5, hk _ _ _ h6, hk _ _ _ h7, h8.below hb, hl.trans (hb.mono hl.size)⟩
set_option maxRecDepth 100000 in
set_option maxHeartbeats 4000000 in
theorem sentText_0 {x : SentD} (hn : SentNum x) (w : World) (hP : HasPow w) (hj : x.kind % 4 = 0) :
    Calls Tryd.prog 15 #[sentV x] w fun e w' => e = .returned (sv (sentText x)) ∧ Below w.heap.size w w' := by
  have k0 : (0 : Int) ≤ (x.kind : Int) := by omega
  have k1 : (x.kind : Int) % 4 = 0 := by omega
  have k2 : (x.kind : Int).tmod 4 = 0 := by rw [Int.tmod_eq_emod_of_nonneg k0]; exact k1
  have hkl := hn.key
  have hdl := hn.data
  have hexp0 := hn.exp0
  have hexp1 := hn.exp1
  have hfl := hn.flags
  have hcF := fun W (hW : HasPow W) => formatUint_any x.flags (by omega) W hW
  have hcE := fun W (hW : HasPow W) => formatInt_at x.exp (by omega) (by omega) W hW
  have hcN := fun W (hW : HasPow W) => itoa_at (x.data.length : Int) (by omega) (by omega) W hW
  rw [Lib.itoa_nonneg] at hcN
  have hlF := dec_len20 (u := x.flags) (by omega)
  have hlE := itoa_len hexp0 hexp1
  have hlN := dec_len20 (u := x.data.length) (by omega)
  have w1 : IntKind.u64.wrap (x.flags : Int) = (x.flags : Int) := le_small (by omega)
  have w2 : IntKind.i64.wrap x.exp = x.exp := IntWalk.i64_in _ (by omega)
  have hfin0 : sentText x = ((((((((([115, 101, 116] ++ [32]) ++ x.key) ++ [32]) ++ Lib.decDigits x.flags) ++ [32]) ++ Lib.itoa x.exp) ++ [32]) ++ Lib.decDigits x.data.length) ++ (if x.quiet then [32, 110, 111, 114, 101, 112, 108, 121] else [])) ++ (if x.cr then [13] else []) ++ [10] ++ x.data ++ [13, 10] := by
    have hne : ¬ x.kind % 4 = 3 := by omega
    have hv : x.verb = x.kind % 4 + 3 := by unfold SentD.verb; rw [if_neg hne]
    unfold sentText sentLine sentW
    rw [if_neg hne, if_neg hne, hv, hj]
    cases x.quiet <;> cases x.cr <;> simp [join_flat, flatW, names, noreply]
  generalize Lib.decDigits x.flags = F at *
  generalize Lib.itoa x.exp = E at *
  generalize Lib.decDigits x.data.length = N at *
  have l0 : ([115, 101, 116] : List UInt8).length ≤ 7 := by decide
  obtain ⟨T1, h1⟩ : ∃ T : List UInt8, T = [115, 101, 116] ++ [32] := ⟨_, rfl⟩
  have l1 := cat_len _ _ _ _ 1 h1 l0 (by simp)
  have e1 := fun W => cat_op _ [115, 101, 116] [32] h1 (by simp only [List.length_cons, List.length_nil] at *; omega) W
  obtain ⟨T2, h2⟩ : ∃ T : List UInt8, T = T1 ++ x.key := ⟨_, rfl⟩
  have l2 := cat_len _ _ _ _ 250 h2 l1 hkl
  have e2 := fun W => cat_op _ T1 x.key h2 (by simp only [List.length_cons, List.length_nil] at *; omega) W
  obtain ⟨T3, h3⟩ : ∃ T : List UInt8, T = T2 ++ [32] := ⟨_, rfl⟩
  have l3 := cat_len _ _ _ _ 1 h3 l2 (by simp)
  have e3 := fun W => cat_op _ T2 [32] h3 (by simp only [List.length_cons, List.length_nil] at *; omega) W
  obtain ⟨T4, h4⟩ : ∃ T : List UInt8, T = T3 ++ F := ⟨_, rfl⟩
  have l4 := cat_len _ _ _ _ 20 h4 l3 hlF
  have e4 := fun W => cat_op _ T3 F h4 (by simp only [List.length_cons, List.length_nil] at *; omega) W
  obtain ⟨T5, h5⟩ : ∃ T : List UInt8, T = T4 ++ [32] := ⟨_, rfl⟩
  have l5 := cat_len _ _ _ _ 1 h5 l4 (by simp)
  have e5 := fun W => cat_op _ T4 [32] h5 (by simp only [List.length_cons, List.length_nil] at *; omega) W
  obtain ⟨T6, h6⟩ : ∃ T : List UInt8, T = T5 ++ E := ⟨_, rfl⟩
  have l6 := cat_len _ _ _ _ 21 h6 l5 hlE
  have e6 := fun W => cat_op _ T5 E h6 (by simp only [List.length_cons, List.length_nil] at *; omega) W
  obtain ⟨T7, h7⟩ : ∃ T : List UInt8, T = T6 ++ [32] := ⟨_, rfl⟩
  have l7 := cat_len _ _ _ _ 1 h7 l6 (by simp)
  have e7 := fun W => cat_op _ T6 [32] h7 (by simp only [List.length_cons, List.length_nil] at *; omega) W
  obtain ⟨T8, h8⟩ : ∃ T : List UInt8, T = T7 ++ N := ⟨_, rfl⟩
  have l8 := cat_len _ _ _ _ 20 h8 l7 hlN
  have e8 := fun W => cat_op _ T7 N h8 (by simp only [List.length_cons, List.length_nil] at *; omega) W
  rw [← h1, ← h2, ← h3, ← h4, ← h5, ← h6, ← h7, ← h8] at hfin0
  have hs0 := Below.refl w.heap.size w
  obtain ⟨W2, hW2⟩ : ∃ W2, W2 = (w.alloc (.cells (sentCells x).toArray 49)).alloc (.cells #[sv [115, 101, 116], sv [97, 100, 100], sv [114, 101, 112, 108, 97, 99, 101]] 73) := ⟨_, rfl⟩
  have hb2 : Below w.heap.size w W2 := by rw [hW2]; exact ((Below.refl _ _).alloc (Nat.le_refl _) _).alloc (by simp) _
  have hp2 : HasPow W2 := hP.below hb2
  clear h1 h2 h3 h4 h5 h6 h7 h8 hP hn hj hs0
  have HFIN := Lib.hid hfin0
  have HCF := Lib.hid hcF
  have HCE := Lib.hid hcE
  have HCN := Lib.hid hcN
  have HB2 := Lib.hid hb2
  have HP2 := Lib.hid hp2
  clear hfin0 hcF hcE hcN hb2 hp2
  go_enter Tryd.func15, Tryd.ntmps15
  go_wp2_with fail
  rw [← hW2]
  have hS0 : SentS w x 0 [115, 101, 116] W2.drew := by
    have hbx : W2.heap[w.heap.size]? = some (.cells (sentCells x).toArray 49 (0, 0)) := by rw [hW2, heap_at, if_neg (by simp), heap_at, if_pos rfl]
    have hbv : W2.heap[w.heap.size + 1]? = some (.cells #[sv [115, 101, 116], sv [97, 100, 100], sv [114, 101, 112, 108, 97, 99, 101]] 73 (0, 0)) := by rw [hW2, heap_at, if_pos (by simp)]
    exact ⟨(block_cell hbx 0).1, (block_cell hbx 1).1, (block_cell hbx 2).1, (block_cell hbx 3).1, (block_cell hbx 4).1, (block_cell hbx 5).1, (block_cell hbx 6).1, (block_cell hbv 0).1, HP2.out, HB2.out.drew⟩
  clear hW2
  refine wp_region_held_drew (S := fun W => W.cell? ⟨w.heap.size, 0, none⟩ = some (.int .u8 (x.kind : Int)) ∧ W.cell? ⟨w.heap.size, 1, none⟩ = some (sv x.key) ∧ W.cell? ⟨w.heap.size, 2, none⟩ = some (sv x.data) ∧ W.cell? ⟨w.heap.size, 3, none⟩ = some (.int .u32 (x.flags : Int)) ∧ W.cell? ⟨w.heap.size, 4, none⟩ = some (.int .i32 x.exp) ∧ W.cell? ⟨w.heap.size, 5, none⟩ = some (.bool x.quiet) ∧ W.cell? ⟨w.heap.size, 6, none⟩ = some (.bool x.cr) ∧ W.cell? ⟨w.heap.size + 1, 0, none⟩ = some (sv [115, 101, 116]) ∧ HasPow W ∧ Below w.heap.size w W) (by kernel_rfl) hS0 (fun hHeld => ?_)
  clear hS0
  refine wpAnyH_take (i := 0) (v := ?_) rfl (by kernel_rfl) (by kernel_rfl) (by kernel_rfl) (fun _ _ _ h => h) (Or.inl ⟨by rfl, ?_⟩) (by assumption) ?_
  rotate_left 1
  · ((intro w hSw; (try dsimp only at hSw); go_simp) <;> with_reducible rfl)
  try simp only [Act.put, List.setIfInBounds_toArray, List.set_cons_zero, List.set_cons_succ, List.getElem_toArray, List.getElem_cons_zero]
  refine wpAnyH_take (i := 1) (v := ?_) rfl (by kernel_rfl) (by kernel_rfl) (by kernel_rfl) (fun _ _ _ h => h) (Or.inl ⟨by rfl, ?_⟩) (by assumption) ?_
  rotate_left 1
  · ((intro w hSw; (try dsimp only at hSw); go_simp) <;> with_reducible rfl)
  try simp only [Act.put, List.setIfInBounds_toArray, List.set_cons_zero, List.set_cons_succ, List.getElem_toArray, List.getElem_cons_zero, List.getElem_cons_succ]
  refine wpAnyH_take (i := 2) (v := ?_) rfl (by kernel_rfl) (by kernel_rfl) (by kernel_rfl) (fun _ _ _ h => h) (Or.inl ⟨by rfl, ?_⟩) (by assumption) ?_
  rotate_left 1
  · ((intro w hSw; (try dsimp only at hSw); go_simp) <;> with_reducible rfl)
  try simp only [Act.put, List.setIfInBounds_toArray, List.set_cons_zero, List.set_cons_succ, List.getElem_toArray, List.getElem_cons_zero, List.getElem_cons_succ]
  refine wpAnyH_take (i := 3) (v := ?_) rfl (by kernel_rfl) (by kernel_rfl) (by kernel_rfl) (fun _ _ _ h => h) (Or.inl ⟨by rfl, ?_⟩) (by assumption) ?_
  rotate_left 1
  · ((intro w hSw; (try dsimp only at hSw); go_simp) <;> with_reducible rfl)
  try simp only [Act.put, List.setIfInBounds_toArray, List.set_cons_zero, List.set_cons_succ, List.getElem_toArray, List.getElem_cons_zero, List.getElem_cons_succ]
  refine wpAnyH_take (i := 4) (v := ?_) rfl (by kernel_rfl) (by kernel_rfl) (by kernel_rfl) (fun _ _ _ h => h) (Or.inl ⟨by rfl, ?_⟩) (by assumption) ?_
  rotate_left 1
  · ((intro w hSw; (try dsimp only at hSw); go_simp) <;> with_reducible rfl)
  try simp only [Act.put, List.setIfInBounds_toArray, List.set_cons_zero, List.set_cons_succ, List.getElem_toArray, List.getElem_cons_zero, List.getElem_cons_succ]
  refine wpAnyH_take (i := 5) (v := ?_) rfl (by kernel_rfl) (by kernel_rfl) (by kernel_rfl) (fun _ _ _ h => h) (Or.inl ⟨by rfl, ?_⟩) (by assumption) ?_
  rotate_left 1
  · ((intro w hSw; (try dsimp only at hSw); go_simp) <;> with_reducible rfl)
  try simp only [Act.put, List.setIfInBounds_toArray, List.set_cons_zero, List.set_cons_succ, List.getElem_toArray, List.getElem_cons_zero, List.getElem_cons_succ]
  refine wpAnyH_take (i := 6) (v := ?_) rfl (by kernel_rfl) (by kernel_rfl) (by kernel_rfl) (fun _ _ _ h => h) (Or.inl ⟨by rfl, ?_⟩) (by assumption) ?_
  rotate_left 1
  · ((intro w hSw; (try dsimp only at hSw); go_simp) <;> with_reducible rfl)
  try simp only [Act.put, List.setIfInBounds_toArray, List.set_cons_zero, List.set_cons_succ, List.getElem_toArray, List.getElem_cons_zero, List.getElem_cons_succ]
  refine wpAnyH_take (i := 7) (v := ?_) rfl (by kernel_rfl) (by kernel_rfl) (by kernel_rfl) (fun _ _ _ h => h) (Or.inl ⟨by rfl, ?_⟩) (by assumption) ?_
  rotate_left 1
  · ((intro w hSw; (try dsimp only at hSw); go_simp) <;> with_reducible rfl)
  try simp only [Act.put, List.setIfInBounds_toArray, List.set_cons_zero, List.set_cons_succ, List.getElem_toArray, List.getElem_cons_zero, List.getElem_cons_succ]
  refine wpAnyH_take (i := 8) (v := ?_) rfl (by kernel_rfl) (by kernel_rfl) (by kernel_rfl) (fun _ _ _ h => h) (Or.inl ⟨by rfl, ?_⟩) (by assumption) ?_
  rotate_left 1
  · ((intro w hSw; (try dsimp only at hSw); go_simp) <;> with_reducible rfl)
  try simp only [Act.put, List.setIfInBounds_toArray, List.set_cons_zero, List.set_cons_succ, List.getElem_toArray, List.getElem_cons_zero, List.getElem_cons_succ]
  refine wpAnyH_take (i := 9) (v := ?_) rfl (by kernel_rfl) (by kernel_rfl) (by kernel_rfl) (fun _ _ _ h => h) (Or.inl ⟨by rfl, ?_⟩) (by assumption) ?_
  rotate_left 1
  · ((intro w hSw; (try dsimp only at hSw); go_simp) <;> with_reducible rfl)
  try simp only [Act.put, List.setIfInBounds_toArray, List.set_cons_zero, List.set_cons_succ, List.getElem_toArray, List.getElem_cons_zero, List.getElem_cons_succ]
  refine wpAnyH_take (i := 10) (v := ?_) rfl (by kernel_rfl) (by kernel_rfl) (by kernel_rfl) (fun _ _ _ h => h) (Or.inl ⟨by rfl, ?_⟩) (by assumption) ?_
  rotate_left 1
  · ((intro w hSw; (try dsimp only at hSw); go_simp) <;> with_reducible rfl)
  try simp only [Act.put, List.setIfInBounds_toArray, List.set_cons_zero, List.set_cons_succ, List.getElem_toArray, List.getElem_cons_zero, List.getElem_cons_succ]
  refine wpAnyH_take (i := 11) (v := ?_) rfl (by kernel_rfl) (by kernel_rfl) (by kernel_rfl) (fun _ _ _ h => h) (Or.inl ⟨by rfl, ?_⟩) (by assumption) ?_
  rotate_left 1
  · ((intro w hSw; (try dsimp only at hSw); go_simp) <;> with_reducible rfl)
  try simp only [Act.put, List.setIfInBounds_toArray, List.set_cons_zero, List.set_cons_succ, List.getElem_toArray, List.getElem_cons_zero, List.getElem_cons_succ]
  refine wpAnyH_take (i := 12) (v := ?_) rfl (by kernel_rfl) (by kernel_rfl) (by kernel_rfl) (fun _ _ _ h => h) (Or.inl ⟨by rfl, ?_⟩) (by assumption) ?_
  rotate_left 1
  · ((intro w hSw; (try dsimp only at hSw); go_simp) <;> with_reducible rfl)
  try simp only [Act.put, List.setIfInBounds_toArray, List.set_cons_zero, List.set_cons_succ, List.getElem_toArray, List.getElem_cons_zero, List.getElem_cons_succ]
  refine wpAnyH_take (i := 16) (v := ?_) rfl (by kernel_rfl) (by kernel_rfl) (by kernel_rfl) (fun _ _ _ h => h) (Or.inl ⟨by rfl, ?_⟩) (by assumption) ?_
  rotate_left 1
  · ((intro w hSw; (try dsimp only at hSw); go_simp) <;> with_reducible rfl)
  try simp only [Act.put, List.setIfInBounds_toArray, List.set_cons_zero, List.set_cons_succ, List.getElem_toArray, List.getElem_cons_zero, List.getElem_cons_succ]
  refine wpAnyH_take (i := 17) (v := ?_) rfl (by kernel_rfl) (by kernel_rfl) (by kernel_rfl) (fun _ _ _ h => h) (Or.inl ⟨by rfl, ?_⟩) (by assumption) ?_
  rotate_left 1
  · ((intro w hSw; (try dsimp only at hSw); go_simp) <;> with_reducible rfl)
  try simp only [Act.put, List.setIfInBounds_toArray, List.set_cons_zero, List.set_cons_succ, List.getElem_toArray, List.getElem_cons_zero, List.getElem_cons_succ]
  refine wpAnyH_take (i := 18) (v := ?_) rfl (by kernel_rfl) (by kernel_rfl) (by kernel_rfl) (fun _ _ _ h => h) (Or.inl ⟨by rfl, ?_⟩) (by assumption) ?_
  rotate_left 1
  · ((intro w hSw; (try dsimp only at hSw); go_simp) <;> with_reducible rfl)
  try simp only [Act.put, List.setIfInBounds_toArray, List.set_cons_zero, List.set_cons_succ, List.getElem_toArray, List.getElem_cons_zero, List.getElem_cons_succ]
  refine wpAnyH_take (i := 22) (v := ?_) rfl (by kernel_rfl) (by kernel_rfl) (by kernel_rfl) (fun _ _ _ h => h) (Or.inl ⟨by rfl, ?_⟩) (by assumption) ?_
  rotate_left 1
  · ((intro w hSw; (try dsimp only at hSw); go_simp) <;> with_reducible rfl)
  try simp only [Act.put, List.setIfInBounds_toArray, List.set_cons_zero, List.set_cons_succ, List.getElem_toArray, List.getElem_cons_zero, List.getElem_cons_succ]
  refine wpAnyH_take (i := 23) (v := ?_) rfl (by kernel_rfl) (by kernel_rfl) (by kernel_rfl) (fun _ _ _ h => h) (Or.inl ⟨by rfl, ?_⟩) (by assumption) ?_
  rotate_left 1
  · ((intro w hSw; (try dsimp only at hSw); go_simp) <;> with_reducible rfl)
  try simp only [Act.put, List.setIfInBounds_toArray, List.set_cons_zero, List.set_cons_succ, List.getElem_toArray, List.getElem_cons_zero, List.getElem_cons_succ]
  refine wpAnyH_take (i := 24) (v := ?_) rfl (by kernel_rfl) (by kernel_rfl) (by kernel_rfl) (fun _ _ _ h => h) (Or.inl ⟨by rfl, ?_⟩) (by assumption) ?_
  rotate_left 1
  · ((intro w hSw; (try dsimp only at hSw); go_simp) <;> with_reducible rfl)
  try simp only [Act.put, List.setIfInBounds_toArray, List.set_cons_zero, List.set_cons_succ, List.getElem_toArray, List.getElem_cons_zero, List.getElem_cons_succ]
  refine wpAnyH_ready (rs := [13]) (by kernel_rfl) (by simp) ?_
  refine AllReadyH.cons rfl (fun K hK => ?_) AllReadyH.nil
  go_split_ands
  go_simp
  go_at_call 28
  refine (HCF.out _ (by assumption)).mono ?_
  rintro e w9 ⟨rfl, hb9⟩
  refine hK.out _ _ (sent_keep (w := w) (x := x) (j := 0) (nm := [115, 101, 116]) hb9 ⟨by assumption, by assumption, by assumption, by assumption, by assumption, by assumption, by assumption, by assumption, by assumption, by assumption⟩) (fun hHeld2 => ?_)
  clear hK K
  try simp only [Act.put, List.setIfInBounds_toArray, List.set_cons_zero, List.set_cons_succ, List.getElem_toArray, List.getElem_cons_zero, List.getElem_cons_succ]
  refine wpAnyH_take (i := 14) (v := ?_) rfl (by kernel_rfl) (by kernel_rfl) (by kernel_rfl) (fun _ _ _ h => h) (Or.inl ⟨by rfl, ?_⟩) (by assumption) ?_
  rotate_left 1
  · ((intro w hSw; (try dsimp only at hSw); go_simp) <;> with_reducible rfl)
  try simp only [Act.put, List.setIfInBounds_toArray, List.set_cons_zero, List.set_cons_succ, List.getElem_toArray, List.getElem_cons_zero, List.getElem_cons_succ]
  refine wpAnyH_take (i := 15) (v := ?_) rfl (by kernel_rfl) (by kernel_rfl) (by kernel_rfl) (fun _ _ _ h => h) (Or.inl ⟨by rfl, ?_⟩) (by assumption) ?_
  rotate_left 1
  · ((intro w hSw; (try dsimp only at hSw); go_simp) <;> with_reducible rfl)
  try simp only [Act.put, List.setIfInBounds_toArray, List.set_cons_zero, List.set_cons_succ, List.getElem_toArray, List.getElem_cons_zero, List.getElem_cons_succ]
  refine wpAnyH_ready (rs := [19]) (by kernel_rfl) (by simp) ?_
  refine AllReadyH.cons rfl (fun K hK => ?_) AllReadyH.nil
  go_split_ands
  go_simp
  go_at_call 29
  refine (HCE.out _ (by assumption)).mono ?_
  rintro e w9 ⟨rfl, hb9⟩
  refine hK.out _ _ (sent_keep (w := w) (x := x) (j := 0) (nm := [115, 101, 116]) hb9 ⟨by assumption, by assumption, by assumption, by assumption, by assumption, by assumption, by assumption, by assumption, by assumption, by assumption⟩) (fun hHeld2 => ?_)
  clear hK K
  try simp only [Act.put, List.setIfInBounds_toArray, List.set_cons_zero, List.set_cons_succ, List.getElem_toArray, List.getElem_cons_zero, List.getElem_cons_succ]
  refine wpAnyH_take (i := 20) (v := ?_) rfl (by kernel_rfl) (by kernel_rfl) (by kernel_rfl) (fun _ _ _ h => h) (Or.inl ⟨by rfl, ?_⟩) (by assumption) ?_
  rotate_left 1
  · ((intro w hSw; (try dsimp only at hSw); go_simp) <;> with_reducible rfl)
  try simp only [Act.put, List.setIfInBounds_toArray, List.set_cons_zero, List.set_cons_succ, List.getElem_toArray, List.getElem_cons_zero, List.getElem_cons_succ]
  refine wpAnyH_take (i := 21) (v := ?_) rfl (by kernel_rfl) (by kernel_rfl) (by kernel_rfl) (fun _ _ _ h => h) (Or.inl ⟨by rfl, ?_⟩) (by assumption) ?_
  rotate_left 1
  · ((intro w hSw; (try dsimp only at hSw); go_simp) <;> with_reducible rfl)
  try simp only [Act.put, List.setIfInBounds_toArray, List.set_cons_zero, List.set_cons_succ, List.getElem_toArray, List.getElem_cons_zero, List.getElem_cons_succ]
  refine wpAnyH_ready (rs := [25]) (by kernel_rfl) (by simp) ?_
  refine AllReadyH.cons rfl (fun K hK => ?_) AllReadyH.nil
  go_split_ands
  go_simp
  go_at_call 30
  refine (HCN.out _ (by assumption)).mono ?_
  rintro e w9 ⟨rfl, hb9⟩
  refine hK.out _ _ (sent_keep (w := w) (x := x) (j := 0) (nm := [115, 101, 116]) hb9 ⟨by assumption, by assumption, by assumption, by assumption, by assumption, by assumption, by assumption, by assumption, by assumption, by assumption⟩) (fun hHeld2 => ?_)
  clear hK K
  try simp only [Act.put, List.setIfInBounds_toArray, List.set_cons_zero, List.set_cons_succ, List.getElem_toArray, List.getElem_cons_zero, List.getElem_cons_succ]
  refine wpAnyH_take (i := 26) (v := ?_) rfl (by kernel_rfl) (by kernel_rfl) (by kernel_rfl) (fun _ _ _ h => h) (Or.inl ⟨by rfl, ?_⟩) (by assumption) ?_
  rotate_left 1
  · ((intro w hSw; (try dsimp only at hSw); go_simp) <;> with_reducible rfl)
  try simp only [Act.put, List.setIfInBounds_toArray, List.set_cons_zero, List.set_cons_succ, List.getElem_toArray, List.getElem_cons_zero, List.getElem_cons_succ]
  refine wpAnyH_take (i := 27) (v := ?_) rfl (by kernel_rfl) (by kernel_rfl) (by kernel_rfl) (fun _ _ _ h => h) (Or.inl ⟨by rfl, ?_⟩) (by assumption) ?_
  rotate_left 1
  · ((intro w hSw; (try dsimp only at hSw); go_simp) <;> with_reducible rfl)
  try simp only [Act.put, List.setIfInBounds_toArray, List.set_cons_zero, List.set_cons_succ, List.getElem_toArray, List.getElem_cons_zero, List.getElem_cons_succ]
  refine wpAnyH_done (by kernel_rfl) ?_ _
  go_split_ands
  clear e1 e2 e3 e4 e5 e6 e7 e8 HCF HCE HCN HB2 HP2 w1 w2
  obtain ⟨kd, key, data, fl, ex, q, r⟩ := x
  dsimp only at *
  cases q <;> cases r
  · obtain ⟨U1, g1⟩ : ∃ T : List UInt8, T = T8 ++ [10] := ⟨_, rfl⟩
    have m1 := cat_len _ _ _ _ 1 g1 l8 (by simp)
    have f1 := fun W => cat_op _ T8 [10] g1 (by simp only [List.length_cons, List.length_nil] at *; omega) W
    obtain ⟨U2, g2⟩ : ∃ T : List UInt8, T = U1 ++ data := ⟨_, rfl⟩
    have m2 := cat_len _ _ _ _ 1024 g2 m1 hdl
    have f2 := fun W => cat_op _ U1 data g2 (by simp only [List.length_cons, List.length_nil] at *; omega) W
    obtain ⟨U3, g3⟩ : ∃ T : List UInt8, T = U2 ++ [13, 10] := ⟨_, rfl⟩
    have m3 := cat_len _ _ _ _ 2 g3 m2 (by simp)
    have f3 := fun W => cat_op _ U2 [13, 10] g3 (by simp only [List.length_cons, List.length_nil] at *; omega) W
    have HG := Lib.hid (show sentText _ = U3 from by rw [HFIN.out, g3, g2, g1]; simp)
    clear HFIN g1 g2 g3
    go_wp2_with fail
    go_ret
    exact ⟨congrArg (fun l => Ending.returned (sv l)) HG.out.symm, by assumption⟩
  · obtain ⟨U1, g1⟩ : ∃ T : List UInt8, T = T8 ++ [13] := ⟨_, rfl⟩
    have m1 := cat_len _ _ _ _ 1 g1 l8 (by simp)
    have f1 := fun W => cat_op _ T8 [13] g1 (by simp only [List.length_cons, List.length_nil] at *; omega) W
    obtain ⟨U2, g2⟩ : ∃ T : List UInt8, T = U1 ++ [10] := ⟨_, rfl⟩
    have m2 := cat_len _ _ _ _ 1 g2 m1 (by simp)
    have f2 := fun W => cat_op _ U1 [10] g2 (by simp only [List.length_cons, List.length_nil] at *; omega) W
    obtain ⟨U3, g3⟩ : ∃ T : List UInt8, T = U2 ++ data := ⟨_, rfl⟩
    have m3 := cat_len _ _ _ _ 1024 g3 m2 hdl
    have f3 := fun W => cat_op _ U2 data g3 (by simp only [List.length_cons, List.length_nil] at *; omega) W
    obtain ⟨U4, g4⟩ : ∃ T : List UInt8, T = U3 ++ [13, 10] := ⟨_, rfl⟩
    have m4 := cat_len _ _ _ _ 2 g4 m3 (by simp)
    have f4 := fun W => cat_op _ U3 [13, 10] g4 (by simp only [List.length_cons, List.length_nil] at *; omega) W
    have HG := Lib.hid (show sentText _ = U4 from by rw [HFIN.out, g4, g3, g2, g1]; simp)
    clear HFIN g1 g2 g3 g4
    go_wp2_with fail
    go_ret
    exact ⟨congrArg (fun l => Ending.returned (sv l)) HG.out.symm, by assumption⟩
  · obtain ⟨U1, g1⟩ : ∃ T : List UInt8, T = T8 ++ [32, 110, 111, 114, 101, 112, 108, 121] := ⟨_, rfl⟩
    have m1 := cat_len _ _ _ _ 8 g1 l8 (by simp)
    have f1 := fun W => cat_op _ T8 [32, 110, 111, 114, 101, 112, 108, 121] g1 (by simp only [List.length_cons, List.length_nil] at *; omega) W
    obtain ⟨U2, g2⟩ : ∃ T : List UInt8, T = U1 ++ [10] := ⟨_, rfl⟩
    have m2 := cat_len _ _ _ _ 1 g2 m1 (by simp)
    have f2 := fun W => cat_op _ U1 [10] g2 (by simp only [List.length_cons, List.length_nil] at *; omega) W
    obtain ⟨U3, g3⟩ : ∃ T : List UInt8, T = U2 ++ data := ⟨_, rfl⟩
    have m3 := cat_len _ _ _ _ 1024 g3 m2 hdl
    have f3 := fun W => cat_op _ U2 data g3 (by simp only [List.length_cons, List.length_nil] at *; omega) W
    obtain ⟨U4, g4⟩ : ∃ T : List UInt8, T = U3 ++ [13, 10] := ⟨_, rfl⟩
    have m4 := cat_len _ _ _ _ 2 g4 m3 (by simp)
    have f4 := fun W => cat_op _ U3 [13, 10] g4 (by simp only [List.length_cons, List.length_nil] at *; omega) W
    have HG := Lib.hid (show sentText _ = U4 from by rw [HFIN.out, g4, g3, g2, g1]; simp)
    clear HFIN g1 g2 g3 g4
    go_wp2_with fail
    go_ret
    exact ⟨congrArg (fun l => Ending.returned (sv l)) HG.out.symm, by assumption⟩
  · obtain ⟨U1, g1⟩ : ∃ T : List UInt8, T = T8 ++ [32, 110, 111, 114, 101, 112, 108, 121] := ⟨_, rfl⟩
    have m1 := cat_len _ _ _ _ 8 g1 l8 (by simp)
    have f1 := fun W => cat_op _ T8 [32, 110, 111, 114, 101, 112, 108, 121] g1 (by simp only [List.length_cons, List.length_nil] at *; omega) W
    obtain ⟨U2, g2⟩ : ∃ T : List UInt8, T = U1 ++ [13] := ⟨_, rfl⟩
    have m2 := cat_len _ _ _ _ 1 g2 m1 (by simp)
    have f2 := fun W => cat_op _ U1 [13] g2 (by simp only [List.length_cons, List.length_nil] at *; omega) W
    obtain ⟨U3, g3⟩ : ∃ T : List UInt8, T = U2 ++ [10] := ⟨_, rfl⟩
    have m3 := cat_len _ _ _ _ 1 g3 m2 (by simp)
    have f3 := fun W => cat_op _ U2 [10] g3 (by simp only [List.length_cons, List.length_nil] at *; omega) W
    obtain ⟨U4, g4⟩ : ∃ T : List UInt8, T = U3 ++ data := ⟨_, rfl⟩
    have m4 := cat_len _ _ _ _ 1024 g4 m3 hdl
    have f4 := fun W => cat_op _ U3 data g4 (by simp only [List.length_cons, List.length_nil] at *; omega) W
    obtain ⟨U5, g5⟩ : ∃ T : List UInt8, T = U4 ++ [13, 10] := ⟨_, rfl⟩
    have m5 := cat_len _ _ _ _ 2 g5 m4 (by simp)
    have f5 := fun W => cat_op _ U4 [13, 10] g5 (by simp only [List.length_cons, List.length_nil] at *; omega) W
    have HG := Lib.hid (show sentText _ = U5 from by rw [HFIN.out, g5, g4, g3, g2, g1]; simp)
    clear HFIN g1 g2 g3 g4 g5
    go_wp2_with fail
    go_ret
    exact ⟨congrArg (fun l => Ending.returned (sv l)) HG.out.symm, by assumption⟩
set_option maxRecDepth 100000 in
set_option maxHeartbeats 4000000 in
theorem sentText_1 {x : SentD} (hn : SentNum x) (w : World) (hP : HasPow w) (hj : x.kind % 4 = 1) :
    Calls Tryd.prog 15 #[sentV x] w fun e w' => e = .returned (sv (sentText x)) ∧ Below w.heap.size w w' := by
  have k0 : (0 : Int) ≤ (x.kind : Int) := by omega
  have k1 : (x.kind : Int) % 4 = 1 := by omega
  have k2 : (x.kind : Int).tmod 4 = 1 := by rw [Int.tmod_eq_emod_of_nonneg k0]; exact k1
  have hkl := hn.key
  have hdl := hn.data
  have hexp0 := hn.exp0
  have hexp1 := hn.exp1
  have hfl := hn.flags
  have hcF := fun W (hW : HasPow W) => formatUint_any x.flags (by omega) W hW
  have hcE := fun W (hW : HasPow W) => formatInt_at x.exp (by omega) (by omega) W hW
  have hcN := fun W (hW : HasPow W) => itoa_at (x.data.length : Int) (by omega) (by omega) W hW
  rw [Lib.itoa_nonneg] at hcN
  have hlF := dec_len20 (u := x.flags) (by omega)
  have hlE := itoa_len hexp0 hexp1
  have hlN := dec_len20 (u := x.data.length) (by omega)
  have w1 : IntKind.u64.wrap (x.flags : Int) = (x.flags : Int) := le_small (by omega)
  have w2 : IntKind.i64.wrap x.exp = x.exp := IntWalk.i64_in _ (by omega)
  have hfin0 : sentText x = ((((((((([97, 100, 100] ++ [32]) ++ x.key) ++ [32]) ++ Lib.decDigits x.flags) ++ [32]) ++ Lib.itoa x.exp) ++ [32]) ++ Lib.decDigits x.data.length) ++ (if x.quiet then [32, 110, 111, 114, 101, 112, 108, 121] else [])) ++ (if x.cr then [13] else []) ++ [10] ++ x.data ++ [13, 10] := by
    have hne : ¬ x.kind % 4 = 3 := by omega
    have hv : x.verb = x.kind % 4 + 3 := by unfold SentD.verb; rw [if_neg hne]
    unfold sentText sentLine sentW
    rw [if_neg hne, if_neg hne, hv, hj]
    cases x.quiet <;> cases x.cr <;> simp [join_flat, flatW, names, noreply]
  generalize Lib.decDigits x.flags = F at *
  generalize Lib.itoa x.exp = E at *
  generalize Lib.decDigits x.data.length = N at *
  have l0 : ([97, 100, 100] : List UInt8).length ≤ 7 := by decide
  obtain ⟨T1, h1⟩ : ∃ T : List UInt8, T = [97, 100, 100] ++ [32] := ⟨_, rfl⟩
  have l1 := cat_len _ _ _ _ 1 h1 l0 (by simp)
  have e1 := fun W => cat_op _ [97, 100, 100] [32] h1 (by simp only [List.length_cons, List.length_nil] at *; omega) W
  obtain ⟨T2, h2⟩ : ∃ T : List UInt8, T = T1 ++ x.key := ⟨_, rfl⟩
  have l2 := cat_len _ _ _ _ 250 h2 l1 hkl
  have e2 := fun W => cat_op _ T1 x.key h2 (by simp only [List.length_cons, List.length_nil] at *; omega) W
  obtain ⟨T3, h3⟩ : ∃ T : List UInt8, T = T2 ++ [32] := ⟨_, rfl⟩
  have l3 := cat_len _ _ _ _ 1 h3 l2 (by simp)
  have e3 := fun W => cat_op _ T2 [32] h3 (by simp only [List.length_cons, List.length_nil] at *; omega) W
  obtain ⟨T4, h4⟩ : ∃ T : List UInt8, T = T3 ++ F := ⟨_, rfl⟩
  have l4 := cat_len _ _ _ _ 20 h4 l3 hlF
  have e4 := fun W => cat_op _ T3 F h4 (by simp only [List.length_cons, List.length_nil] at *; omega) W
  obtain ⟨T5, h5⟩ : ∃ T : List UInt8, T = T4 ++ [32] := ⟨_, rfl⟩
  have l5 := cat_len _ _ _ _ 1 h5 l4 (by simp)
  have e5 := fun W => cat_op _ T4 [32] h5 (by simp only [List.length_cons, List.length_nil] at *; omega) W
  obtain ⟨T6, h6⟩ : ∃ T : List UInt8, T = T5 ++ E := ⟨_, rfl⟩
  have l6 := cat_len _ _ _ _ 21 h6 l5 hlE
  have e6 := fun W => cat_op _ T5 E h6 (by simp only [List.length_cons, List.length_nil] at *; omega) W
  obtain ⟨T7, h7⟩ : ∃ T : List UInt8, T = T6 ++ [32] := ⟨_, rfl⟩
  have l7 := cat_len _ _ _ _ 1 h7 l6 (by simp)
  have e7 := fun W => cat_op _ T6 [32] h7 (by simp only [List.length_cons, List.length_nil] at *; omega) W
  obtain ⟨T8, h8⟩ : ∃ T : List UInt8, T = T7 ++ N := ⟨_, rfl⟩
  have l8 := cat_len _ _ _ _ 20 h8 l7 hlN
  have e8 := fun W => cat_op _ T7 N h8 (by simp only [List.length_cons, List.length_nil] at *; omega) W
  rw [← h1, ← h2, ← h3, ← h4, ← h5, ← h6, ← h7, ← h8] at hfin0
  have hs0 := Below.refl w.heap.size w
  obtain ⟨W2, hW2⟩ : ∃ W2, W2 = (w.alloc (.cells (sentCells x).toArray 49)).alloc (.cells #[sv [115, 101, 116], sv [97, 100, 100], sv [114, 101, 112, 108, 97, 99, 101]] 73) := ⟨_, rfl⟩
  have hb2 : Below w.heap.size w W2 := by rw [hW2]; exact ((Below.refl _ _).alloc (Nat.le_refl _) _).alloc (by simp) _
  have hp2 : HasPow W2 := hP.below hb2
  clear h1 h2 h3 h4 h5 h6 h7 h8 hP hn hj hs0
  have HFIN := Lib.hid hfin0
  have HCF := Lib.hid hcF
  have HCE := Lib.hid hcE
  have HCN := Lib.hid hcN
  have HB2 := Lib.hid hb2
  have HP2 := Lib.hid hp2
  clear hfin0 hcF hcE hcN hb2 hp2
  go_enter Tryd.func15, Tryd.ntmps15
  go_wp2_with fail
  rw [← hW2]
  have hS0 : SentS w x 1 [97, 100, 100] W2.drew := by
    have hbx : W2.heap[w.heap.size]? = some (.cells (sentCells x).toArray 49 (0, 0)) := by rw [hW2, heap_at, if_neg (by simp), heap_at, if_pos rfl]
    have hbv : W2.heap[w.heap.size + 1]? = some (.cells #[sv [115, 101, 116], sv [97, 100, 100], sv [114, 101, 112, 108, 97, 99, 101]] 73 (0, 0)) := by rw [hW2, heap_at, if_pos (by simp)]
    exact ⟨(block_cell hbx 0).1, (block_cell hbx 1).1, (block_cell hbx 2).1, (block_cell hbx 3).1, (block_cell hbx 4).1, (block_cell hbx 5).1, (block_cell hbx 6).1, (block_cell hbv 1).1, HP2.out, HB2.out.drew⟩
  clear hW2
  refine wp_region_held_drew (S := fun W => W.cell? ⟨w.heap.size, 0, none⟩ = some (.int .u8 (x.kind : Int)) ∧ W.cell? ⟨w.heap.size, 1, none⟩ = some (sv x.key) ∧ W.cell? ⟨w.heap.size, 2, none⟩ = some (sv x.data) ∧ W.cell? ⟨w.heap.size, 3, none⟩ = some (.int .u32 (x.flags : Int)) ∧ W.cell? ⟨w.heap.size, 4, none⟩ = some (.int .i32 x.exp) ∧ W.cell? ⟨w.heap.size, 5, none⟩ = some (.bool x.quiet) ∧ W.cell? ⟨w.heap.size, 6, none⟩ = some (.bool x.cr) ∧ W.cell? ⟨w.heap.size + 1, 1, none⟩ = some (sv [97, 100, 100]) ∧ HasPow W ∧ Below w.heap.size w W) (by kernel_rfl) hS0 (fun hHeld => ?_)
  clear hS0
  refine wpAnyH_take (i := 0) (v := ?_) rfl (by kernel_rfl) (by kernel_rfl) (by kernel_rfl) (fun _ _ _ h => h) (Or.inl ⟨by rfl, ?_⟩) (by assumption) ?_
  rotate_left 1
  · ((intro w hSw; (try dsimp only at hSw); go_simp) <;> with_reducible rfl)
  try simp only [Act.put, List.setIfInBounds_toArray, List.set_cons_zero, List.set_cons_succ, List.getElem_toArray, List.getElem_cons_zero]
  refine wpAnyH_take (i := 1) (v := ?_) rfl (by kernel_rfl) (by kernel_rfl) (by kernel_rfl) (fun _ _ _ h => h) (Or.inl ⟨by rfl, ?_⟩) (by assumption) ?_
  rotate_left 1
  · ((intro w hSw; (try dsimp only at hSw); go_simp) <;> with_reducible rfl)
  try simp only [Act.put, List.setIfInBounds_toArray, List.set_cons_zero, List.set_cons_succ, List.getElem_toArray, List.getElem_cons_zero, List.getElem_cons_succ]
  refine wpAnyH_take (i := 2) (v := ?_) rfl (by kernel_rfl) (by kernel_rfl) (by kernel_rfl) (fun _ _ _ h => h) (Or.inl ⟨by rfl, ?_⟩) (by assumption) ?_
  rotate_left 1
  · ((intro w hSw; (try dsimp only at hSw); go_simp) <;> with_reducible rfl)
  try simp only [Act.put, List.setIfInBounds_toArray, List.set_cons_zero, List.set_cons_succ, List.getElem_toArray, List.getElem_cons_zero, List.getElem_cons_succ]
  refine wpAnyH_take (i := 3) (v := ?_) rfl (by kernel_rfl) (by kernel_rfl) (by kernel_rfl) (fun _ _ _ h => h) (Or.inl ⟨by rfl, ?_⟩) (by assumption) ?_
  rotate_left 1
  · ((intro w hSw; (try dsimp only at hSw); go_simp) <;> with_reducible rfl)
  try simp only [Act.put, List.setIfInBounds_toArray, List.set_cons_zero, List.set_cons_succ, List.getElem_toArray, List.getElem_cons_zero, List.getElem_cons_succ]
  refine wpAnyH_take (i := 4) (v := ?_) rfl (by kernel_rfl) (by kernel_rfl) (by kernel_rfl) (fun _ _ _ h => h) (Or.inl ⟨by rfl, ?_⟩) (by assumption) ?_
  rotate_left 1
  · ((intro w hSw; (try dsimp only at hSw); go_simp) <;> with_reducible rfl)
  try simp only [Act.put, List.setIfInBounds_toArray, List.set_cons_zero, List.set_cons_succ, List.getElem_toArray, List.getElem_cons_zero, List.getElem_cons_succ]
  refine wpAnyH_take (i := 5) (v := ?_) rfl (by kernel_rfl) (by kernel_rfl) (by kernel_rfl) (fun _ _ _ h => h) (Or.inl ⟨by rfl, ?_⟩) (by assumption) ?_
  rotate_left 1
  · ((intro w hSw; (try dsimp only at hSw); go_simp) <;> with_reducible rfl)
  try simp only [Act.put, List.setIfInBounds_toArray, List.set_cons_zero, List.set_cons_succ, List.getElem_toArray, List.getElem_cons_zero, List.getElem_cons_succ]
  refine wpAnyH_take (i := 6) (v := ?_) rfl (by kernel_rfl) (by kernel_rfl) (by kernel_rfl) (fun _ _ _ h => h) (Or.inl ⟨by rfl, ?_⟩) (by assumption) ?_
  rotate_left 1
  · ((intro w hSw; (try dsimp only at hSw); go_simp) <;> with_reducible rfl)
  try simp only [Act.put, List.setIfInBounds_toArray, List.set_cons_zero, List.set_cons_succ, List.getElem_toArray, List.getElem_cons_zero, List.getElem_cons_succ]
  refine wpAnyH_take (i := 7) (v := ?_) rfl (by kernel_rfl) (by kernel_rfl) (by kernel_rfl) (fun _ _ _ h => h) (Or.inl ⟨by rfl, ?_⟩) (by assumption) ?_
  rotate_left 1
  · ((intro w hSw; (try dsimp only at hSw); go_simp) <;> with_reducible rfl)
  try simp only [Act.put, List.setIfInBounds_toArray, List.set_cons_zero, List.set_cons_succ, List.getElem_toArray, List.getElem_cons_zero, List.getElem_cons_succ]
  refine wpAnyH_take (i := 8) (v := ?_) rfl (by kernel_rfl) (by kernel_rfl) (by kernel_rfl) (fun _ _ _ h => h) (Or.inl ⟨by rfl, ?_⟩) (by assumption) ?_
  rotate_left 1
  · ((intro w hSw; (try dsimp only at hSw); go_simp) <;> with_reducible rfl)
  try simp only [Act.put, List.setIfInBounds_toArray, List.set_cons_zero, List.set_cons_succ, List.getElem_toArray, List.getElem_cons_zero, List.getElem_cons_succ]
  refine wpAnyH_take (i := 9) (v := ?_) rfl (by kernel_rfl) (by kernel_rfl) (by kernel_rfl) (fun _ _ _ h => h) (Or.inl ⟨by rfl, ?_⟩) (by assumption) ?_
  rotate_left 1
  · ((intro w hSw; (try dsimp only at hSw); go_simp) <;> with_reducible rfl)
  try simp only [Act.put, List.setIfInBounds_toArray, List.set_cons_zero, List.set_cons_succ, List.getElem_toArray, List.getElem_cons_zero, List.getElem_cons_succ]
  refine wpAnyH_take (i := 10) (v := ?_) rfl (by kernel_rfl) (by kernel_rfl) (by kernel_rfl) (fun _ _ _ h => h) (Or.inl ⟨by rfl, ?_⟩) (by assumption) ?_
  rotate_left 1
  · ((intro w hSw; (try dsimp only at hSw); go_simp) <;> with_reducible rfl)
  try simp only [Act.put, List.setIfInBounds_toArray, List.set_cons_zero, List.set_cons_succ, List.getElem_toArray, List.getElem_cons_zero, List.getElem_cons_succ]
  refine wpAnyH_take (i := 11) (v := ?_) rfl (by kernel_rfl) (by kernel_rfl) (by kernel_rfl) (fun _ _ _ h => h) (Or.inl ⟨by rfl, ?_⟩) (by assumption) ?_
  rotate_left 1
  · ((intro w hSw; (try dsimp only at hSw); go_simp) <;> with_reducible rfl)
  try simp only [Act.put, List.setIfInBounds_toArray, List.set_cons_zero, List.set_cons_succ, List.getElem_toArray, List.getElem_cons_zero, List.getElem_cons_succ]
  refine wpAnyH_take (i := 12) (v := ?_) rfl (by kernel_rfl) (by kernel_rfl) (by kernel_rfl) (fun _ _ _ h => h) (Or.inl ⟨by rfl, ?_⟩) (by assumption) ?_
  rotate_left 1
  · ((intro w hSw; (try dsimp only at hSw); go_simp) <;> with_reducible rfl)
  try simp only [Act.put, List.setIfInBounds_toArray, List.set_cons_zero, List.set_cons_succ, List.getElem_toArray, List.getElem_cons_zero, List.getElem_cons_succ]
  refine wpAnyH_take (i := 16) (v := ?_) rfl (by kernel_rfl) (by kernel_rfl) (by kernel_rfl) (fun _ _ _ h => h) (Or.inl ⟨by rfl, ?_⟩) (by assumption) ?_
  rotate_left 1
  · ((intro w hSw; (try dsimp only at hSw); go_simp) <;> with_reducible rfl)
  try simp only [Act.put, List.setIfInBounds_toArray, List.set_cons_zero, List.set_cons_succ, List.getElem_toArray, List.getElem_cons_zero, List.getElem_cons_succ]
  refine wpAnyH_take (i := 17) (v := ?_) rfl (by kernel_rfl) (by kernel_rfl) (by kernel_rfl) (fun _ _ _ h => h) (Or.inl ⟨by rfl, ?_⟩) (by assumption) ?_
  rotate_left 1
  · ((intro w hSw; (try dsimp only at hSw); go_simp) <;> with_reducible rfl)
  try simp only [Act.put, List.setIfInBounds_toArray, List.set_cons_zero, List.set_cons_succ, List.getElem_toArray, List.getElem_cons_zero, List.getElem_cons_succ]
  refine wpAnyH_take (i := 18) (v := ?_) rfl (by kernel_rfl) (by kernel_rfl) (by kernel_rfl) (fun _ _ _ h => h) (Or.inl ⟨by rfl, ?_⟩) (by assumption) ?_
  rotate_left 1
  · ((intro w hSw; (try dsimp only at hSw); go_simp) <;> with_reducible rfl)
  try simp only [Act.put, List.setIfInBounds_toArray, List.set_cons_zero, List.set_cons_succ, List.getElem_toArray, List.getElem_cons_zero, List.getElem_cons_succ]
  refine wpAnyH_take (i := 22) (v := ?_) rfl (by kernel_rfl) (by kernel_rfl) (by kernel_rfl) (fun _ _ _ h => h) (Or.inl ⟨by rfl, ?_⟩) (by assumption) ?_
  rotate_left 1
  · ((intro w hSw; (try dsimp only at hSw); go_simp) <;> with_reducible rfl)
  try simp only [Act.put, List.setIfInBounds_toArray, List.set_cons_zero, List.set_cons_succ, List.getElem_toArray, List.getElem_cons_zero, List.getElem_cons_succ]
  refine wpAnyH_take (i := 23) (v := ?_) rfl (by kernel_rfl) (by kernel_rfl) (by kernel_rfl) (fun _ _ _ h => h) (Or.inl ⟨by rfl, ?_⟩) (by assumption) ?_
  rotate_left 1
  · ((intro w hSw; (try dsimp only at hSw); go_simp) <;> with_reducible rfl)
  try simp only [Act.put, List.setIfInBounds_toArray, List.set_cons_zero, List.set_cons_succ, List.getElem_toArray, List.getElem_cons_zero, List.getElem_cons_succ]
  refine wpAnyH_take (i := 24) (v := ?_) rfl (by kernel_rfl) (by kernel_rfl) (by kernel_rfl) (fun _ _ _ h => h) (Or.inl ⟨by rfl, ?_⟩) (by assumption) ?_
  rotate_left 1
  · ((intro w hSw; (try dsimp only at hSw); go_simp) <;> with_reducible rfl)
  try simp only [Act.put, List.setIfInBounds_toArray, List.set_cons_zero, List.set_cons_succ, List.getElem_toArray, List.getElem_cons_zero, List.getElem_cons_succ]
  refine wpAnyH_ready (rs := [13]) (by kernel_rfl) (by simp) ?_
  refine AllReadyH.cons rfl (fun K hK => ?_) AllReadyH.nil
  go_split_ands
  go_simp
  go_at_call 28
  refine (HCF.out _ (by assumption)).mono ?_
  rintro e w9 ⟨rfl, hb9⟩
  refine hK.out _ _ (sent_keep (w := w) (x := x) (j := 1) (nm := [97, 100, 100]) hb9 ⟨by assumption, by assumption, by assumption, by assumption, by assumption, by assumption, by assumption, by assumption, by assumption, by assumption⟩) (fun hHeld2 => ?_)
  clear hK K
  try simp only [Act.put, List.setIfInBounds_toArray, List.set_cons_zero, List.set_cons_succ, List.getElem_toArray, List.getElem_cons_zero, List.getElem_cons_succ]
  refine wpAnyH_take (i := 14) (v := ?_) rfl (by kernel_rfl) (by kernel_rfl) (by kernel_rfl) (fun _ _ _ h => h) (Or.inl ⟨by rfl, ?_⟩) (by assumption) ?_
  rotate_left 1
  · ((intro w hSw; (try dsimp only at hSw); go_simp) <;> with_reducible rfl)
  try simp only [Act.put, List.setIfInBounds_toArray, List.set_cons_zero, List.set_cons_succ, List.getElem_toArray, List.getElem_cons_zero, List.getElem_cons_succ]
  refine wpAnyH_take (i := 15) (v := ?_) rfl (by kernel_rfl) (by kernel_rfl) (by kernel_rfl) (fun _ _ _ h => h) (Or.inl ⟨by rfl, ?_⟩) (by assumption) ?_
  rotate_left 1
  · ((intro w hSw; (try dsimp only at hSw); go_simp) <;> with_reducible rfl)
  try simp only [Act.put, List.setIfInBounds_toArray, List.set_cons_zero, List.set_cons_succ, List.getElem_toArray, List.getElem_cons_zero, List.getElem_cons_succ]
  refine wpAnyH_ready (rs := [19]) (by kernel_rfl) (by simp) ?_
  refine AllReadyH.cons rfl (fun K hK => ?_) AllReadyH.nil
  go_split_ands
  go_simp
  go_at_call 29
  refine (HCE.out _ (by assumption)).mono ?_
  rintro e w9 ⟨rfl, hb9⟩
  refine hK.out _ _ (sent_keep (w := w) (x := x) (j := 1) (nm := [97, 100, 100]) hb9 ⟨by assumption, by assumption, by assumption, by assumption, by assumption, by assumption, by assumption, by assumption, by assumption, by assumption⟩) (fun hHeld2 => ?_)
  clear hK K
  try simp only [Act.put, List.setIfInBounds_toArray, List.set_cons_zero, List.set_cons_succ, List.getElem_toArray, List.getElem_cons_zero, List.getElem_cons_succ]
  refine wpAnyH_take (i := 20) (v := ?_) rfl (by kernel_rfl) (by kernel_rfl) (by kernel_rfl) (fun _ _ _ h => h) (Or.inl ⟨by rfl, ?_⟩) (by assumption) ?_
  rotate_left 1
  · ((intro w hSw; (try dsimp only at hSw); go_simp) <;> with_reducible rfl)
  try simp only [Act.put, List.setIfInBounds_toArray, List.set_cons_zero, List.set_cons_succ, List.getElem_toArray, List.getElem_cons_zero, List.getElem_cons_succ]
  refine wpAnyH_take (i := 21) (v := ?_) rfl (by kernel_rfl) (by kernel_rfl) (by kernel_rfl) (fun _ _ _ h => h) (Or.inl ⟨by rfl, ?_⟩) (by assumption) ?_
  rotate_left 1
  · ((intro w hSw; (try dsimp only at hSw); go_simp) <;> with_reducible rfl)
  try simp only [Act.put, List.setIfInBounds_toArray, List.set_cons_zero, List.set_cons_succ, List.getElem_toArray, List.getElem_cons_zero, List.getElem_cons_succ]
  refine wpAnyH_ready (rs := [25]) (by kernel_rfl) (by simp) ?_
  refine AllReadyH.cons rfl (fun K hK => ?_) AllReadyH.nil
  go_split_ands
  go_simp
  go_at_call 30
  refine (HCN.out _ (by assumption)).mono ?_
  rintro e w9 ⟨rfl, hb9⟩
  refine hK.out _ _ (sent_keep (w := w) (x := x) (j := 1) (nm := [97, 100, 100]) hb9 ⟨by assumption, by assumption, by assumption, by assumption, by assumption, by assumption, by assumption, by assumption, by assumption, by assumption⟩) (fun hHeld2 => ?_)
  clear hK K
  try simp only [Act.put, List.setIfInBounds_toArray, List.set_cons_zero, List.set_cons_succ, List.getElem_toArray, List.getElem_cons_zero, List.getElem_cons_succ]
  refine wpAnyH_take (i := 26) (v := ?_) rfl (by kernel_rfl) (by kernel_rfl) (by kernel_rfl) (fun _ _ _ h => h) (Or.inl ⟨by rfl, ?_⟩) (by assumption) ?_
  rotate_left 1
  · ((intro w hSw; (try dsimp only at hSw); go_simp) <;> with_reducible rfl)
  try simp only [Act.put, List.setIfInBounds_toArray, List.set_cons_zero, List.set_cons_succ, List.getElem_toArray, List.getElem_cons_zero, List.getElem_cons_succ]
  refine wpAnyH_take (i := 27) (v := ?_) rfl (by kernel_rfl) (by kernel_rfl) (by kernel_rfl) (fun _ _ _ h => h) (Or.inl ⟨by rfl, ?_⟩) (by assumption) ?_
  rotate_left 1
  · ((intro w hSw; (try dsimp only at hSw); go_simp) <;> with_reducible rfl)
  try simp only [Act.put, List.setIfInBounds_toArray, List.set_cons_zero, List.set_cons_succ, List.getElem_toArray, List.getElem_cons_zero, List.getElem_cons_succ]
  refine wpAnyH_done (by kernel_rfl) ?_ _
  go_split_ands
  clear e1 e2 e3 e4 e5 e6 e7 e8 HCF HCE HCN HB2 HP2 w1 w2
  obtain ⟨kd, key, data, fl, ex, q, r⟩ := x
  dsimp only at *
  cases q <;> cases r
  · obtain ⟨U1, g1⟩ : ∃ T : List UInt8, T = T8 ++ [10] := ⟨_, rfl⟩
    have m1 := cat_len _ _ _ _ 1 g1 l8 (by simp)
    have f1 := fun W => cat_op _ T8 [10] g1 (by simp only [List.length_cons, List.length_nil] at *; omega) W
    obtain ⟨U2, g2⟩ : ∃ T : List UInt8, T = U1 ++ data := ⟨_, rfl⟩
    have m2 := cat_len _ _ _ _ 1024 g2 m1 hdl
    have f2 := fun W => cat_op _ U1 data g2 (by simp only [List.length_cons, List.length_nil] at *; omega) W
    obtain ⟨U3, g3⟩ : ∃ T : List UInt8, T = U2 ++ [13, 10] := ⟨_, rfl⟩
    have m3 := cat_len _ _ _ _ 2 g3 m2 (by simp)
    have f3 := fun W => cat_op _ U2 [13, 10] g3 (by simp only [List.length_cons, List.length_nil] at *; omega) W
    have HG := Lib.hid (show sentText _ = U3 from by rw [HFIN.out, g3, g2, g1]; simp)
    clear HFIN g1 g2 g3
    go_wp2_with fail
    go_ret
    exact ⟨congrArg (fun l => Ending.returned (sv l)) HG.out.symm, by assumption⟩
  · obtain ⟨U1, g1⟩ : ∃ T : List UInt8, T = T8 ++ [13] := ⟨_, rfl⟩
    have m1 := cat_len _ _ _ _ 1 g1 l8 (by simp)
    have f1 := fun W => cat_op _ T8 [13] g1 (by simp only [List.length_cons, List.length_nil] at *; omega) W
    obtain ⟨U2, g2⟩ : ∃ T : List UInt8, T = U1 ++ [10] := ⟨_, rfl⟩
    have m2 := cat_len _ _ _ _ 1 g2 m1 (by simp)
    have f2 := fun W => cat_op _ U1 [10] g2 (by simp only [List.length_cons, List.length_nil] at *; omega) W
    obtain ⟨U3, g3⟩ : ∃ T : List UInt8, T = U2 ++ data := ⟨_, rfl⟩
    have m3 := cat_len _ _ _ _ 1024 g3 m2 hdl
    have f3 := fun W => cat_op _ U2 data g3 (by simp only [List.length_cons, List.length_nil] at *; omega) W
    obtain ⟨U4, g4⟩ : ∃ T : List UInt8, T = U3 ++ [13, 10] := ⟨_, rfl⟩
    have m4 := cat_len _ _ _ _ 2 g4 m3 (by simp)
    have f4 := fun W => cat_op _ U3 [13, 10] g4 (by simp only [List.length_cons, List.length_nil] at *; omega) W
    have HG := Lib.hid (show sentText _ = U4 from by rw [HFIN.out, g4, g3, g2, g1]; simp)
    clear HFIN g1 g2 g3 g4
    go_wp2_with fail
    go_ret
    exact ⟨congrArg (fun l => Ending.returned (sv l)) HG.out.symm, by assumption⟩
  · obtain ⟨U1, g1⟩ : ∃ T : List UInt8, T = T8 ++ [32, 110, 111, 114, 101, 112, 108, 121] := ⟨_, rfl⟩
    have m1 := cat_len _ _ _ _ 8 g1 l8 (by simp)
    have f1 := fun W => cat_op _ T8 [32, 110, 111, 114, 101, 112, 108, 121] g1 (by simp only [List.length_cons, List.length_nil] at *; omega) W
    obtain ⟨U2, g2⟩ : ∃ T : List UInt8, T = U1 ++ [10] := ⟨_, rfl⟩
    have m2 := cat_len _ _ _ _ 1 g2 m1 (by simp)
    have f2 := fun W => cat_op _ U1 [10] g2 (by simp only [List.length_cons, List.length_nil] at *; omega) W
    obtain ⟨U3, g3⟩ : ∃ T : List UInt8, T = U2 ++ data := ⟨_, rfl⟩
    have m3 := cat_len _ _ _ _ 1024 g3 m2 hdl
    have f3 := fun W => cat_op _ U2 data g3 (by simp only [List.length_cons, List.length_nil] at *; omega) W
    obtain ⟨U4, g4⟩ : ∃ T : List UInt8, T = U3 ++ [13, 10] := ⟨_, rfl⟩
    have m4 := cat_len _ _ _ _ 2 g4 m3 (by simp)
    have f4 := fun W => cat_op _ U3 [13, 10] g4 (by simp only [List.length_cons, List.length_nil] at *; omega) W
    have HG := Lib.hid (show sentText _ = U4 from by rw [HFIN.out, g4, g3, g2, g1]; simp)
    clear HFIN g1 g2 g3 g4
    go_wp2_with fail
    go_ret
    exact ⟨congrArg (fun l => Ending.returned (sv l)) HG.out.symm, by assumption⟩
  · obtain ⟨U1, g1⟩ : ∃ T : List UInt8, T = T8 ++ [32, 110, 111, 114, 101, 112, 108, 121] := ⟨_, rfl⟩
    have m1 := cat_len _ _ _ _ 8 g1 l8 (by simp)
    have f1 := fun W => cat_op _ T8 [32, 110, 111, 114, 101, 112, 108, 121] g1 (by simp only [List.length_cons, List.length_nil] at *; omega) W
    obtain ⟨U2, g2⟩ : ∃ T : List UInt8, T = U1 ++ [13] := ⟨_, rfl⟩
    have m2 := cat_len _ _ _ _ 1 g2 m1 (by simp)
    have f2 := fun W => cat_op _ U1 [13] g2 (by simp only [List.length_cons, List.length_nil] at *; omega) W
    obtain ⟨U3, g3⟩ : ∃ T : List UInt8, T = U2 ++ [10] := ⟨_, rfl⟩
    have m3 := cat_len _ _ _ _ 1 g3 m2 (by simp)
    have f3 := fun W => cat_op _ U2 [10] g3 (by simp only [List.length_cons, List.length_nil] at *; omega) W
    obtain ⟨U4, g4⟩ : ∃ T : List UInt8, T = U3 ++ data := ⟨_, rfl⟩
    have m4 := cat_len _ _ _ _ 1024 g4 m3 hdl
    have f4 := fun W => cat_op _ U3 data g4 (by simp only [List.length_cons, List.length_nil] at *; omega) W
    obtain ⟨U5, g5⟩ : ∃ T : List UInt8, T = U4 ++ [13, 10] := ⟨_, rfl⟩
    have m5 := cat_len _ _ _ _ 2 g5 m4 (by simp)
    have f5 := fun W => cat_op _ U4 [13, 10] g5 (by simp only [List.length_cons, List.length_nil] at *; omega) W
    have HG := Lib.hid (show sentText _ = U5 from by rw [HFIN.out, g5, g4, g3, g2, g1]; simp)
    clear HFIN g1 g2 g3 g4 g5
    go_wp2_with fail
    go_ret
    exact ⟨congrArg (fun l => Ending.returned (sv l)) HG.out.symm, by assumption⟩
set_option maxRecDepth 100000 in
set_option maxHeartbeats 4000000 in
theorem sentText_2 {x : SentD} (hn : SentNum x) (w : World) (hP : HasPow w) (hj : x.kind % 4 = 2) :
    Calls Tryd.prog 15 #[sentV x] w fun e w' => e = .returned (sv (sentText x)) ∧ Below w.heap.size w w' := by
  have k0 : (0 : Int) ≤ (x.kind : Int) := by omega
  have k1 : (x.kind : Int) % 4 = 2 := by omega
  have k2 : (x.kind : Int).tmod 4 = 2 := by rw [Int.tmod_eq_emod_of_nonneg k0]; exact k1
  have hkl := hn.key
  have hdl := hn.data
  have hexp0 := hn.exp0
  have hexp1 := hn.exp1
  have hfl := hn.flags
  have hcF := fun W (hW : HasPow W) => formatUint_any x.flags (by omega) W hW
  have hcE := fun W (hW : HasPow W) => formatInt_at x.exp (by omega) (by omega) W hW
  have hcN := fun W (hW : HasPow W) => itoa_at (x.data.length : Int) (by omega) (by omega) W hW
  rw [Lib.itoa_nonneg] at hcN
  have hlF := dec_len20 (u := x.flags) (by omega)
  have hlE := itoa_len hexp0 hexp1
  have hlN := dec_len20 (u := x.data.length) (by omega)
  have w1 : IntKind.u64.wrap (x.flags : Int) = (x.flags : Int) := le_small (by omega)
  have w2 : IntKind.i64.wrap x.exp = x.exp := IntWalk.i64_in _ (by omega)
  have hfin0 : sentText x = ((((((((([114, 101, 112, 108, 97, 99, 101] ++ [32]) ++ x.key) ++ [32]) ++ Lib.decDigits x.flags) ++ [32]) ++ Lib.itoa x.exp) ++ [32]) ++ Lib.decDigits x.data.length) ++ (if x.quiet then [32, 110, 111, 114, 101, 112, 108, 121] else [])) ++ (if x.cr then [13] else []) ++ [10] ++ x.data ++ [13, 10] := by
    have hne : ¬ x.kind % 4 = 3 := by omega
    have hv : x.verb = x.kind % 4 + 3 := by unfold SentD.verb; rw [if_neg hne]
    unfold sentText sentLine sentW
    rw [if_neg hne, if_neg hne, hv, hj]
    cases x.quiet <;> cases x.cr <;> simp [join_flat, flatW, names, noreply]
  generalize Lib.decDigits x.flags = F at *
  generalize Lib.itoa x.exp = E at *
  generalize Lib.decDigits x.data.length = N at *
  have l0 : ([114, 101, 112, 108, 97, 99, 101] : List UInt8).length ≤ 7 := by decide
  obtain ⟨T1, h1⟩ : ∃ T : List UInt8, T = [114, 101, 112, 108, 97, 99, 101] ++ [32] := ⟨_, rfl⟩
  have l1 := cat_len _ _ _ _ 1 h1 l0 (by simp)
  have e1 := fun W => cat_op _ [114, 101, 112, 108, 97, 99, 101] [32] h1 (by simp only [List.length_cons, List.length_nil] at *; omega) W
  obtain ⟨T2, h2⟩ : ∃ T : List UInt8, T = T1 ++ x.key := ⟨_, rfl⟩
  have l2 := cat_len _ _ _ _ 250 h2 l1 hkl
  have e2 := fun W => cat_op _ T1 x.key h2 (by simp only [List.length_cons, List.length_nil] at *; omega) W
  obtain ⟨T3, h3⟩ : ∃ T : List UInt8, T = T2 ++ [32] := ⟨_, rfl⟩
  have l3 := cat_len _ _ _ _ 1 h3 l2 (by simp)
  have e3 := fun W => cat_op _ T2 [32] h3 (by simp only [List.length_cons, List.length_nil] at *; omega) W
  obtain ⟨T4, h4⟩ : ∃ T : List UInt8, T = T3 ++ F := ⟨_, rfl⟩
  have l4 := cat_len _ _ _ _ 20 h4 l3 hlF
  have e4 := fun W => cat_op _ T3 F h4 (by simp only [List.length_cons, List.length_nil] at *; omega) W
  obtain ⟨T5, h5⟩ : ∃ T : List UInt8, T = T4 ++ [32] := ⟨_, rfl⟩
  have l5 := cat_len _ _ _ _ 1 h5 l4 (by simp)
  have e5 := fun W => cat_op _ T4 [32] h5 (by simp only [List.length_cons, List.length_nil] at *; omega) W
  obtain ⟨T6, h6⟩ : ∃ T : List UInt8, T = T5 ++ E := ⟨_, rfl⟩
  have l6 := cat_len _ _ _ _ 21 h6 l5 hlE
  have e6 := fun W => cat_op _ T5 E h6 (by simp only [List.length_cons, List.length_nil] at *; omega) W
  obtain ⟨T7, h7⟩ : ∃ T : List UInt8, T = T6 ++ [32] := ⟨_, rfl⟩
  have l7 := cat_len _ _ _ _ 1 h7 l6 (by simp)
  have e7 := fun W => cat_op _ T6 [32] h7 (by simp only [List.length_cons, List.length_nil] at *; omega) W
  obtain ⟨T8, h8⟩ : ∃ T : List UInt8, T = T7 ++ N := ⟨_, rfl⟩
  have l8 := cat_len _ _ _ _ 20 h8 l7 hlN
  have e8 := fun W => cat_op _ T7 N h8 (by simp only [List.length_cons, List.length_nil] at *; omega) W
  rw [← h1, ← h2, ← h3, ← h4, ← h5, ← h6, ← h7, ← h8] at hfin0
  have hs0 := Below.refl w.heap.size w
  obtain ⟨W2, hW2⟩ : ∃ W2, W2 = (w.alloc (.cells (sentCells x).toArray 49)).alloc (.cells #[sv [115, 101, 116], sv [97, 100, 100], sv [114, 101, 112, 108, 97, 99, 101]] 73) := ⟨_, rfl⟩
  have hb2 : Below w.heap.size w W2 := by rw [hW2]; exact ((Below.refl _ _).alloc (Nat.le_refl _) _).alloc (by simp) _
  have hp2 : HasPow W2 := hP.below hb2
  clear h1 h2 h3 h4 h5 h6 h7 h8 hP hn hj hs0
  have HFIN := Lib.hid hfin0
  have HCF := Lib.hid hcF
  have HCE := Lib.hid hcE
  have HCN := Lib.hid hcN
  have HB2 := Lib.hid hb2
  have HP2 := Lib.hid hp2
  clear hfin0 hcF hcE hcN hb2 hp2
  go_enter Tryd.func15, Tryd.ntmps15
  go_wp2_with fail
  rw [← hW2]
  have hS0 : SentS w x 2 [114, 101, 112, 108, 97, 99, 101] W2.drew := by
    have hbx : W2.heap[w.heap.size]? = some (.cells (sentCells x).toArray 49 (0, 0)) := by rw [hW2, heap_at, if_neg (by simp), heap_at, if_pos rfl]
    have hbv : W2.heap[w.heap.size + 1]? = some (.cells #[sv [115, 101, 116], sv [97, 100, 100], sv [114, 101, 112, 108, 97, 99, 101]] 73 (0, 0)) := by rw [hW2, heap_at, if_pos (by simp)]
    exact ⟨(block_cell hbx 0).1, (block_cell hbx 1).1, (block_cell hbx 2).1, (block_cell hbx 3).1, (block_cell hbx 4).1, (block_cell hbx 5).1, (block_cell hbx 6).1, (block_cell hbv 2).1, HP2.out, HB2.out.drew⟩
  clear hW2
  refine wp_region_held_drew (S := fun W => W.cell? ⟨w.heap.size, 0, none⟩ = some (.int .u8 (x.kind : Int)) ∧ W.cell? ⟨w.heap.size, 1, none⟩ = some (sv x.key) ∧ W.cell? ⟨w.heap.size, 2, none⟩ = some (sv x.data) ∧ W.cell? ⟨w.heap.size, 3, none⟩ = some (.int .u32 (x.flags : Int)) ∧ W.cell? ⟨w.heap.size, 4, none⟩ = some (.int .i32 x.exp) ∧ W.cell? ⟨w.heap.size, 5, none⟩ = some (.bool x.quiet) ∧ W.cell? ⟨w.heap.size, 6, none⟩ = some (.bool x.cr) ∧ W.cell? ⟨w.heap.size + 1, 2, none⟩ = some (sv [114, 101, 112, 108, 97, 99, 101]) ∧ HasPow W ∧ Below w.heap.size w W) (by kernel_rfl) hS0 (fun hHeld => ?_)
  clear hS0
  refine wpAnyH_take (i := 0) (v := ?_) rfl (by kernel_rfl) (by kernel_rfl) (by kernel_rfl) (fun _ _ _ h => h) (Or.inl ⟨by rfl, ?_⟩) (by assumption) ?_
  rotate_left 1
  · ((intro w hSw; (try dsimp only at hSw); go_simp) <;> with_reducible rfl)
  try simp only [Act.put, List.setIfInBounds_toArray, List.set_cons_zero, List.set_cons_succ, List.getElem_toArray, List.getElem_cons_zero]
  refine wpAnyH_take (i := 1) (v := ?_) rfl (by kernel_rfl) (by kernel_rfl) (by kernel_rfl) (fun _ _ _ h => h) (Or.inl ⟨by rfl, ?_⟩) (by assumption) ?_
  rotate_left 1
  · ((intro w hSw; (try dsimp only at hSw); go_simp) <;> with_reducible rfl)
  try simp only [Act.put, List.setIfInBounds_toArray, List.set_cons_zero, List.set_cons_succ, List.getElem_toArray, List.getElem_cons_zero, List.getElem_cons_succ]
  refine wpAnyH_take (i := 2) (v := ?_) rfl (by kernel_rfl) (by kernel_rfl) (by kernel_rfl) (fun _ _ _ h => h) (Or.inl ⟨by rfl, ?_⟩) (by assumption) ?_
  rotate_left 1
  · ((intro w hSw; (try dsimp only at hSw); go_simp) <;> with_reducible rfl)
  try simp only [Act.put, List.setIfInBounds_toArray, List.set_cons_zero, List.set_cons_succ, List.getElem_toArray, List.getElem_cons_zero, List.getElem_cons_succ]
  refine wpAnyH_take (i := 3) (v := ?_) rfl (by kernel_rfl) (by kernel_rfl) (by kernel_rfl) (fun _ _ _ h => h) (Or.inl ⟨by rfl, ?_⟩) (by assumption) ?_
  rotate_left 1
  · ((intro w hSw; (try dsimp only at hSw); go_simp) <;> with_reducible rfl)
  try simp only [Act.put, List.setIfInBounds_toArray, List.set_cons_zero, List.set_cons_succ, List.getElem_toArray, List.getElem_cons_zero, List.getElem_cons_succ]
  refine wpAnyH_take (i := 4) (v := ?_) rfl (by kernel_rfl) (by kernel_rfl) (by kernel_rfl) (fun _ _ _ h => h) (Or.inl ⟨by rfl, ?_⟩) (by assumption) ?_
  rotate_left 1
  · ((intro w hSw; (try dsimp only at hSw); go_simp) <;> with_reducible rfl)
  try simp only [Act.put, List.setIfInBounds_toArray, List.set_cons_zero, List.set_cons_succ, List.getElem_toArray, List.getElem_cons_zero, List.getElem_cons_succ]
  refine wpAnyH_take (i := 5) (v := ?_) rfl (by kernel_rfl) (by kernel_rfl) (by kernel_rfl) (fun _ _ _ h => h) (Or.inl ⟨by rfl, ?_⟩) (by assumption) ?_
  rotate_left 1
  · ((intro w hSw; (try dsimp only at hSw); go_simp) <;> with_reducible rfl)
  try simp only [Act.put, List.setIfInBounds_toArray, List.set_cons_zero, List.set_cons_succ, List.getElem_toArray, List.getElem_cons_zero, List.getElem_cons_succ]
  refine wpAnyH_take (i := 6) (v := ?_) rfl (by kernel_rfl) (by kernel_rfl) (by kernel_rfl) (fun _ _ _ h => h) (Or.inl ⟨by rfl, ?_⟩) (by assumption) ?_
  rotate_left 1
  · ((intro w hSw; (try dsimp only at hSw); go_simp) <;> with_reducible rfl)
  try simp only [Act.put, List.setIfInBounds_toArray, List.set_cons_zero, List.set_cons_succ, List.getElem_toArray, List.getElem_cons_zero, List.getElem_cons_succ]
  refine wpAnyH_take (i := 7) (v := ?_) rfl (by kernel_rfl) (by kernel_rfl) (by kernel_rfl) (fun _ _ _ h => h) (Or.inl ⟨by rfl, ?_⟩) (by assumption) ?_
  rotate_left 1
  · ((intro w hSw; (try dsimp only at hSw); go_simp) <;> with_reducible rfl)
  try simp only [Act.put, List.setIfInBounds_toArray, List.set_cons_zero, List.set_cons_succ, List.getElem_toArray, List.getElem_cons_zero, List.getElem_cons_succ]
  refine wpAnyH_take (i := 8) (v := ?_) rfl (by kernel_rfl) (by kernel_rfl) (by kernel_rfl) (fun _ _ _ h => h) (Or.inl ⟨by rfl, ?_⟩) (by assumption) ?_
  rotate_left 1
  · ((intro w hSw; (try dsimp only at hSw); go_simp) <;> with_reducible rfl)
  try simp only [Act.put, List.setIfInBounds_toArray, List.set_cons_zero, List.set_cons_succ, List.getElem_toArray, List.getElem_cons_zero, List.getElem_cons_succ]
  refine wpAnyH_take (i := 9) (v := ?_) rfl (by kernel_rfl) (by kernel_rfl) (by kernel_rfl) (fun _ _ _ h => h) (Or.inl ⟨by rfl, ?_⟩) (by assumption) ?_
  rotate_left 1
  · ((intro w hSw; (try dsimp only at hSw); go_simp) <;> with_reducible rfl)
  try simp only [Act.put, List.setIfInBounds_toArray, List.set_cons_zero, List.set_cons_succ, List.getElem_toArray, List.getElem_cons_zero, List.getElem_cons_succ]
  refine wpAnyH_take (i := 10) (v := ?_) rfl (by kernel_rfl) (by kernel_rfl) (by kernel_rfl) (fun _ _ _ h => h) (Or.inl ⟨by rfl, ?_⟩) (by assumption) ?_
  rotate_left 1
  · ((intro w hSw; (try dsimp only at hSw); go_simp) <;> with_reducible rfl)
  try simp only [Act.put, List.setIfInBounds_toArray, List.set_cons_zero, List.set_cons_succ, List.getElem_toArray, List.getElem_cons_zero, List.getElem_cons_succ]
  refine wpAnyH_take (i := 11) (v := ?_) rfl (by kernel_rfl) (by kernel_rfl) (by kernel_rfl) (fun _ _ _ h => h) (Or.inl ⟨by rfl, ?_⟩) (by assumption) ?_
  rotate_left 1
  · ((intro w hSw; (try dsimp only at hSw); go_simp) <;> with_reducible rfl)
  try simp only [Act.put, List.setIfInBounds_toArray, List.set_cons_zero, List.set_cons_succ, List.getElem_toArray, List.getElem_cons_zero, List.getElem_cons_succ]
  refine wpAnyH_take (i := 12) (v := ?_) rfl (by kernel_rfl) (by kernel_rfl) (by kernel_rfl) (fun _ _ _ h => h) (Or.inl ⟨by rfl, ?_⟩) (by assumption) ?_
  rotate_left 1
  · ((intro w hSw; (try dsimp only at hSw); go_simp) <;> with_reducible rfl)
  try simp only [Act.put, List.setIfInBounds_toArray, List.set_cons_zero, List.set_cons_succ, List.getElem_toArray, List.getElem_cons_zero, List.getElem_cons_succ]
  refine wpAnyH_take (i := 16) (v := ?_) rfl (by kernel_rfl) (by kernel_rfl) (by kernel_rfl) (fun _ _ _ h => h) (Or.inl ⟨by rfl, ?_⟩) (by assumption) ?_
  rotate_left 1
  · ((intro w hSw; (try dsimp only at hSw); go_simp) <;> with_reducible rfl)
  try simp only [Act.put, List.setIfInBounds_toArray, List.set_cons_zero, List.set_cons_succ, List.getElem_toArray, List.getElem_cons_zero, List.getElem_cons_succ]
  refine wpAnyH_take (i := 17) (v := ?_) rfl (by kernel_rfl) (by kernel_rfl) (by kernel_rfl) (fun _ _ _ h => h) (Or.inl ⟨by rfl, ?_⟩) (by assumption) ?_
  rotate_left 1
  · ((intro w hSw; (try dsimp only at hSw); go_simp) <;> with_reducible rfl)
  try simp only [Act.put, List.setIfInBounds_toArray, List.set_cons_zero, List.set_cons_succ, List.getElem_toArray, List.getElem_cons_zero, List.getElem_cons_succ]
  refine wpAnyH_take (i := 18) (v := ?_) rfl (by kernel_rfl) (by kernel_rfl) (by kernel_rfl) (fun _ _ _ h => h) (Or.inl ⟨by rfl, ?_⟩) (by assumption) ?_
  rotate_left 1
  · ((intro w hSw; (try dsimp only at hSw); go_simp) <;> with_reducible rfl)
  try simp only [Act.put, List.setIfInBounds_toArray, List.set_cons_zero, List.set_cons_succ, List.getElem_toArray, List.getElem_cons_zero, List.getElem_cons_succ]
  refine wpAnyH_take (i := 22) (v := ?_) rfl (by kernel_rfl) (by kernel_rfl) (by kernel_rfl) (fun _ _ _ h => h) (Or.inl ⟨by rfl, ?_⟩) (by assumption) ?_
  rotate_left 1
  · ((intro w hSw; (try dsimp only at hSw); go_simp) <;> with_reducible rfl)
  try simp only [Act.put, List.setIfInBounds_toArray, List.set_cons_zero, List.set_cons_succ, List.getElem_toArray, List.getElem_cons_zero, List.getElem_cons_succ]
  refine wpAnyH_take (i := 23) (v := ?_) rfl (by kernel_rfl) (by kernel_rfl) (by kernel_rfl) (fun _ _ _ h => h) (Or.inl ⟨by rfl, ?_⟩) (by assumption) ?_
  rotate_left 1
  · ((intro w hSw; (try dsimp only at hSw); go_simp) <;> with_reducible rfl)
  try simp only [Act.put, List.setIfInBounds_toArray, List.set_cons_zero, List.set_cons_succ, List.getElem_toArray, List.getElem_cons_zero, List.getElem_cons_succ]
  refine wpAnyH_take (i := 24) (v := ?_) rfl (by kernel_rfl) (by kernel_rfl) (by kernel_rfl) (fun _ _ _ h => h) (Or.inl ⟨by rfl, ?_⟩) (by assumption) ?_
  rotate_left 1
  · ((intro w hSw; (try dsimp only at hSw); go_simp) <;> with_reducible rfl)
  try simp only [Act.put, List.setIfInBounds_toArray, List.set_cons_zero, List.set_cons_succ, List.getElem_toArray, List.getElem_cons_zero, List.getElem_cons_succ]
  refine wpAnyH_ready (rs := [13]) (by kernel_rfl) (by simp) ?_
  refine AllReadyH.cons rfl (fun K hK => ?_) AllReadyH.nil
  go_split_ands
  go_simp
  go_at_call 28
  refine (HCF.out _ (by assumption)).mono ?_
  rintro e w9 ⟨rfl, hb9⟩
  refine hK.out _ _ (sent_keep (w := w) (x := x) (j := 2) (nm := [114, 101, 112, 108, 97, 99, 101]) hb9 ⟨by assumption, by assumption, by assumption, by assumption, by assumption, by assumption, by assumption, by assumption, by assumption, by assumption⟩) (fun hHeld2 => ?_)
  clear hK K
  try simp only [Act.put, List.setIfInBounds_toArray, List.set_cons_zero, List.set_cons_succ, List.getElem_toArray, List.getElem_cons_zero, List.getElem_cons_succ]
  refine wpAnyH_take (i := 14) (v := ?_) rfl (by kernel_rfl) (by kernel_rfl) (by kernel_rfl) (fun _ _ _ h => h) (Or.inl ⟨by rfl, ?_⟩) (by assumption) ?_
  rotate_left 1
  · ((intro w hSw; (try dsimp only at hSw); go_simp) <;> with_reducible rfl)
  try simp only [Act.put, List.setIfInBounds_toArray, List.set_cons_zero, List.set_cons_succ, List.getElem_toArray, List.getElem_cons_zero, List.getElem_cons_succ]
  refine wpAnyH_take (i := 15) (v := ?_) rfl (by kernel_rfl) (by kernel_rfl) (by kernel_rfl) (fun _ _ _ h => h) (Or.inl ⟨by rfl, ?_⟩) (by assumption) ?_
  rotate_left 1
  · ((intro w hSw; (try dsimp only at hSw); go_simp) <;> with_reducible rfl)
  try simp only [Act.put, List.setIfInBounds_toArray, List.set_cons_zero, List.set_cons_succ, List.getElem_toArray, List.getElem_cons_zero, List.getElem_cons_succ]
  refine wpAnyH_ready (rs := [19]) (by kernel_rfl) (by simp) ?_
  refine AllReadyH.cons rfl (fun K hK => ?_) AllReadyH.nil
  go_split_ands
  go_simp
  go_at_call 29
  refine (HCE.out _ (by assumption)).mono ?_
  rintro e w9 ⟨rfl, hb9⟩
  refine hK.out _ _ (sent_keep (w := w) (x := x) (j := 2) (nm := [114, 101, 112, 108, 97, 99, 101]) hb9 ⟨by assumption, by assumption, by assumption, by assumption, by assumption, by assumption, by assumption, by assumption, by assumption, by assumption⟩) (fun hHeld2 => ?_)
  clear hK K
  try simp only [Act.put, List.setIfInBounds_toArray, List.set_cons_zero, List.set_cons_succ, List.getElem_toArray, List.getElem_cons_zero, List.getElem_cons_succ]
  refine wpAnyH_take (i := 20) (v := ?_) rfl (by kernel_rfl) (by kernel_rfl) (by kernel_rfl) (fun _ _ _ h => h) (Or.inl ⟨by rfl, ?_⟩) (by assumption) ?_
  rotate_left 1
  · ((intro w hSw; (try dsimp only at hSw); go_simp) <;> with_reducible rfl)
  try simp only [Act.put, List.setIfInBounds_toArray, List.set_cons_zero, List.set_cons_succ, List.getElem_toArray, List.getElem_cons_zero, List.getElem_cons_succ]
  refine wpAnyH_take (i := 21) (v := ?_) rfl (by kernel_rfl) (by kernel_rfl) (by kernel_rfl) (fun _ _ _ h => h) (Or.inl ⟨by rfl, ?_⟩) (by assumption) ?_
  rotate_left 1
  · ((intro w hSw; (try dsimp only at hSw); go_simp) <;> with_reducible rfl)
  try simp only [Act.put, List.setIfInBounds_toArray, List.set_cons_zero, List.set_cons_succ, List.getElem_toArray, List.getElem_cons_zero, List.getElem_cons_succ]
  refine wpAnyH_ready (rs := [25]) (by kernel_rfl) (by simp) ?_
  refine AllReadyH.cons rfl (fun K hK => ?_) AllReadyH.nil
  go_split_ands
  go_simp
  go_at_call 30
  refine (HCN.out _ (by assumption)).mono ?_
  rintro e w9 ⟨rfl, hb9⟩
  refine hK.out _ _ (sent_keep (w := w) (x := x) (j := 2) (nm := [114, 101, 112, 108, 97, 99, 101]) hb9 ⟨by assumption, by assumption, by assumption, by assumption, by assumption, by assumption, by assumption, by assumption, by assumption, by assumption⟩) (fun hHeld2 => ?_)
  clear hK K
  try simp only [Act.put, List.setIfInBounds_toArray, List.set_cons_zero, List.set_cons_succ, List.getElem_toArray, List.getElem_cons_zero, List.getElem_cons_succ]
  refine wpAnyH_take (i := 26) (v := ?_) rfl (by kernel_rfl) (by kernel_rfl) (by kernel_rfl) (fun _ _ _ h => h) (Or.inl ⟨by rfl, ?_⟩) (by assumption) ?_
  rotate_left 1
  · ((intro w hSw; (try dsimp only at hSw); go_simp) <;> with_reducible rfl)
  try simp only [Act.put, List.setIfInBounds_toArray, List.set_cons_zero, List.set_cons_succ, List.getElem_toArray, List.getElem_cons_zero, List.getElem_cons_succ]
  refine wpAnyH_take (i := 27) (v := ?_) rfl (by kernel_rfl) (by kernel_rfl) (by kernel_rfl) (fun _ _ _ h => h) (Or.inl ⟨by rfl, ?_⟩) (by assumption) ?_
  rotate_left 1
  · ((intro w hSw; (try dsimp only at hSw); go_simp) <;> with_reducible rfl)
  try simp only [Act.put, List.setIfInBounds_toArray, List.set_cons_zero, List.set_cons_succ, List.getElem_toArray, List.getElem_cons_zero, List.getElem_cons_succ]
  refine wpAnyH_done (by kernel_rfl) ?_ _
  go_split_ands
  clear e1 e2 e3 e4 e5 e6 e7 e8 HCF HCE HCN HB2 HP2 w1 w2
  obtain ⟨kd, key, data, fl, ex, q, r⟩ := x
  dsimp only at *
  cases q <;> cases r
  · obtain ⟨U1, g1⟩ : ∃ T : List UInt8, T = T8 ++ [10] := ⟨_, rfl⟩
    have m1 := cat_len _ _ _ _ 1 g1 l8 (by simp)
    have f1 := fun W => cat_op _ T8 [10] g1 (by simp only [List.length_cons, List.length_nil] at *; omega) W
    obtain ⟨U2, g2⟩ : ∃ T : List UInt8, T = U1 ++ data := ⟨_, rfl⟩
    have m2 := cat_len _ _ _ _ 1024 g2 m1 hdl
    have f2 := fun W => cat_op _ U1 data g2 (by simp only [List.length_cons, List.length_nil] at *; omega) W
    obtain ⟨U3, g3⟩ : ∃ T : List UInt8, T = U2 ++ [13, 10] := ⟨_, rfl⟩
    have m3 := cat_len _ _ _ _ 2 g3 m2 (by simp)
    have f3 := fun W => cat_op _ U2 [13, 10] g3 (by simp only [List.length_cons, List.length_nil] at *; omega) W
    have HG := Lib.hid (show sentText _ = U3 from by rw [HFIN.out, g3, g2, g1]; simp)
    clear HFIN g1 g2 g3
    go_wp2_with fail
    go_ret
    exact ⟨congrArg (fun l => Ending.returned (sv l)) HG.out.symm, by assumption⟩
  · obtain ⟨U1, g1⟩ : ∃ T : List UInt8, T = T8 ++ [13] := ⟨_, rfl⟩
    have m1 := cat_len _ _ _ _ 1 g1 l8 (by simp)
    have f1 := fun W => cat_op _ T8 [13] g1 (by simp only [List.length_cons, List.length_nil] at *; omega) W
    obtain ⟨U2, g2⟩ : ∃ T : List UInt8, T = U1 ++ [10] := ⟨_, rfl⟩
    have m2 := cat_len _ _ _ _ 1 g2 m1 (by simp)
    have f2 := fun W => cat_op _ U1 [10] g2 (by simp only [List.length_cons, List.length_nil] at *; omega) W
    obtain ⟨U3, g3⟩ : ∃ T : List UInt8, T = U2 ++ data := ⟨_, rfl⟩
    have m3 := cat_len _ _ _ _ 1024 g3 m2 hdl
    have f3 := fun W => cat_op _ U2 data g3 (by simp only [List.length_cons, List.length_nil] at *; omega) W
    obtain ⟨U4, g4⟩ : ∃ T : List UInt8, T = U3 ++ [13, 10] := ⟨_, rfl⟩
    have m4 := cat_len _ _ _ _ 2 g4 m3 (by simp)
    have f4 := fun W => cat_op _ U3 [13, 10] g4 (by simp only [List.length_cons, List.length_nil] at *; omega) W
    have HG := Lib.hid (show sentText _ = U4 from by rw [HFIN.out, g4, g3, g2, g1]; simp)
    clear HFIN g1 g2 g3 g4
    go_wp2_with fail
    go_ret
    exact ⟨congrArg (fun l => Ending.returned (sv l)) HG.out.symm, by assumption⟩
  · obtain ⟨U1, g1⟩ : ∃ T : List UInt8, T = T8 ++ [32, 110, 111, 114, 101, 112, 108, 121] := ⟨_, rfl⟩
    have m1 := cat_len _ _ _ _ 8 g1 l8 (by simp)
    have f1 := fun W => cat_op _ T8 [32, 110, 111, 114, 101, 112, 108, 121] g1 (by simp only [List.length_cons, List.length_nil] at *; omega) W
    obtain ⟨U2, g2⟩ : ∃ T : List UInt8, T = U1 ++ [10] := ⟨_, rfl⟩
    have m2 := cat_len _ _ _ _ 1 g2 m1 (by simp)
    have f2 := fun W => cat_op _ U1 [10] g2 (by simp only [List.length_cons, List.length_nil] at *; omega) W
    obtain ⟨U3, g3⟩ : ∃ T : List UInt8, T = U2 ++ data := ⟨_, rfl⟩
    have m3 := cat_len _ _ _ _ 1024 g3 m2 hdl
    have f3 := fun W => cat_op _ U2 data g3 (by simp only [List.length_cons, List.length_nil] at *; omega) W
    obtain ⟨U4, g4⟩ : ∃ T : List UInt8, T = U3 ++ [13, 10] := ⟨_, rfl⟩
    have m4 := cat_len _ _ _ _ 2 g4 m3 (by simp)
    have f4 := fun W => cat_op _ U3 [13, 10] g4 (by simp only [List.length_cons, List.length_nil] at *; omega) W
    have HG := Lib.hid (show sentText _ = U4 from by rw [HFIN.out, g4, g3, g2, g1]; simp)
    clear HFIN g1 g2 g3 g4
    go_wp2_with fail
    go_ret
    exact ⟨congrArg (fun l => Ending.returned (sv l)) HG.out.symm, by assumption⟩
  · obtain ⟨U1, g1⟩ : ∃ T : List UInt8, T = T8 ++ [32, 110, 111, 114, 101, 112, 108, 121] := ⟨_, rfl⟩
    have m1 := cat_len _ _ _ _ 8 g1 l8 (by simp)
    have f1 := fun W => cat_op _ T8 [32, 110, 111, 114, 101, 112, 108, 121] g1 (by simp only [List.length_cons, List.length_nil] at *; omega) W
    obtain ⟨U2, g2⟩ : ∃ T : List UInt8, T = U1 ++ [13] := ⟨_, rfl⟩
    have m2 := cat_len _ _ _ _ 1 g2 m1 (by simp)
    have f2 := fun W => cat_op _ U1 [13] g2 (by simp only [List.length_cons, List.length_nil] at *; omega) W
    obtain ⟨U3, g3⟩ : ∃ T : List UInt8, T = U2 ++ [10] := ⟨_, rfl⟩
    have m3 := cat_len _ _ _ _ 1 g3 m2 (by simp)
    have f3 := fun W => cat_op _ U2 [10] g3 (by simp only [List.length_cons, List.length_nil] at *; omega) W
    obtain ⟨U4, g4⟩ : ∃ T : List UInt8, T = U3 ++ data := ⟨_, rfl⟩
    have m4 := cat_len _ _ _ _ 1024 g4 m3 hdl
    have f4 := fun W => cat_op _ U3 data g4 (by simp only [List.length_cons, List.length_nil] at *; omega) W
    obtain ⟨U5, g5⟩ : ∃ T : List UInt8, T = U4 ++ [13, 10] := ⟨_, rfl⟩
    have m5 := cat_len _ _ _ _ 2 g5 m4 (by simp)
    have f5 := fun W => cat_op _ U4 [13, 10] g5 (by simp only [List.length_cons, List.length_nil] at *; omega) W
    have HG := Lib.hid (show sentText _ = U5 from by rw [HFIN.out, g5, g4, g3, g2, g1]; simp)
    clear HFIN g1 g2 g3 g4 g5
    go_wp2_with fail
    go_ret
    exact ⟨congrArg (fun l => Ending.returned (sv l)) HG.out.symm, by assumption⟩
set_option maxRecDepth 100000 in
set_option maxHeartbeats 4000000 in
theorem sentText_3 {x : SentD} (hn : SentNum x) (w : World) (_hP : HasPow w) (hj : x.kind % 4 = 3) :
    Calls Tryd.prog 15 #[sentV x] w fun e w' => e = .returned (sv (sentText x)) ∧ Below w.heap.size w w' := by
  have k0 : (0 : Int) ≤ (x.kind : Int) := by omega
  have k1 : (x.kind : Int) % 4 = 3 := by omega
  have k2 : (x.kind : Int).tmod 4 = 3 := by rw [Int.tmod_eq_emod_of_nonneg k0]; exact k1
  have hkl := hn.key
  have hdl := hn.data
  obtain ⟨T1, h1⟩ : ∃ T : List UInt8, T = [103, 101, 116, 32] ++ x.key := ⟨_, rfl⟩
  have e1 := fun W => cat_op _ [103, 101, 116, 32] x.key h1 (by simp only [List.length_cons, List.length_nil]; omega) W
  have l1 := cat_len _ _ _ 4 250 h1 (by simp) hkl
  obtain ⟨T2, h2⟩ : ∃ T : List UInt8, T = T1 ++ [13] := ⟨_, rfl⟩
  have e2 := fun W => cat_op _ T1 [13] h2 (by simp only [List.length_cons, List.length_nil]; omega) W
  have l2 := cat_len _ _ _ _ 1 h2 l1 (by simp)
  obtain ⟨T3, h3⟩ : ∃ T : List UInt8, T = T1 ++ [10] := ⟨_, rfl⟩
  have e3 := fun W => cat_op _ T1 [10] h3 (by simp only [List.length_cons, List.length_nil]; omega) W
  obtain ⟨T4, h4⟩ : ∃ T : List UInt8, T = T2 ++ [10] := ⟨_, rfl⟩
  have e4 := fun W => cat_op _ T2 [10] h4 (by simp only [List.length_cons, List.length_nil]; omega) W
  have hfin : sentText x = if x.cr then T4 else T3 := by
    unfold sentText sentLine sentW
    rw [if_pos hj, if_pos hj, h4, h3, h2, h1]
    cases x.cr <;> simp [join_flat, flatW]
  have HF := Lib.hid hfin
  clear hfin h1 h2 h3 h4 _hP hn hj
  cases hq : x.cr
  all_goals
    rw [hq] at HF
    go_enter Tryd.func15, Tryd.ntmps15
    go_wp2_with fail
    go_ret
    exact ⟨by rw [HF.out]; rfl, ((Below.refl _ _).alloc (Nat.le_refl _) _).alloc (by simp) _⟩
theorem sentText_any {x : SentD} (hn : SentNum x) (w : World) (hP : HasPow w) :
    Calls Tryd.prog 15 #[sentV x] w fun e w' => e = .returned (sv (sentText x)) ∧ Below w.heap.size w w' := by
  rcases (by omega : x.kind % 4 = 0 ∨ x.kind % 4 = 1 ∨ x.kind % 4 = 2 ∨ x.kind % 4 = 3) with h | h | h | h
  · exact sentText_0 hn w hP h
  · exact sentText_1 hn w hP h
  · exact sentText_2 hn w hP h
  · exact sentText_3 hn w hP h
set_option maxRecDepth 100000 in
set_option maxHeartbeats 4000000 in
theorem sentRight_0 {x : SentD} (hn : SentNum x) {w : World} {ke : Value} (hk : KeysAt w ke [x.key]) (hj : x.kind % 4 = 0) :
    Calls Tryd.prog 16 #[sentV x, .agg #[.int .u8 3, ke, .int .u8 3, sv x.key, sv [], .int .u32 (x.flags : Int), .int .i64 x.exp, .int .u64 0, .int .u64 0, .int .i64 (x.data.length : Int), .bool x.quiet, sv x.data, .int .u8 0]] w fun e w' => e = .returned (.bool true) ∧ Below w.heap.size w w' := by
  obtain ⟨g, o, c, hke, hc1, hc, _⟩ := hk.at (k := 0) (x := sv x.key) rfl
  change ke = .slice (some ⟨g, o, none⟩) 1 c at hke
  subst hke
  have hg := cell_lt hc
  have k0 : (0 : Int) ≤ (x.kind : Int) := by omega
  have k1 : (x.kind : Int) % 4 = 0 := by omega
  have k2 : (x.kind : Int).tmod 4 = 0 := by rw [Int.tmod_eq_emod_of_nonneg k0]; exact k1
  have hq : ∀ (o1 o2 o3 : Obj) (m : Nat), ((((w.alloc o1).alloc o2).alloc o3).drewN m).cell? ⟨g, o, none⟩ = some (sv x.key) := fun o1 o2 o3 m => by
    have hb := ((((Below.refl w.heap.size w).alloc (Nat.le_refl _) o1).alloc (by simp) o2).alloc (by simp; omega) o3)
    exact (hb.cell (p := ⟨g, o, none⟩) hg).trans hc
  have i1 : ∀ W : World, (Instr.indexAt 33 (.slice (some ⟨g, o, none⟩) 1 c) (.int .i64 0)).run Tryd.prog W = .ok (.pointer (some ⟨g, o, none⟩)) W := fun W => idx_str' (c := c) (k := 0) (n := 1) rfl (by omega) W
  have hexp0 := hn.exp0
  have hexp1 := hn.exp1
  have hdl := hn.data
  have w2 : IntKind.i64.wrap x.exp = x.exp := IntWalk.i64_in _ (by omega)
  clear hk hj hc hn
  go_enter Tryd.func16, Tryd.ntmps16
  go_wp2_with fail
  go_quiet (fail)
  go_wp2_with fail
  go_quiet (fail)
  go_wp2_with fail
  go_ret
  exact ⟨rfl, low_drewN (low_drewN (((((Below.refl _ _).alloc (Nat.le_refl _) _).alloc (by simp) _).alloc (by simp; omega) _).alloc (by simp; omega) _) _) _⟩
set_option maxRecDepth 100000 in
set_option maxHeartbeats 4000000 in
theorem sentRight_1 {x : SentD} (hn : SentNum x) {w : World} {ke : Value} (hk : KeysAt w ke [x.key]) (hj : x.kind % 4 = 1) :
    Calls Tryd.prog 16 #[sentV x, .agg #[.int .u8 4, ke, .int .u8 4, sv x.key, sv [], .int .u32 (x.flags : Int), .int .i64 x.exp, .int .u64 0, .int .u64 0, .int .i64 (x.data.length : Int), .bool x.quiet, sv x.data, .int .u8 0]] w fun e w' => e = .returned (.bool true) ∧ Below w.heap.size w w' := by
  obtain ⟨g, o, c, hke, hc1, hc, _⟩ := hk.at (k := 0) (x := sv x.key) rfl
  change ke = .slice (some ⟨g, o, none⟩) 1 c at hke
  subst hke
  have hg := cell_lt hc
  have k0 : (0 : Int) ≤ (x.kind : Int) := by omega
  have k1 : (x.kind : Int) % 4 = 1 := by omega
  have k2 : (x.kind : Int).tmod 4 = 1 := by rw [Int.tmod_eq_emod_of_nonneg k0]; exact k1
  have hq : ∀ (o1 o2 o3 : Obj) (m : Nat), ((((w.alloc o1).alloc o2).alloc o3).drewN m).cell? ⟨g, o, none⟩ = some (sv x.key) := fun o1 o2 o3 m => by
    have hb := ((((Below.refl w.heap.size w).alloc (Nat.le_refl _) o1).alloc (by simp) o2).alloc (by simp; omega) o3)
    exact (hb.cell (p := ⟨g, o, none⟩) hg).trans hc
  have i1 : ∀ W : World, (Instr.indexAt 33 (.slice (some ⟨g, o, none⟩) 1 c) (.int .i64 0)).run Tryd.prog W = .ok (.pointer (some ⟨g, o, none⟩)) W := fun W => idx_str' (c := c) (k := 0) (n := 1) rfl (by omega) W
  have hexp0 := hn.exp0
  have hexp1 := hn.exp1
  have hdl := hn.data
  have w2 : IntKind.i64.wrap x.exp = x.exp := IntWalk.i64_in _ (by omega)
  clear hk hj hc hn
  go_enter Tryd.func16, Tryd.ntmps16
  go_wp2_with fail
  go_quiet (fail)
  go_wp2_with fail
  go_quiet (fail)
  go_wp2_with fail
  go_ret
  exact ⟨rfl, low_drewN (low_drewN (((((Below.refl _ _).alloc (Nat.le_refl _) _).alloc (by simp) _).alloc (by simp; omega) _).alloc (by simp; omega) _) _) _⟩
set_option maxRecDepth 100000 in
set_option maxHeartbeats 4000000 in
theorem sentRight_2 {x : SentD} (hn : SentNum x) {w : World} {ke : Value} (hk : KeysAt w ke [x.key]) (hj : x.kind % 4 = 2) :
    Calls Tryd.prog 16 #[sentV x, .agg #[.int .u8 5, ke, .int .u8 5, sv x.key, sv [], .int .u32 (x.flags : Int), .int .i64 x.exp, .int .u64 0, .int .u64 0, .int .i64 (x.data.length : Int), .bool x.quiet, sv x.data, .int .u8 0]] w fun e w' => e = .returned (.bool true) ∧ Below w.heap.size w w' := by
  obtain ⟨g, o, c, hke, hc1, hc, _⟩ := hk.at (k := 0) (x := sv x.key) rfl
  change ke = .slice (some ⟨g, o, none⟩) 1 c at hke
  subst hke
  have hg := cell_lt hc
  have k0 : (0 : Int) ≤ (x.kind : Int) := by omega
  have k1 : (x.kind : Int) % 4 = 2 := by omega
  have k2 : (x.kind : Int).tmod 4 = 2 := by rw [Int.tmod_eq_emod_of_nonneg k0]; exact k1
  have hq : ∀ (o1 o2 o3 : Obj) (m : Nat), ((((w.alloc o1).alloc o2).alloc o3).drewN m).cell? ⟨g, o, none⟩ = some (sv x.key) := fun o1 o2 o3 m => by
    have hb := ((((Below.refl w.heap.size w).alloc (Nat.le_refl _) o1).alloc (by simp) o2).alloc (by simp; omega) o3)
    exact (hb.cell (p := ⟨g, o, none⟩) hg).trans hc
  have i1 : ∀ W : World, (Instr.indexAt 33 (.slice (some ⟨g, o, none⟩) 1 c) (.int .i64 0)).run Tryd.prog W = .ok (.pointer (some ⟨g, o, none⟩)) W := fun W => idx_str' (c := c) (k := 0) (n := 1) rfl (by omega) W
  have hexp0 := hn.exp0
  have hexp1 := hn.exp1
  have hdl := hn.data
  have w2 : IntKind.i64.wrap x.exp = x.exp := IntWalk.i64_in _ (by omega)
  clear hk hj hc hn
  go_enter Tryd.func16, Tryd.ntmps16
  go_wp2_with fail
  go_quiet (fail)
  go_wp2_with fail
  go_quiet (fail)
  go_wp2_with fail
  go_ret
  exact ⟨rfl, low_drewN (low_drewN (((((Below.refl _ _).alloc (Nat.le_refl _) _).alloc (by simp) _).alloc (by simp; omega) _).alloc (by simp; omega) _) _) _⟩
set_option maxRecDepth 100000 in
set_option maxHeartbeats 4000000 in
theorem sentRight_3 {x : SentD} (hn : SentNum x) {w : World} {ke : Value} (hk : KeysAt w ke [x.key]) (hj : x.kind % 4 = 3) :
    Calls Tryd.prog 16 #[sentV x, .agg #[.int .u8 1, ke, .int .u8 1, sv x.key, sv [], .int .u32 0, .int .i64 0, .int .u64 0, .int .u64 0, .int .i64 (-1), .bool false, sv [], .int .u8 0]] w fun e w' => e = .returned (.bool true) ∧ Below w.heap.size w w' := by
  obtain ⟨g, o, c, hke, hc1, hc, _⟩ := hk.at (k := 0) (x := sv x.key) rfl
  change ke = .slice (some ⟨g, o, none⟩) 1 c at hke
  subst hke
  have hg := cell_lt hc
  have k0 : (0 : Int) ≤ (x.kind : Int) := by omega
  have k1 : (x.kind : Int) % 4 = 3 := by omega
  have k2 : (x.kind : Int).tmod 4 = 3 := by rw [Int.tmod_eq_emod_of_nonneg k0]; exact k1
  have hq : ∀ (o1 o2 o3 : Obj) (m : Nat), ((((w.alloc o1).alloc o2).alloc o3).drewN m).cell? ⟨g, o, none⟩ = some (sv x.key) := fun o1 o2 o3 m => by
    have hb := ((((Below.refl w.heap.size w).alloc (Nat.le_refl _) o1).alloc (by simp) o2).alloc (by simp; omega) o3)
    exact (hb.cell (p := ⟨g, o, none⟩) hg).trans hc
  have i1 : ∀ W : World, (Instr.indexAt 33 (.slice (some ⟨g, o, none⟩) 1 c) (.int .i64 0)).run Tryd.prog W = .ok (.pointer (some ⟨g, o, none⟩)) W := fun W => idx_str' (c := c) (k := 0) (n := 1) rfl (by omega) W
  have hexp0 := hn.exp0
  have hexp1 := hn.exp1
  have hdl := hn.data
  have w2 : IntKind.i64.wrap x.exp = x.exp := IntWalk.i64_in _ (by omega)
  clear hk hj hc hn
  go_enter Tryd.func16, Tryd.ntmps16
  go_wp2_with fail
  go_quiet (fail)
  go_wp2_with fail
  go_quiet (fail)
  go_wp2_with fail
  go_ret
  exact ⟨rfl, low_drewN (low_drewN (((((Below.refl _ _).alloc (Nat.le_refl _) _).alloc (by simp) _).alloc (by simp; omega) _).alloc (by simp; omega) _) _) _⟩
theorem sentRight_any {x : SentD} (hn : SentNum x) {w : World} {ke : Value} (hk : KeysAt w ke (sentEv x).cmd.keys) :
    Calls Tryd.prog 16 #[sentV x, evV ke (sentEv x)] w fun e w' => e = .returned (.bool true) ∧ Below w.heap.size w w' := by
  rcases (by omega : x.kind % 4 = 0 ∨ x.kind % 4 = 1 ∨ x.kind % 4 = 2 ∨ x.kind % 4 = 3) with h | h | h | h
  · have he : sentEv x = ⟨⟨3, [x.key], 3, x.key, [], x.flags, x.exp, 0, 0, (x.data.length : Int), x.quiet⟩, x.data, 0⟩ := by unfold sentEv sentCmd SentD.verb; simp [h]
    rw [he] at hk ⊢
    exact sentRight_0 hn hk h
  · have he : sentEv x = ⟨⟨4, [x.key], 4, x.key, [], x.flags, x.exp, 0, 0, (x.data.length : Int), x.quiet⟩, x.data, 0⟩ := by unfold sentEv sentCmd SentD.verb; simp [h]
    rw [he] at hk ⊢
    exact sentRight_1 hn hk h
  · have he : sentEv x = ⟨⟨5, [x.key], 5, x.key, [], x.flags, x.exp, 0, 0, (x.data.length : Int), x.quiet⟩, x.data, 0⟩ := by unfold sentEv sentCmd SentD.verb; simp [h]
    rw [he] at hk ⊢
    exact sentRight_2 hn hk h
  · have he : sentEv x = ⟨⟨1, [x.key], 1, x.key, [], 0, 0, 0, 0, -1, false⟩, [], 0⟩ := by unfold sentEv sentCmd; simp [h]
    rw [he] at hk ⊢
    exact sentRight_3 hn hk h
end Go.Proofs.YtahpjhnbjkjkiaaDoor
