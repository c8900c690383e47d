/- What each verb's function gives (maps). Condition: the library's tables lie as they are laid. -/
import Derived.Test.YtaooangnnlopcaaGreatDoorMaA
import Derived.Test.YtaooangnnlopcaaGreatDoorLowA
namespace Go.Proofs.YtaooangnnlopcaaGreatDoor
open Go.RowKit

abbrev askedCells (c : CallD) (ep : Nat) (was : ItemD) (has there : Bool) (next : Nat) : Array Value :=
  #[.int .u8 c.verb, .string c.key, .string c.value, .int .u32 c.flags, .int .i64 c.exp, .int .u64 c.id, .int .u64 c.by', .int .u64 (ep : Int), .string was.key, .string was.value, .int .u32 was.flags, .int .u64 was.id, .int .i64 was.dies, .int .i64 was.gen, .bool has, .bool there, .int .u64 (next : Int)]
abbrev givCells (g : GivD) : Array Value :=
  #[.int .u8 g.ans.kind, .int .u64 g.ans.number, .string g.ans.item.key, .string g.ans.item.value, .int .u32 g.ans.item.flags, .int .u64 g.ans.item.id, .int .i64 g.ans.item.dies, .int .i64 g.ans.item.gen, .string g.isx.key, .string g.isx.value, .int .u32 g.isx.flags, .int .u64 g.isx.id, .int .i64 g.isx.dies, .int .i64 g.isx.gen, .bool g.put, .bool g.gone, .bool g.drawn, .bool g.stored, .int .u64 (g.epoch : Int)]
theorem results_row_one {P : Program} {fn : Func} {p : Tmp} {ty : TypeId} (h : fn.results = #[.cell p ty]) (tmps : Array Value) (w : World) (g : Nat) (t : TypeId) (cs : Array Value) (fr : Nat × Nat) (d : TypeDesc)
    (hp : tmps.getD p undef = .pointer (some ⟨g, 0, none⟩)) (hg : w.heap[g]? = some (.cells cs t fr))
    (hu : P.underlying ty = some d) (hd : (match d with | .struct _ | .array _ _ => true | _ => false) = true) (hi : (P.info? ty).map (·.size) = some cs.size) :
    (results fn tmps).run P w = .ok (.agg cs) w := by
  have hp' : tmps[p]?.getD undef = .pointer (some ⟨g, 0, none⟩) := by simpa using hp
  simp only [results, h]
  simp [hp', asAddr, run_loadVar_row w g t ty cs fr d hg hu hd hi]
theorem results_row_two {P : Program} {fn : Func} {p u v : Tmp} {ty : TypeId} (h : fn.results = #[.cell p ty, .tmp u, .tmp v]) (tmps : Array Value) (w : World) (g : Nat) (t : TypeId) (cs : Array Value) (fr : Nat × Nat) (d : TypeDesc)
    (hp : tmps.getD p undef = .pointer (some ⟨g, 0, none⟩)) (hg : w.heap[g]? = some (.cells cs t fr))
    (hu : P.underlying ty = some d) (hd : (match d with | .struct _ | .array _ _ => true | _ => false) = true) (hi : (P.info? ty).map (·.size) = some cs.size) (x y : Value) (hx : tmps.getD u undef = x) (hy : tmps.getD v undef = y) :
    (results fn tmps).run P w = .ok (.tuple #[.agg cs, x, y]) w := by
  have hp' : tmps[p]?.getD undef = .pointer (some ⟨g, 0, none⟩) := by simpa using hp
  simp only [results, h]
  subst hx hy
  simp [hp', asAddr, run_loadVar_row w g t ty cs fr d hg hu hd hi]
abbrev givZero : Array Value := #[.int .u8 0, .int .u64 0, .string ⟨#[]⟩, .string ⟨#[]⟩, .int .u32 0, .int .u64 0, .int .i64 0, .int .i64 0, .string ⟨#[]⟩, .string ⟨#[]⟩, .int .u32 0, .int .u64 0, .int .i64 0, .int .i64 0, .bool false, .bool false, .bool false, .bool false, .int .u64 0]
theorem heap_two (w : World) (o o2 : Obj) : ((w.alloc o).alloc o2).heap[w.heap.size]? = some o ∧ ((w.alloc o).alloc o2).heap[w.heap.size + 1]? = some o2 := by
  constructor
  · rw [heap_at, if_neg (by rw [size_at]; omega), heap_at, if_pos rfl]
  · rw [heap_at, if_pos (by rw [size_at])]
/-- The receiver's box, the result's block: what has become of them. -/
theorem below_two (w : World) (o o2 : Obj) : Below w.heap.size w ((w.alloc o).alloc o2) := ((Below.refl _ _).alloc (Nat.le_refl _) _).alloc (by rw [size_at]; omega) _
theorem below_grown {B : Nat} {a b c : World} {r : Nat} (h : Below B a b) (hB : B ≤ b.heap.size) (hg : b.grownBy c (some r)) (hr : B ≤ r) : Below B a c :=
  ⟨hg.os.trans h.os, hg.tape.trans h.tape, hg.output.trans h.output, Nat.le_trans h.size hg.size, fun k hk => (hg.block k (Nat.lt_of_lt_of_le hk hB) (by simp; omega)).trans (h.block k hk)⟩
theorem build_ans (k : Int) (W : World) : (Instr.build 40 #[(0, .int .u8 k)]).run Tryz.prog W = .ok (.agg #[.int .u8 k, .int .u64 0, .string ⟨#[]⟩, .string ⟨#[]⟩, .int .u32 0, .int .u64 0, .int .i64 0, .int .i64 0]) W := by kernel_rfl
theorem build_giv (k : Int) (ep : Nat) (W : World) : (Instr.build 84 #[(0, .agg #[.int .u8 k, .int .u64 0, .string ⟨#[]⟩, .string ⟨#[]⟩, .int .u32 0, .int .u64 0, .int .i64 0, .int .i64 0]), (6, .int .u64 (ep : Int))]).run Tryz.prog W = .ok (.agg (givCells (saysG k ep))) W := by kernel_rfl
section
variable (c : CallD) (ep : Nat) (was : ItemD) (has there : Bool) (next : Nat)
set_option maxRecDepth 100000 in
theorem says_any (k : Int) (w : World) : Calls Tryz.prog 68 #[.agg (askedCells c ep was has there next), .int .u8 k] w fun e w' => e = .returned (.agg (givCells (saysG k ep))) ∧ Below w.heap.size w w' := by
  have q1 := build_ans k
  have q2 := build_giv k ep
  go_enter Tryz.func68, Tryz.ntmps68
  go_upto_region 1 with fail
  have HR := Lib.hid (heap_two w (.cells (askedCells c ep was has there next) 118) (.cells givZero 84)).2
  have HB := Lib.hid (below_two w (.cells (askedCells c ep was has there next) 118) (.cells givZero 84))
  go_wp2_with (first
    | ((with_reducible show wpList _ _ _ (⟨none, Op.store _ _ _, _, _, _, _⟩ :: _) _ _); refine wpList_store_whole (by rfl) 84 (.tmp 4) (.tmp 9) (by rfl) (w.heap.size + 1) (by rfl) (givCells (saysG k ep)) (by rfl) _ 84 HR.out (by rfl) (by kernel_rfl) (by simp [Value.oneCell']) ?_; intro w3 hr3 hg3 hs3)
    | ((with_reducible show bodyPost _ _ _ Exit.ret _ _); exact bodyPost_ret (v := .agg (givCells (saysG k ep))) (results_row_one rfl _ _ (w.heap.size + 1) _ _ _ _ (by rfl) hr3 Tryz.underlying84 rfl (by kernel_rfl)) rfl ⟨rfl, below_grown HB.out HB.out.size hg3 (Nat.le_succ _)⟩)
    | fail)
end
end Go.Proofs.YtaooangnnlopcaaGreatDoor
