/- A Store in memory; one step of what it does. No condition. And what goes with it (8 texts). -/
import Derived.Test.YtnkkoicbnbjlnaaGreatDoorMdD
import Derived.Test.YtnkkoicbnbjlnaaGreatDoorLowA
namespace Go.Proofs.YtnkkoicbnbjlnaaGreatDoor
set_option maxRecDepth 100000
set_option maxHeartbeats 8000000
open Go.RowKit Go.ChangeMaps Go.MapKept
structure StM where
 verb : Nat
 key : List UInt8
 value : List UInt8
 flags : Nat
 exp : Int
 id : Nat
 by' : Nat
 h : Nat
 b : Nat
 k : Nat
 s : Nat
 kind : Nat
 num : Nat
 epoch : Nat
 point : Nat
def storeCells (op thn act : Value) (m : StM) : List Value := [op, thn, act, .int .u8 (m.verb : Int), sv m.key, sv m.value, .int .u32 (m.flags : Int), .int .i64 m.exp, .int .u64 (m.id : Int), .int .u64 (m.by' : Int), .int .u64 (m.h : Int), .int .i64 (m.b : Int), .int .i64 (m.k : Int), .int .i64 (m.s : Int),
 .int .u8 (m.kind : Int), .int .u64 (m.num : Int), .string ⟨#[]⟩, .string ⟨#[]⟩, .int .u32 0, .int .u64 0, .int .i64 0, .int .i64 0, .int .u64 (m.epoch : Int), .int .i64 (m.point : Int)]
def StoreB (x : Nat) (op thn act : Value) (m : StM) : Thing := Blk x (storeCells op thn act m) 248
theorem framed_store (x : Nat) (op thn act : Value) (m : StM) : Framed (StoreB x op thn act m) := framed_blk _ _ _ (by decide)
theorem opNil (W : World) : (binOp .eql 243 .nilIface .nilIface).run Tryz.prog W = .ok (.bool true) W := by kernel_rfl
theorem opSome (t o : Nat) (W : World) : (binOp .eql 243 (.iface t (ptrN o)) .nilIface).run Tryz.prog W = .ok (.bool false) W := by kernel_rfl
def Doing (G : Nat) (args : Array Value) (A R : Thing) : Prop := (∀ W : World, (callFunc G args).run Tryz.prog W = .ok (.enter G args) W) ∧ ∀ V S0, A V S0 → Calls Tryz.prog G args V fun e w' => (∃ u, e = .returned u) ∧ Stp R S0 V w'
theorem onAct_any {w : World} {p x G : Nat} {first cap : Array Value} {thn : Value} {m : StM} {A R : Thing} {S : Nat → Prop} (h : Star A (StoreB x .nilIface thn (.func (.func G) first cap) m) w S)
  (hG : Doing G (first.push (ptrN p) ++ cap) (Star A (StoreB x .nilIface thn (.func (.func G) first cap) m)) R) :
  Calls Tryz.prog 400 #[ptrN x, ptrN p] w fun e w' => (∃ u, e = .returned u) ∧ Stp R S w w' := by
 have x0 : w.cell? ⟨x, 0, none⟩ = some .nilIface := (Star.cellB h (j := 0) rfl).1
 have x2 : w.cell? ⟨x, 2, none⟩ = some (.func (.func G) first cap) := (Star.cellB h (j := 2) rfl).1
 have qn := opNil
 have HG := hidZ (hG.2 w S h)
 have henter := hG.1
 clear h hG
 go_enter Tryz.func400, Tryz.ntmps400
 go_wp2_with fail
 refine HG.out.mono ?_
 rintro e w2 ⟨⟨u, rfl⟩, hst⟩
 go_wp2_with fail
 exact bodyPost_end (results_none (by exact Tryz.results400) _ _ _) rfl ⟨⟨_, rfl⟩, hst⟩
structure Steps (t F o p : Nat) (b : Bool) (A R : Thing) : Prop where
 meth : ∀ (W : World), (method (Tryz.prog.types.size + Made.depth) t (ptrN o) "Step").run Tryz.prog W = .ok (F, ptrN o) W
 enter : ∀ W : World, (callFunc F #[ptrN o, ptrN p]).run Tryz.prog W = .ok (.enter F #[ptrN o, ptrN p]) W
 does : ∀ V S0, A V S0 → Calls Tryz.prog F #[ptrN o, ptrN p] V fun e w' => e = .returned (.bool b) ∧ Stp R S0 V w'
theorem onMore_any {w : World} {p x t o F : Nat} {thn act : Value} {m : StM} {A R : Thing} {S : Nat → Prop} (hA : Framed A) (h : Star A (StoreB x (.iface t (ptrN o)) thn act m) w S) (hs : Steps t F o p false A R) :
  Calls Tryz.prog 400 #[ptrN x, ptrN p] w fun e w' => (∃ u, e = .returned u) ∧ Stp (Star R (StoreB x (.iface t (ptrN o)) thn act m)) S w w' := by
 have x0 : w.cell? ⟨x, 0, none⟩ = some (.iface t (ptrN o)) := (Star.cellB h (j := 0) rfl).1
 have qs := opSome t o
 have hm : ∀ n, n = Tryz.prog.types.size + Made.depth → ∀ (W : World), (method n t (ptrN o) "Step").run Tryz.prog W = .ok (F, ptrN o) W := by
  rintro n rfl
  exact hs.meth
 have he := hs.enter
 have HG := hidZ (show Calls Tryz.prog F #[ptrN o, ptrN p] w fun e w' => e = .returned (.bool false) ∧ Stp (Star R (StoreB x (.iface t (ptrN o)) thn act m)) S w w' from by
  obtain ⟨S1, S2, a1, a2, a3, a4⟩ := h
  refine (hs.does w S1 a1).mono ?_
  rintro e w2 ⟨rfl, hst⟩
  exact ⟨rfl, Stp.left (framed_store _ _ _ _ _) hA a1 a2 a3 a4 hst⟩)
 clear h hs
 go_enter Tryz.func400, Tryz.ntmps400
 go_wp2_with fail
 clear hm qs
 refine HG.out.mono ?_
 rintro e w2 ⟨rfl, hst⟩
 go_wp2_with fail
 exact bodyPost_end (results_none (by exact Tryz.results400) _ _ _) rfl ⟨⟨_, rfl⟩, hst⟩
theorem onOver_any {w : World} {p x t o F G : Nat} {first cap : Array Value} {act : Value} {m : StM} {A R R2 : Thing} {S : Nat → Prop} (hA : Framed A) (h : Star A (StoreB x (.iface t (ptrN o)) (.func (.func G) first cap) act m) w S) (hs : Steps t F o p true A R)
  (hG : Doing G (first.push (ptrN p) ++ cap) (Star R (StoreB x (.iface t (ptrN o)) (.func (.func G) first cap) act m)) R2) :
  Calls Tryz.prog 400 #[ptrN x, ptrN p] w fun e w' => (∃ u, e = .returned u) ∧ Stp R2 S w w' := by
 have x0 : w.cell? ⟨x, 0, none⟩ = some (.iface t (ptrN o)) := (Star.cellB h (j := 0) rfl).1
 have qs := opSome t o
 have hm : ∀ n, n = Tryz.prog.types.size + Made.depth → ∀ (W : World), (method n t (ptrN o) "Step").run Tryz.prog W = .ok (F, ptrN o) W := by
  rintro n rfl
  exact hs.meth
 have he := hs.enter
 have HG := hidZ (show Calls Tryz.prog F #[ptrN o, ptrN p] w fun e w' => e = .returned (.bool true) ∧ Stp (Star R (StoreB x (.iface t (ptrN o)) (.func (.func G) first cap) act m)) S w w' from by
  obtain ⟨S1, S2, a1, a2, a3, a4⟩ := h
  refine (hs.does w S1 a1).mono ?_
  rintro e w2 ⟨rfl, hst⟩
  exact ⟨rfl, Stp.left (framed_store _ _ _ _ _) hA a1 a2 a3 a4 hst⟩)
 have HT := hidZ hG.2
 have henter := hG.1
 clear h hs hG
 go_enter Tryz.func400, Tryz.ntmps400
 go_wp2_with fail
 clear hm qs
 refine HG.out.mono ?_
 rintro e w2 ⟨rfl, S4, hs4, hc4, hk4⟩
 have x1 : w2.cell? ⟨x, 1, none⟩ = some (.func (.func G) first cap) := (Star.cellB hs4 (j := 1) rfl).1
 have HG2 := hidZ (HT.out w2 S4 hs4)
 have HC := hidZ (And.intro hc4 hk4)
 clear hs4 hc4 hk4 HT HG
 go_wp2_with fail
 refine HG2.out.mono ?_
 rintro e w3 ⟨⟨u, rfl⟩, hst⟩
 go_wp2_with fail
 exact bodyPost_end (results_none (by exact Tryz.results400) _ _ _) rfl ⟨⟨_, rfl⟩, Stp.then HC.out.1 HC.out.2 hst⟩
theorem goesIdle_op {w : World} {x t o : Nat} (h : w.cell? ⟨x, 0, none⟩ = some (.iface t (ptrN o))) : Calls Tryz.prog 399 #[ptrN x] w fun e w' => e = .returned (.bool false) ∧ w = w' := by
 have qs := opSome t o
 go_enter Tryz.func399, Tryz.ntmps399
 go_wp2_with fail
 go_ret
 exact ⟨rfl, rfl⟩
theorem goesIdle_act {w : World} {x : Nat} {fn : Fn} {first cap : Array Value} (h : w.cell? ⟨x, 0, none⟩ = some .nilIface) (h2 : w.cell? ⟨x, 2, none⟩ = some (.func fn first cap)) : Calls Tryz.prog 399 #[ptrN x] w fun e w' => e = .returned (.bool false) ∧ w = w' := by
 have qn := opNil
 have qf := fun W => func_nil (fn := fn) (first := first) (cap := cap) W
 go_enter Tryz.func399, Tryz.ntmps399
 go_wp2_with fail
 go_ret
 exact ⟨rfl, rfl⟩
theorem goesIdle_nil {w : World} {x : Nat} (h : w.cell? ⟨x, 0, none⟩ = some .nilIface) (h2 : w.cell? ⟨x, 2, none⟩ = some .nilFunc) : Calls Tryz.prog 399 #[ptrN x] w fun e w' => e = .returned (.bool true) ∧ w = w' := by
 have qn := opNil
 have qf := nil_nil
 go_enter Tryz.func399, Tryz.ntmps399
 go_wp2_with fail
 go_ret
 exact ⟨rfl, rfl⟩
def GoesIs (x : Nat) (b : Bool) (w : World) : Prop := Calls Tryz.prog 399 #[ptrN x] w fun e w' => e = .returned (.bool b) ∧ w = w'
theorem Star.goesOp {A : Thing} {x t o : Nat} {thn act : Value} {m : StM} {w : World} {S : Nat → Prop} (h : Star A (StoreB x (.iface t (ptrN o)) thn act m) w S) : GoesIs x false w := goesIdle_op (Star.cellB h (j := 0) rfl).1
theorem Star.goesAct {A : Thing} {x : Nat} {thn : Value} {fn : Fn} {first cap : Array Value} {m : StM} {w : World} {S : Nat → Prop} (h : Star A (StoreB x .nilIface thn (.func fn first cap) m) w S) : GoesIs x false w := goesIdle_act (Star.cellB h (j := 0) rfl).1 (Star.cellB h (j := 2) rfl).1
theorem Star.goesNil {A : Thing} {x : Nat} {thn : Value} {m : StM} {w : World} {S : Nat → Prop} (h : Star A (StoreB x .nilIface thn .nilFunc m) w S) : GoesIs x true w := goesIdle_nil (Star.cellB h (j := 0) rfl).1 (Star.cellB h (j := 2) rfl).1
theorem storeOver_any {w : World} {x : Nat} {b : Bool} (h : GoesIs x b w) : Calls Tryz.prog 397 #[ptrN x] w fun e w' => e = .returned (.bool b) ∧ w = w' := by
 have H := hidZ h
 clear h
 go_enter Tryz.func397, Tryz.ntmps397
 go_wp2_with fail
 refine H.out.mono ?_
 rintro e w2 ⟨rfl, rfl⟩
 go_wp2_with fail
 go_ret
 exact ⟨rfl, rfl⟩
theorem storeStep_any {w : World} {p x : Nat} {b : Bool} {R : Thing} {S : Nat → Prop} (h0 : GoesIs x false w) (h1 : Calls Tryz.prog 400 #[ptrN x, ptrN p] w fun e w' => (∃ u, e = .returned u) ∧ Stp R S w w') (h2 : ∀ V S0, R V S0 → GoesIs x b V) :
  Calls Tryz.prog 398 #[ptrN x, ptrN p] w fun e w' => e = .returned (.bool b) ∧ Stp R S w w' := by
 have HO := hidZ (storeOver_any h0)
 have H1 := hidZ h1
 have H2 := hidZ h2
 clear h0 h1 h2
 go_enter Tryz.func398, Tryz.ntmps398
 go_wp2_with fail
 refine HO.out.mono ?_
 rintro e w2 ⟨rfl, rfl⟩
 clear HO
 go_wp2_with fail
 refine H1.out.mono ?_
 rintro e w3 ⟨⟨u, rfl⟩, hst⟩
 have HO2 := hidZ (show Calls Tryz.prog 397 #[ptrN x] w3 fun e w' => e = .returned (.bool b) ∧ w3 = w' from by
  obtain ⟨S5, h5, -⟩ := hst
  exact storeOver_any (H2.out w3 S5 h5))
 have HST := hidZ hst
 clear hst H1 H2
 go_wp2_with fail
 refine HO2.out.mono ?_
 rintro e w4 ⟨rfl, rfl⟩
 go_wp2_with fail
 go_ret
 exact ⟨rfl, HST.out⟩
theorem goesAccess_any {w : World} {x : Nat} {op thn act : Value} {fn : Fn} {first cap : Array Value} {m : StM} {A : Thing} {S : Nat → Prop} (hA : Framed A) (h : Star A (StoreB x op thn act m) w S) :
  Calls Tryz.prog 163 #[ptrN x, .func fn first cap] w fun e w' => (∃ u, e = .returned u) ∧ Stp (Star A (StoreB x .nilIface thn (.func fn first cap) m)) S w w' := by
 have hsf := fun (fn : Fn) (first cap : Array Value) (a : Addr) (w : World) => run_store Tryz.prog w a (.func fn first cap) .plain rfl
 have hsn := fun (a : Addr) (w : World) => run_store Tryz.prog w a .nilIface .plain rfl
 obtain ⟨x0, f0⟩ := Star.cellB h (j := 0) (v := op) rfl
 obtain ⟨x2, f2⟩ := Star.cellB h (j := 2) (v := act) rfl
 have HH := hidZ h
 have HA := hidZ hA
 clear h hA
 go_enter Tryz.func163, Tryz.ntmps163
 go_wp2_with fail
 refine bodyPost_end (results_none (by exact Tryz.results163) _ _ _) rfl ⟨⟨_, rfl⟩, ?_⟩
 obtain ⟨g0, d0⟩ := HH.out.setB HA.out (by decide) 0 .nilIface
 obtain ⟨g2, d2⟩ := g0.setB HA.out (by decide) 2 (.func fn first cap)
 exact ⟨S, g2, d0.trans d2, fun _ h => .inl h⟩
theorem goesEnds_any {w : World} {p x : Nat} {op thn act : Value} {m : StM} {A : Thing} {S : Nat → Prop} (hA : Framed A) (h : Star A (StoreB x op thn act m) w S) :
  Calls Tryz.prog 229 #[ptrN x, ptrN p] w fun e w' => (∃ u, e = .returned u) ∧ Stp (Star A (StoreB x .nilIface thn .nilFunc m)) S w w' := by
 have hsf := fun (a : Addr) (w : World) => run_store Tryz.prog w a .nilFunc .plain rfl
 have hsn := fun (a : Addr) (w : World) => run_store Tryz.prog w a .nilIface .plain rfl
 obtain ⟨x0, f0⟩ := Star.cellB h (j := 0) (v := op) rfl
 obtain ⟨x2, f2⟩ := Star.cellB h (j := 2) (v := act) rfl
 have HH := hidZ h
 have HA := hidZ hA
 clear h hA
 go_enter Tryz.func229, Tryz.ntmps229
 go_wp2_with fail
 refine bodyPost_end (results_none (by exact Tryz.results229) _ _ _) rfl ⟨⟨_, rfl⟩, ?_⟩
 obtain ⟨g0, d0⟩ := HH.out.setB HA.out (by decide) 0 .nilIface
 obtain ⟨g2, d2⟩ := g0.setB HA.out (by decide) 2 .nilFunc
 exact ⟨S, g2, d0.trans d2, fun _ h => .inl h⟩
structure Fresh (t FO o : Nat) (A : Thing) : Prop where
 meth : ∀ (W : World), (method (Tryz.prog.types.size + Made.depth) t (ptrN o) "Over").run Tryz.prog W = .ok (FO, ptrN o) W
 enter : ∀ W : World, (callFunc FO #[ptrN o]).run Tryz.prog W = .ok (.enter FO #[ptrN o]) W
 over : ∀ V S0, A V S0 → Calls Tryz.prog FO #[ptrN o] V fun e w' => e = .returned (.bool false) ∧ Below V.heap.size V w'
theorem goesSteps_any {w : World} {p x t FO o : Nat} {op thn act : Value} {fn : Fn} {first cap : Array Value} {m : StM} {A : Thing} {S : Nat → Prop} (hA : Framed A) (h : Star A (StoreB x op thn act m) w S) (hf : Fresh t FO o A) :
  Calls Tryz.prog 128 #[ptrN x, ptrN p, .iface t (ptrN o), .func fn first cap] w fun e w' => (∃ u, e = .returned u) ∧ Stp (Star A (StoreB x (.iface t (ptrN o)) (.func fn first cap) .nilFunc m)) S w w' := by
 have hsf := fun (fn : Fn) (first cap : Array Value) (a : Addr) (w : World) => run_store Tryz.prog w a (.func fn first cap) .plain rfl
 have hsn := fun (a : Addr) (w : World) => run_store Tryz.prog w a .nilFunc .plain rfl
 have hsi := fun (t : Nat) (v : Value) (a : Addr) (w : World) => run_store Tryz.prog w a (.iface t v) .plain rfl
 have hm : ∀ n, n = Tryz.prog.types.size + Made.depth → ∀ (W : World), (method n t (ptrN o) "Over").run Tryz.prog W = .ok (FO, ptrN o) W := by
  rintro n rfl
  exact hf.meth
 have he := hf.enter
 have HO := hidZ (show Calls Tryz.prog FO #[ptrN o] w fun e w' => e = .returned (.bool false) ∧ Below w.heap.size w w' from by
  obtain ⟨S1, S2, a1, a2, a3, a4⟩ := h
  exact hf.over w S1 a1)
 have HH := hidZ h
 have HA := hidZ hA
 clear h hA hf
 go_enter Tryz.func128, Tryz.ntmps128
 go_wp2_with fail
 clear hm
 refine HO.out.mono ?_
 rintro e w2 ⟨rfl, hb2⟩
 have h2 := (HA.out.star (framed_store _ _ _ _ _)).below HH.out hb2
 obtain ⟨x0, f0⟩ := Star.cellB h2 (j := 0) (v := op) rfl
 obtain ⟨x1, f1⟩ := Star.cellB h2 (j := 1) (v := thn) rfl
 obtain ⟨x2, f2⟩ := Star.cellB h2 (j := 2) (v := act) rfl
 have H2 := hidZ h2
 have HB2 := hidZ hb2
 clear h2 hb2 HO HH
 go_wp2_with fail
 refine bodyPost_end (results_none (by exact Tryz.results128) _ _ _) rfl ⟨⟨_, rfl⟩, ?_⟩
 obtain ⟨g0, d0⟩ := H2.out.setB HA.out (by decide) 0 (.iface t (ptrN o))
 obtain ⟨g1, d1⟩ := g0.setB HA.out (by decide) 1 (.func fn first cap)
 obtain ⟨g2, d2⟩ := g1.setB HA.out (by decide) 2 .nilFunc
 exact ⟨S, g2, (Chg.of_below HB2.out).trans (d0.trans (d1.trans d2)), fun _ h => .inl h⟩
def Wk (A B : Thing) : Prop := ∀ (V : World) (S0 : Nat → Prop), A V S0 → ∃ S1, B V S1 ∧ ∀ k, S1 k → S0 k
theorem Wk.refl (A : Thing) : Wk A A := fun _ S h => ⟨S, h, fun _ e => e⟩
theorem Wk.trans {A B C : Thing} (h : Wk A B) (h' : Wk B C) : Wk A C := fun V S hA => by
 obtain ⟨S1, h1, h2⟩ := h V S hA
 obtain ⟨S2, h3, h4⟩ := h' V S1 h1
 exact ⟨S2, h3, fun k e => h2 k (h4 k e)⟩
theorem Wk.fst (A B : Thing) : Wk (Star A B) A := fun _ _ ⟨S1, _, h1, _, _, h4⟩ => ⟨S1, h1, fun k e => (h4 k).2 (.inl e)⟩
theorem Wk.snd (A B : Thing) : Wk (Star A B) B := fun _ _ ⟨_, S2, _, h2, _, h4⟩ => ⟨S2, h2, fun k e => (h4 k).2 (.inr e)⟩
theorem Wk.star {A A' B B' : Thing} (h : Wk A A') (h' : Wk B B') : Wk (Star A B) (Star A' B') := fun V S ⟨S1, S2, h1, h2, h3, h4⟩ => by
 obtain ⟨T1, a1, a2⟩ := h V S1 h1
 obtain ⟨T2, b1, b2⟩ := h' V S2 h2
 exact ⟨fun k => T1 k ∨ T2 k, ⟨T1, T2, a1, b1, fun k e e' => h3 k (a2 k e) (b2 k e'), fun _ => Iff.rfl⟩, fun k e => (h4 k).2 (e.imp (a2 k) (b2 k))⟩
theorem Wk.comm (A B : Thing) : Wk (Star A B) (Star B A) := fun _ S h => ⟨S, h.comm, fun _ e => e⟩
theorem Wk.assoc (A B C : Thing) : Wk (Star (Star A B) C) (Star A (Star B C)) := fun _ S h => ⟨S, h.assoc, fun _ e => e⟩
theorem Wk.assoc' (A B C : Thing) : Wk (Star A (Star B C)) (Star (Star A B) C) := fun _ S h => ⟨S, h.assoc', fun _ e => e⟩
theorem Wk.of {A B : Thing} (h : ∀ V S, A V S → B V S) : Wk A B := fun V S hA => ⟨S, h V S hA, fun _ e => e⟩
theorem Wk.exI {α : Type} {A : Thing} {B : α → Thing} (a : α) (h : Wk A (B a)) : Wk A (fun w S => ∃ a, B a w S) := fun V S hA => by
 obtain ⟨S1, h1, h2⟩ := h V S hA
 exact ⟨S1, ⟨a, h1⟩, h2⟩
theorem Stp.wk {A B : Thing} {S : Nat → Prop} {w w' : World} (h : Stp A S w w') (hw : Wk A B) : Stp B S w w' := by
 obtain ⟨S1, h1, h2, h3⟩ := h
 obtain ⟨S2, h4, h5⟩ := hw w' S1 h1
 exact ⟨S2, h4, h2, fun k e => h3 k (h5 k e)⟩
theorem Stp.sub {A : Thing} {S S' : Nat → Prop} {w w' : World} (h : Stp A S' w w') (hs : ∀ k, S' k → S k) : Stp A S w w' := by
 obtain ⟨S1, h1, h2, h3⟩ := h
 exact ⟨S1, h1, h2.mono (fun k _ e => hs k e), fun k e => (h3 k e).imp (hs k) id⟩
theorem Doing.wk {G : Nat} {args : Array Value} {A A' R R' : Thing} (h : Doing G args A' R') (hA : Wk A A') (hR : Wk R' R) : Doing G args A R := ⟨h.1, fun V S0 hV => by
 obtain ⟨S1, h1, h2⟩ := hA V S0 hV
 refine (h.2 V S1 h1).mono ?_
 rintro e w' ⟨hu, hst⟩
 exact ⟨hu, (hst.wk hR).sub h2⟩⟩
theorem Steps.frame {t F o p : Nat} {b : Bool} {A R B : Thing} (h : Steps t F o p b A R) (hA : Framed A) (hB : Framed B) : Steps t F o p b (Star A B) (Star R B) := ⟨h.meth, h.enter, fun V S0 ⟨S1, S2, a1, a2, a3, a4⟩ => by
 refine (h.does V S1 a1).mono ?_
 rintro e w' ⟨rfl, hst⟩
 exact ⟨rfl, Stp.left hB hA a1 a2 a3 a4 hst⟩⟩
theorem Fresh.frame {t FO o : Nat} {A B : Thing} (h : Fresh t FO o A) (hw : Wk B A) : Fresh t FO o B := ⟨h.meth, h.enter, fun V S0 hB => by
 obtain ⟨S1, h1, -⟩ := hw V S0 hB
 exact h.over V S1 h1⟩
theorem same_below {G : Nat} {args : Array Value} {V : World} {b : Bool} (h : Calls Tryz.prog G args V fun e w' => e = .returned (.bool b) ∧ V = w') : Calls Tryz.prog G args V fun e w' => e = .returned (.bool b) ∧ Below V.heap.size V w' := by
 refine h.mono ?_
 rintro e w' ⟨rfl, rfl⟩
 exact ⟨rfl, Below.refl _ _⟩
theorem takeSteps_draw {p o t : Nat} {W : WorldM} (hW : W.Ok) (ht : t < 64) : Steps 249 140 o p false (Star (WorldIs p W) (TakeIs o t 0 false (drawF o))) (Star (WorldIs p (drawW W t)) (TakeIs o t (W.cells.f 0) true (lookF o))) :=
 ⟨fun _ => by kernel_rfl, fun _ => by kernel_rfl, fun _ _ h => takeStep_draw h hW ht⟩
theorem takeSteps_look {p o t tk : Nat} {W : WorldM} (hW : W.Ok) (ht : t < 64) (he : W.cells.f 1 = tk) : Steps 249 140 o p true (Star (WorldIs p W) (TakeIs o t tk true (lookF o))) (WorldIs p (lookW W t tk)) :=
 ⟨fun _ => by kernel_rfl, fun _ => by kernel_rfl, fun V S0 h => by
  refine (takeStep_look h hW ht).mono ?_
  rintro e w' ⟨rfl, hst⟩
  exact ⟨by rw [decide_eq_true he], hst.wk (Wk.fst _ _)⟩⟩
theorem turnFresh {o : Nat} : Fresh 253 429 o (TurnIs o 1 0) :=
 ⟨fun _ => by kernel_rfl, fun _ => by kernel_rfl, fun _ _ h => same_below (turnOver_any h (by omega))⟩
theorem turnSteps {p o : Nat} {W : WorldM} (hW : W.Ok) (hn : newN (W.cells.f 2) = 0) : Steps 253 430 o p true (Star (WorldIs p W) (TurnIs o 1 0)) (WorldIs p (loadW W 2)) :=
 ⟨fun _ => by kernel_rfl, fun _ => by kernel_rfl, fun V S0 h => by
  refine (turnStep_any h hW hn).mono ?_
  rintro e w' ⟨rfl, hst⟩
  exact ⟨rfl, hst.wk (Wk.fst _ _)⟩⟩
theorem findFresh {o : Nat} {key : List UInt8} : Fresh 289 441 o (Find0 o key) :=
 ⟨fun _ => by kernel_rfl, fun _ => by kernel_rfl, fun _ _ ⟨_, h1, _⟩ => same_below (findOver_any h1)⟩
theorem findSteps_first {p o : Nat} {key : List UInt8} {W : WorldM} (hW : W.Ok) (hn : newN (W.cells.f 2) = 0) (hk : key.length ≤ maxLen) : Steps 289 442 o p false (Star (WorldIs p W) (Find0 o key)) (Star (WorldIs p (loadW W 2)) (FindIs o key (W.cells.f 2) (placesL (hashN key) (W.cells.f 2)))) :=
 ⟨fun _ => by kernel_rfl, fun _ => by kernel_rfl, fun _ _ h => findStep_first h hW hn hk⟩
theorem findSteps_tags {p o u b k : Nat} {key : List UInt8} {W : WorldM} {L : List (Nat × Nat)} {bb : Bool} (hW : W.Ok) (hq : Bkt b k) (hL : L.length ≤ 1000) (hk : key.length ≤ maxLen) (hno : ∀ s, s < 4 → partN (W.cells.f (tagsA b k)) s ≠ tagN (hashN key)) (hb : decide (L.length = 0) = bb) :
  Steps 289 442 o p bb (Star (WorldIs p W) (FindIs o key u ((b, k) :: L))) (Star (WorldIs p (loadW W (tagsA b k))) (FindIs o key u L)) :=
 ⟨fun _ => by kernel_rfl, fun _ => by kernel_rfl, fun V S0 h => by
  subst hb
  exact findStep_tags h hW hq hL hk hno⟩
theorem roomFresh {o bits h : Nat} : Fresh 342 452 o (RoomIs o bits h) :=
 ⟨fun _ => by kernel_rfl, fun _ => by kernel_rfl, fun _ _ ⟨_, h1, _⟩ => same_below (roomOver_do ((cellsAt h1 4).1))⟩
theorem roomSteps {p o bits h s : Nat} {W : WorldM} (hW : W.Ok) (hq : Bkt bits (bucketN h bits)) (hs : freeN (W.cells.f (tagsA bits (bucketN h bits))) = some s) : Steps 342 453 o p true (Star (WorldIs p W) (RoomIs o bits h)) (Star (WorldIs p (loadW W (tagsA bits (bucketN h bits)))) (RoomGot o bits (bucketN h bits) s)) :=
 ⟨fun _ => by kernel_rfl, fun _ => by kernel_rfl, fun _ _ hh => roomStep_any hh hW hq hs⟩
theorem markFresh {o a : Nat} : Fresh 303 360 o (MarkIs o [a]) :=
 ⟨fun _ => by kernel_rfl, fun _ => by kernel_rfl, fun V S0 ⟨v, h⟩ => same_below (by
  obtain ⟨va, vc, rfl⟩ := h.2.1.len
  exact markOver_any h.1)⟩
theorem markSteps {p o a : Nat} {W : WorldM} (hW : W.Ok) (ha : U64 a) : Steps 303 345 o p true (Star (WorldIs p W) (MarkIs o [a])) (WorldIs p (markW W a)) :=
 ⟨fun _ => by kernel_rfl, fun _ => by kernel_rfl, fun V S0 h => by
  refine (markStep_any h hW ha).mono ?_
  rintro e w' ⟨rfl, hst⟩
  exact ⟨rfl, hst.wk (Wk.fst _ _)⟩⟩
theorem putFresh {o ta tt s tag ref : Nat} (h0 : ta ≠ 0) : Fresh 417 460 o (PutIs o ta tt s 0 0 tag ref) :=
 ⟨fun _ => by kernel_rfl, fun _ => by kernel_rfl, fun V S0 h => putOver_any h.1 h0⟩
theorem putSteps1 {p o ta tt s u tag ref : Nat} {W : WorldM} (hW : W.Ok) (h0 : ta ≠ 0) (ht : U64 tt) (hr : ref < 9223372036854775808) : Steps 417 461 o p false (Star (WorldIs p W) (PutIs o ta tt s u 0 tag ref)) (Star (WorldIs p (storeW W tt ref)) (PutIs o ta tt s u 1 tag ref)) :=
 ⟨fun _ => by kernel_rfl, fun _ => by kernel_rfl, fun _ _ h => putStep_first h hW h0 ht hr⟩
theorem putSteps2 {p o ta tt s u tag ref : Nat} {W : WorldM} (hW : W.Ok) (h0 : ta ≠ 0) (ht : U64 ta) : Steps 417 461 o p false (Star (WorldIs p W) (PutIs o ta tt s u 1 tag ref)) (Star (WorldIs p (loadW W ta)) (PutIs o ta tt s (W.cells.f ta) 2 tag ref)) :=
 ⟨fun _ => by kernel_rfl, fun _ => by kernel_rfl, fun _ _ h => putStep_second h hW h0 ht⟩
theorem putSteps3 {p o ta tt s u tag ref : Nat} {W : WorldM} (hW : W.Ok) (h0 : ta ≠ 0) (ht : U64 ta) (hu : U64 u) (hs : s < 4) (htag : tag < 256) : Steps 417 461 o p true (Star (WorldIs p W) (PutIs o ta tt s u 2 tag ref)) (WorldIs p (storeW W ta (withN u s tag))) :=
 ⟨fun _ => by kernel_rfl, fun _ => by kernel_rfl, fun V S0 h => by
  refine (putStep_third h hW h0 ht hu hs htag).mono ?_
  rintro e w' ⟨rfl, hst⟩
  exact ⟨rfl, hst.wk (Wk.fst _ _)⟩⟩
theorem giveFresh {o : Nat} : Fresh 270 183 o (GiveIs o 1) :=
 ⟨fun _ => by kernel_rfl, fun _ => by kernel_rfl, fun _ _ h => same_below (giveOver_any h (by omega))⟩
theorem giveSteps {p o : Nat} {W : WorldM} (hW : W.Ok) : Steps 270 138 o p true (Star (WorldIs p W) (GiveIs o 1)) (WorldIs p (giveW W)) :=
 ⟨fun _ => by kernel_rfl, fun _ => by kernel_rfl, fun V S0 h => by
  refine (giveStep_any h hW).mono ?_
  rintro e w' ⟨rfl, hst⟩
  exact ⟨rfl, hst.wk (Wk.fst _ _)⟩⟩
def BoxB (b : Nat) (v : Value) (t : TypeId) : Thing := Blk b [v] t
abbrev StoreBox (b x : Nat) : Thing := BoxB b (ptrN x) 209
theorem Blk.cell0 {b : Nat} {v : Value} {t : TypeId} {w : World} {S : Nat → Prop} (h : BoxB b v t w S) : w.cell? ⟨b, 0, none⟩ = some v := (Blk.cell h (j := 0) rfl).1
theorem made_in {A C O : Thing} {w w1 : World} {S : Nat → Prop} (hA : Framed A) (hC : Framed C) (h : Star A C w S) (hm : Made O w w1) : Stp (Star (Star A O) C) S w w1 := by
 obtain ⟨⟨S', h1, h2⟩, hb⟩ := hm
 exact (Star.new (hA.star hC) h hb h1 h2).wk ((Wk.comm _ _).trans ((Wk.assoc' _ _ _).trans (Wk.star (Wk.comm _ _) (Wk.refl _))))
abbrev findsF (x : Nat) : Value := .func (.func 130) #[ptrN x] #[]
theorem doesTurn {p x bx : Nat} {op thn act : Value} {m : StM} {A : Thing} (hA : Framed A) (hbx : ∀ V S0, A V S0 → V.cell? ⟨bx, 0, none⟩ = some (ptrN x)) :
  Doing 127 #[ptrN p, ptrN bx] (Star A (StoreB x op thn act m)) (fun V S => ∃ o, Star (Star A (TurnIs o 1 0)) (StoreB x (.iface 253 (ptrN o)) (findsF x) .nilFunc m) V S) := by
 refine ⟨fun _ => by kernel_rfl, fun w S h => ?_⟩
 have b0 : w.cell? ⟨bx, 0, none⟩ = some (ptrN x) := by
  obtain ⟨S1, S2, h1, -⟩ := h
  exact hbx w S1 h1
 have hFS : Framed (StoreB x op thn act m) := framed_store _ _ _ _ _
 have HH := hidZ (Star.drew hA hFS h)
 have HA := hidZ hA
 have HBX := hidZ hbx
 have hmf := @mkFn Tryz.prog
 clear h hA hbx
 go_enter Tryz.func127, Tryz.ntmps127
 go_upto_region 0 with fail
 refine wp_region_held_drew (S := fun V => V.cell? ⟨bx, 0, none⟩ = some (ptrN x)) (by kernel_rfl) b0 (fun hHe => ?_)
 refine tkz 0 rfl ?_
 try simp only [tp, tz]
 refine tkz 1 rfl ?_
 try simp only [tp, tz]
 refine tkz 2 rfl ?_
 try simp only [tp, tz]
 refine tkz 3 rfl ?_
 try simp only [tp, tz]
 refine tkz 6 rfl ?_
 try simp only [tp, tz]
 refine tkz 7 rfl ?_
 try simp only [tp, tz]
 refine rdy 4 rfl (fun K hK => ?_)
 go_simp
 go_at_call 129
 refine (newTurn_any _).mono ?_
 rintro e w1 ⟨rfl, hm1⟩
 refine hK.out _ _ ((hm1.2.cell (p := ⟨bx, 0, none⟩) (cell_lt hHe)).trans hHe) (fun hHf => ?_)
 clear hK K
 try simp only [tp, tz]
 refine tkz 5 rfl ?_
 try simp only [tp, tz]
 obtain ⟨S1, hs1, hc1, hk1⟩ := made_in HA.out hFS HH.out hm1
 have HF : Framed (Star A (TurnIs w.drew.heap.size 1 0)) := HA.out.star (framed_turn _ _ _)
 have HS1 := hidZ hs1
 have HC1 := hidZ (And.intro (show Chg S w w1 from (Chg.refl S w).drew.trans hc1) (show ∀ k, S1 k → S k ∨ w.heap.size ≤ k from hk1))
 clear hs1 hc1 hk1 hm1
 refine rdy 8 rfl (fun K hK => ?_)
 go_simp
 go_at_call 128
 refine (goesSteps_any HF HS1.out (turnFresh.frame (Wk.snd _ _))).mono ?_
 rintro e w2 ⟨⟨uu, rfl⟩, ⟨S4, hs4, hc4, hk4⟩⟩
 refine hK.out _ _ (by obtain ⟨T1, T2, ⟨T3, T4, a5, -⟩, -⟩ := hs4; exact HBX.out w2 T3 a5) (fun hHf => ?_)
 clear hK K
 try simp only [tp, tz]
 refine wpAnyH_done (by kernel_rfl) ?_ _
 have HST := hidZ (show Stp (fun V S => ∃ o, Star (Star A (TurnIs o 1 0)) (StoreB x (.iface 253 (ptrN o)) (findsF x) .nilFunc m) V S) S w w2 from Stp.then HC1.out.1 HC1.out.2 ⟨S4, ⟨_, hs4⟩, hc4, hk4⟩)
 clear hs4 hc4 hk4 hHf hHe
 go_wp2_with fail
 exact bodyPost_end (results_none (by exact Tryz.results127) _ _ _) rfl ⟨⟨_, rfl⟩, HST.out⟩
abbrev FindBox (b o : Nat) : Thing := BoxB b (ptrN o) 289
abbrev foundF (bf bx : Nat) : Value := .func (.func 159) #[] #[ptrN bf, ptrN bx]
def FindPh (x : Nat) (m : StM) (A F : Thing) (o : Nat) : Thing := fun V S => ∃ q : Nat × Nat, Star (Star (Star A F) (Star (StoreBox q.1 x) (FindBox q.2 o))) (StoreB x (.iface 289 (ptrN o)) (foundF q.2 q.1) .nilFunc m) V S
theorem doesFinds {p x : Nat} {op thn act : Value} {m : StM} {A : Thing} (hA : Framed A) :
  Doing 130 #[ptrN x, ptrN p] (Star A (StoreB x op thn act m)) (fun V S => ∃ o, FindPh x m A (Find0 o m.key) o V S) := by
 refine ⟨fun _ => by kernel_rfl, fun w S h => ?_⟩
 have hFS : Framed (StoreB x op thn act m) := framed_store _ _ _ _ _
 have hx : x < w.heap.size := cell_lt (Star.cellB h (j := 0) (v := op) rfl).1
 obtain ⟨w0, hw0⟩ := xE (w.alloc (.cells #[ptrN x] 209))
 have hm0 : Made (StoreBox w.heap.size x) w w0 := by rw [hw0]; exact made_blk w [ptrN x] _
 have hst0 := made_in hA hFS h hm0
 obtain ⟨bx, hbx⟩ := xE (w.heap.size)
 rw [← hbx] at hst0
 have hA0 : Framed (Star A (StoreBox bx x)) := hA.star (framed_blk _ _ _ (by decide))
 obtain ⟨S0, hs0, hc0, hk0⟩ := hst0
 have k4 : w0.cell? ⟨x, 4, none⟩ = some (sv m.key) := (Star.cellB hs0 (j := 4) rfl).1
 have b0 : w0.cell? ⟨bx, 0, none⟩ = some (ptrN x) := by
  obtain ⟨T1, T2, ⟨T3, T4, -, a6, -⟩, -⟩ := hs0
  exact Blk.cell0 a6
 have HS0 := hidZ hs0
 have HC0 := hidZ (And.intro hc0 hk0)
 have HA0 := hidZ hA0
 have HA := hidZ hA
 have hmf := @mkFn Tryz.prog
 clear h hA hm0 hs0 hc0 hk0 hA0
 go_enter Tryz.func130, Tryz.ntmps130
 go_upto_region 1 with fail
 rw [← hw0, ← hbx]
 clear hw0 hbx
 go_wp2_with fail
 refine (newFind_any m.key w0).mono ?_
 rintro e w1 ⟨rfl, hm1⟩
 obtain ⟨o, ho⟩ := xE (w0.heap.size)
 rw [← ho] at hm1 ⊢
 obtain ⟨S1, hs1, hc1, hk1⟩ := made_in HA0.out hFS HS0.out hm1
 have hF1 : Framed (Star (Star A (StoreBox bx x)) (Find0 o m.key)) := HA0.out.star (framed_find0 _ _)
 obtain ⟨w2, hw2⟩ := xE (w1.alloc (.cells #[ptrN o] 289))
 have hm2 : Made (FindBox w1.heap.size o) w1 w2 := by rw [hw2]; exact made_blk w1 [ptrN o] _
 obtain ⟨bf, hbf⟩ := xE (w1.heap.size)
 rw [← hbf] at hm2
 obtain ⟨S2, hs2, hc2, hk2⟩ := (made_in hF1 hFS hs1 hm2).wk (B := Star (Star (Star A (Find0 o m.key)) (Star (StoreBox bx x) (FindBox bf o))) (StoreB x op thn act m)) (Wk.star ((Wk.assoc _ _ _).trans ((Wk.assoc _ _ _).trans ((Wk.star (Wk.refl _) ((Wk.assoc' _ _ _).trans ((Wk.star (Wk.comm _ _) (Wk.refl _)).trans (Wk.assoc _ _ _)))).trans (Wk.assoc' _ _ _)))) (Wk.refl _))
 have hrd : ∀ {V S' op thn act}, Star (Star (Star A (Find0 o m.key)) (Star (StoreBox bx x) (FindBox bf o))) (StoreB x op thn act m) V S' → V.cell? ⟨bx, 0, none⟩ = some (ptrN x) ∧ V.cell? ⟨bf, 0, none⟩ = some (ptrN o) := by
  rintro V S' op thn act ⟨T1, T2, ⟨T3, T4, -, ⟨T5, T6, a1, a2, -⟩, -⟩, -⟩
  exact ⟨Blk.cell0 a1, Blk.cell0 a2⟩
 have r2 := hrd hs2
 have HRD := hidZ (show ∀ V S' op thn act, Star (Star (Star A (Find0 o m.key)) (Star (StoreBox bx x) (FindBox bf o))) (StoreB x op thn act m) V S' → V.cell? ⟨bx, 0, none⟩ = some (ptrN x) ∧ V.cell? ⟨bf, 0, none⟩ = some (ptrN o) from fun _ _ _ _ _ => hrd)
 have HS2 := hidZ (Star.drew ((HA.out.star (framed_find0 _ _)).star ((framed_blk _ _ _ (by decide)).star (framed_blk _ _ _ (by decide)))) hFS hs2)
 have HF2 := hidZ (show Framed (Star (Star A (Find0 o m.key)) (Star (StoreBox bx x) (FindBox bf o))) from (HA.out.star (framed_find0 _ _)).star ((framed_blk _ _ _ (by decide)).star (framed_blk _ _ _ (by decide))))
 have hcc : Chg S w w2 ∧ (∀ k, S2 k → S k ∨ w.heap.size ≤ k) := by
  have e0 := HC0.out.1.size
  have e1 := hc1.size
  have f1 : ∀ k, S1 k → S k ∨ w.heap.size ≤ k := fun k hk => (hk1 k hk).elim (HC0.out.2 k) (fun e => .inr (by omega))
  refine ⟨((HC0.out.1.then hc1 (fun k hk e => (HC0.out.2 k e).elim id (fun e' => by omega)))).then hc2 (fun k hk e => (f1 k e).elim id (fun e' => by omega)), fun k hk => (hk2 k hk).elim (f1 k) (fun e => .inr (by omega))⟩
 have HC2 := hidZ hcc
 have ho' : o < w2.heap.size := by
  have h1 := hc2.size
  have h2 := hm1.2.size
  obtain ⟨T, ⟨r, a1, -⟩, -⟩ := hm1.1
  have := (Array.getElem?_eq_some_iff.1 a1).1
  omega
 obtain ⟨rb, rf⟩ := r2
 clear hs1 hc1 hk1 hF1 hm1 hm2 hs2 hc2 hk2 hrd hcc k4 b0 ho
 go_upto_region 2 with fail
 rw [← hw2, ← hbf]
 clear hw2 hbf
 refine wp_region_held_drew (S := fun V => V.cell? ⟨bx, 0, none⟩ = some (ptrN x) ∧ V.cell? ⟨bf, 0, none⟩ = some (ptrN o)) (by kernel_rfl) ⟨rb, rf⟩ (fun hHe => ?_)
 refine tkw 0 rfl ?_
 try simp only [tp, tz]
 refine tkz 1 rfl ?_
 try simp only [tp, tz]
 refine tkz 2 rfl ?_
 try simp only [tp, tz]
 refine tkz 3 rfl ?_
 try simp only [tp, tz]
 refine tkw 4 rfl ?_
 try simp only [tp, tz]
 refine tkz 5 rfl ?_
 try simp only [tp, tz]
 refine tkz 6 rfl ?_
 try simp only [tp, tz]
 refine rdy 7 rfl (fun K hK => ?_)
 go_simp
 go_at_call 128
 refine (goesSteps_any HF2.out HS2.out (findFresh.frame ((Wk.fst _ _).trans (Wk.snd _ _)))).mono ?_
 rintro e w3 ⟨⟨uu, rfl⟩, ⟨S4, hs4, hc4, hk4⟩⟩
 refine hK.out _ _ (HRD.out _ _ _ _ _ hs4) (fun hHf => ?_)
 clear hK K
 try simp only [tp, tz]
 refine wpAnyH_done (by kernel_rfl) ?_ _
 clear hHe
 have HST := hidZ (show Stp (fun V S => ∃ o, FindPh x m A (Find0 o m.key) o V S) S w w3 from Stp.then HC2.out.1 HC2.out.2 ⟨S4, ⟨o, ⟨bx, bf⟩, hs4⟩, (Chg.refl _ _).drew.trans hc4, hk4⟩)
 clear hs4 hc4 hk4 hHf
 go_wp2_with fail
 exact bodyPost_end (results_none (by exact Tryz.results130) _ _ _) rfl ⟨⟨_, rfl⟩, HST.out⟩
theorem findGot_any {w : World} {x u : Nat} {key : List UInt8} {L : List (Nat × Nat)} {S : Nat → Prop} (h : FindIs x key u L w S) :
  Calls Tryz.prog 160 #[ptrN x] w fun e w' => e = .returned (.tuple #[spotV 0 0 0, .int .i64 0]) ∧ Below w.heap.size w w' := by
 obtain ⟨v, bx, bs, f1, -⟩ := h
 have k3 : w.cell? ⟨x, 3, none⟩ = some (.int .i64 0) := (cellsAt f1 3).1
 have k4 : w.cell? ⟨x, 4, none⟩ = some (.int .i64 0) := (cellsAt f1 4).1
 have k5 : w.cell? ⟨x, 5, none⟩ = some (.int .i64 0) := (cellsAt f1 5).1
 have k6 : w.cell? ⟨x, 6, none⟩ = some (.int .i64 0) := (cellsAt f1 6).1
 have hxl : x < w.heap.size := cell_lt k3
 clear f1
 go_enter Tryz.func160, Tryz.ntmps160
 go_upto_region 3 with fail
 go_region
 have hm := heap_mem w (.cells #[.int .i64 0, .int .i64 0, .int .i64 0] 132)
 have y0 : (w.alloc (.cells #[.int .i64 0, .int .i64 0, .int .i64 0] 132)).drew.cell? ⟨w.heap.size, 0, none⟩ = some (.int .i64 0) := (cellsAt hm 0).1
 have y1 : (w.alloc (.cells #[.int .i64 0, .int .i64 0, .int .i64 0] 132)).drew.cell? ⟨w.heap.size, 1, none⟩ = some (.int .i64 0) := (cellsAt hm 1).1
 have y2 : (w.alloc (.cells #[.int .i64 0, .int .i64 0, .int .i64 0] 132)).drew.cell? ⟨w.heap.size, 2, none⟩ = some (.int .i64 0) := (cellsAt hm 2).1
 have hb : Below w.heap.size w (w.alloc (.cells #[.int .i64 0, .int .i64 0, .int .i64 0] 132)).drew := ((Below.refl _ _).alloc (Nat.le_refl _) _).drew
 obtain ⟨W, hW⟩ := xE ((w.alloc (.cells #[.int .i64 0, .int .i64 0, .int .i64 0] 132)).drew)
 rw [← hW] at y0 y1 y2 hb ⊢
 clear hW hm k3 k4 k5 k6 hxl
 go_wp2_with fail
 exact bodyPost_ret (v := .tuple #[spotV 0 0 0, .int .i64 0]) (by simp [results, Tryz.results160, go_sem, y0, y1, y2]) rfl ⟨rfl, hb⟩
theorem doesFound {p x o u bf bx : Nat} {op thn act : Value} {m : StM} {A : Thing} (hA : Framed A) (h5 : m.verb ≠ 5) (h6 : m.verb ≠ 6) :
  Doing 159 #[ptrN p, ptrN bf, ptrN bx] (Star (Star (Star A (FindIs o m.key u [])) (Star (StoreBox bx x) (FindBox bf o))) (StoreB x op thn act m)) (Star A (StoreB x .nilIface thn (.func (.func 167) #[ptrN x] #[]) m)) := by
 refine ⟨fun _ => by kernel_rfl, fun w S h => ?_⟩
 have hFX : Framed (Star (Star A (FindIs o m.key u [])) (Star (StoreBox bx x) (FindBox bf o))) := (hA.star (framed_find _ _ _ _)).star ((framed_blk _ _ _ (by decide)).star (framed_blk _ _ _ (by decide)))
 have hFS : Framed (StoreB x op thn act m) := framed_store _ _ _ _ _
 have HG := hidZ (show Calls Tryz.prog 160 #[ptrN o] w fun e w' => e = .returned (.tuple #[spotV 0 0 0, .int .i64 0]) ∧ Below w.heap.size w w' from by
  obtain ⟨T1, T2, ⟨T3, T4, ⟨T5, T6, -, a1, -⟩, -⟩, -⟩ := h
  exact findGot_any a1)
 have bb : w.cell? ⟨bx, 0, none⟩ = some (ptrN x) ∧ w.cell? ⟨bf, 0, none⟩ = some (ptrN o) := by
  obtain ⟨T1, T2, ⟨T3, T4, -, ⟨T5, T6, a1, a2, -⟩, -⟩, -⟩ := h
  exact ⟨Blk.cell0 a1, Blk.cell0 a2⟩
 obtain ⟨b0, c0⟩ := bb
 have v0 : ((m.verb : Int) == 5) = false := by rw [beq_eq_false_iff_ne]; omega
 have v1 : ((m.verb : Int) == 6) = false := by rw [beq_eq_false_iff_ne]; omega
 have HH := hidZ h
 have HFX := hidZ hFX
 have HA := hidZ hA
 have hmf := @mkFn Tryz.prog
 clear h hA hFX h5 h6
 go_enter Tryz.func159, Tryz.ntmps159
 go_wp2_with fail
 refine HG.out.mono ?_
 rintro e w1 ⟨rfl, hb1⟩
 obtain ⟨w2, hw2⟩ := xE ((w1.alloc (.cells #[.int .i64 0, .int .i64 0, .int .i64 0] 132)).alloc (.cells #[.int .i64 0] 3))
 have hb2 : Below w.heap.size w w2 := by rw [hw2]; exact (hb1.alloc hb1.size _).alloc (by rw [size_at]; have := hb1.size; omega) _
 have hq2 : w2.heap[w1.heap.size + 1]? = some (.cells #[.int .i64 0] 3 (0, 0)) := by rw [hw2, heap_at, if_pos (by rw [size_at])]
 have hv2 : w2.cell? ⟨w1.heap.size + 1, 0, none⟩ = some (.int .i64 0) := (cellsAt hq2 0).1
 have b2 : w2.cell? ⟨bx, 0, none⟩ = some (ptrN x) := (hb2.cell (p := ⟨bx, 0, none⟩) (cell_lt b0)).trans b0
 have hs2 := (HFX.out.star hFS).below HH.out hb2
 have k3 : w2.cell? ⟨x, 3, none⟩ = some (.int .u8 (m.verb : Int)) := (Star.cellB hs2 (j := 3) rfl).1
 have HS2 := hidZ hs2
 have HB2 := hidZ hb2
 clear hb1 HG hs2 hb2
 go_upto_region 2 with fail
 rw [← hw2]
 clear hw2 hq2
 go_upto_region 1 with fail
 refine wp_region_held_drew (S := fun V => V.cell? ⟨bx, 0, none⟩ = some (ptrN x)) (by kernel_rfl) b2 (fun hHe => ?_)
 refine tkz 0 rfl ?_
 try simp only [tp, tz]
 refine tkz 1 rfl ?_
 try simp only [tp, tz]
 refine tkz 2 rfl ?_
 try simp only [tp, tz]
 refine tkz 3 rfl ?_
 try simp only [tp, tz]
 refine tkz 4 rfl ?_
 try simp only [tp, tz]
 refine rdy 5 rfl (fun K hK => ?_)
 go_simp
 go_at_call 163
 refine (goesAccess_any HFX.out (Star.drew HFX.out hFS HS2.out)).mono ?_
 rintro e w3 ⟨⟨uu, rfl⟩, ⟨S4, hs4, hc4, hk4⟩⟩
 refine hK.out _ _ (by obtain ⟨T1, T2, ⟨T3, T4, -, ⟨T5, T6, a1, a2, -⟩, -⟩, -⟩ := hs4; exact Blk.cell0 a1) (fun hHf => ?_)
 clear hK K
 try simp only [tp, tz]
 refine wpAnyH_done (by kernel_rfl) ?_ _
 clear hHe
 have HST := hidZ (show Stp (Star A (StoreB x .nilIface thn (.func (.func 167) #[ptrN x] #[]) m)) S w w3 from (Stp.then (Chg.of_below HB2.out) (fun k hk => .inl hk) ⟨S4, hs4, (Chg.refl _ _).drew.trans hc4, hk4⟩).wk (Wk.star ((Wk.fst _ _).trans (Wk.fst _ _)) (Wk.refl _)))
 clear hs4 hc4 hk4 hHf
 go_wp2_with fail
 exact bodyPost_end (results_none (by exact Tryz.results159) _ _ _) rfl ⟨⟨_, rfl⟩, HST.out⟩
theorem Star.worldCell {p j : Nat} {W : WorldM} {B : Thing} {w : World} {S : Nat → Prop} {v : Value} (h : Star (WorldIs p W) B w S) (hj : ∀ pc pi pn, (worldCells pc pi pn W)[j]? = some v) : w.cell? ⟨p, j, none⟩ = some v := by
 obtain ⟨S1, S2, ⟨pc, pi, pn, -, T1, T2, a1, -⟩, -⟩ := h
 exact (Blk.cell a1 (hj pc pi pn)).1
abbrev storeF (f x : Nat) : Value := .func (.func f) #[ptrN x] #[]
theorem accessTables_any {w : World} {p x bx : Nat} {op thn act : Value} {m : StM} {A : Thing} {S : Nat → Prop} (hA : Framed A) (hbx : ∀ V S0, A V S0 → V.cell? ⟨bx, 0, none⟩ = some (ptrN x)) (h : Star A (StoreB x op thn act m) w S) :
  Calls Tryz.prog 200 #[ptrN p, ptrN bx] w fun e w' => (∃ u, e = .returned u) ∧ Stp (Star A (StoreB x .nilIface thn (storeF 201 x) m)) S w w' := by
 have b0 : w.cell? ⟨bx, 0, none⟩ = some (ptrN x) := by
  obtain ⟨S1, S2, h1, -⟩ := h
  exact hbx w S1 h1
 have HH := hidZ (Star.drew hA (framed_store _ _ _ _ _) h)
 have HA := hidZ hA
 have HBX := hidZ hbx
 have hmf := @mkFn Tryz.prog
 clear h hA hbx
 go_enter Tryz.func200, Tryz.ntmps200
 go_upto_region 0 with fail
 refine wp_region_held_drew (S := fun V => V.cell? ⟨bx, 0, none⟩ = some (ptrN x)) (by kernel_rfl) b0 (fun hHe => ?_)
 refine tkz 0 rfl ?_
 try simp only [tp, tz]
 refine tkz 1 rfl ?_
 try simp only [tp, tz]
 refine tkz 2 rfl ?_
 try simp only [tp, tz]
 refine tkz 3 rfl ?_
 try simp only [tp, tz]
 refine tkz 4 rfl ?_
 try simp only [tp, tz]
 refine rdy 5 rfl (fun K hK => ?_)
 go_simp
 go_at_call 163
 refine (goesAccess_any HA.out HH.out).mono ?_
 rintro e w2 ⟨⟨uu, rfl⟩, ⟨S4, hs4, hc4, hk4⟩⟩
 refine hK.out _ _ (by obtain ⟨T1, T2, a1, -⟩ := hs4; exact HBX.out w2 T1 a1) (fun hHf => ?_)
 clear hK K
 try simp only [tp, tz]
 refine wpAnyH_done (by kernel_rfl) ?_ _
 clear hHe
 have HST := hidZ (show Stp (Star A (StoreB x .nilIface thn (storeF 201 x) m)) S w w2 from ⟨S4, hs4, (Chg.refl S w).drew.trans hc4, hk4⟩)
 clear hs4 hc4 hk4 hHf
 go_wp2_with fail
 exact bodyPost_end (results_none (by exact Tryz.results200) _ _ _) rfl ⟨⟨_, rfl⟩, HST.out⟩
theorem doesCounts {p x : Nat} {op thn act : Value} {m : StM} {W : WorldM} {bud : Nat} (hW : W.Ok) (hb : W.cfg.budget = (bud : Int)) (hb6 : bud < 9223372036854775808) (hc : W.cells.f 6 < bud) :
  Doing 167 #[ptrN x, ptrN p] (Star (WorldIs p W) (StoreB x op thn act m)) (Star (WorldIs p (loadW W 6)) (StoreB x .nilIface thn (storeF 201 x) m)) := by
 refine ⟨fun _ => by kernel_rfl, fun w S h => ?_⟩
 have hFS : Framed (StoreB x op thn act m) := framed_store _ _ _ _ _
 obtain ⟨w0, hw0⟩ := xE (w.alloc (.cells #[ptrN x] 209))
 have hm0 : Made (StoreBox w.heap.size x) w w0 := by rw [hw0]; exact made_blk w [ptrN x] _
 have hst0 := (made_in (framed_worldIs p W) hFS h hm0).wk (Wk.assoc _ _ _)
 obtain ⟨bx, hbx⟩ := xE (w.heap.size)
 rw [← hbx] at hst0
 obtain ⟨S0, hs0, hc0, hk0⟩ := hst0
 have hFB : Framed (Star (StoreBox bx x) (StoreB x op thn act m)) := (framed_blk _ _ _ (by decide)).star hFS
 obtain ⟨pc, S3, c0, -, -, -, -⟩ := Star.cellsW hFB hW.tickets hs0
 have HL := hidZ (loadAt (a := 6) hFB hs0 hW.tickets (by unfold U64; omega) hW.count c0)
 have HC0 := hidZ (And.intro hc0 hk0)
 have HBU := hidZ hb
 have hcv : IntKind.u64.wrap (bud : Int) = (bud : Int) := by rw [IntKind.wrap_u64]; omega
 have hmx : max (bud : Int) 0 = (bud : Int) := by omega
 have hge : decide (bud ≤ W.cells.f 6) = false := by rw [decide_eq_false_iff_not]; omega
 have hmf := @mkFn Tryz.prog
 clear h hm0 hs0 hc0 hk0 hb hc hW
 go_enter Tryz.func167, Tryz.ntmps167
 go_upto_region 1 with fail
 rw [← hw0, ← hbx]
 clear hw0 hbx
 go_wp2_with fail
 refine HL.out.mono ?_
 rintro e w1 ⟨rfl, ⟨S1, hs1, hc1, hk1⟩, -⟩
 have k4 : w1.cell? ⟨p, 4, none⟩ = some (.int .i64 (bud : Int)) := Star.worldCell hs1 (fun _ _ _ => by rw [← HBU.out]; rfl)
 have HS1 := hidZ hs1.assoc'
 have HC1 := hidZ (show Chg S w w1 ∧ ∀ k, S1 k → S k ∨ w.heap.size ≤ k from by
  have e0 := HC0.out.1.size
  exact ⟨HC0.out.1.then hc1 (fun k hk e => (HC0.out.2 k e).elim id (fun e' => by omega)), fun k hk => (hk1 k hk).elim (HC0.out.2 k) (fun e => .inr (by omega))⟩)
 clear hs1 hc1 hk1 HL c0
 go_wp2_with fail
 refine (accessTables_any (p := p) ((framed_worldIs p (loadW W 6)).star (framed_blk _ _ _ (by decide))) (fun V S0 hV => by obtain ⟨T1, T2, -, a2, -⟩ := hV; exact Blk.cell0 a2) HS1.out).mono ?_
 rintro e w2 ⟨⟨uu, rfl⟩, hst⟩
 have HST := hidZ ((Stp.then HC1.out.1 HC1.out.2 hst).wk (Wk.star (Wk.fst _ _) (Wk.refl _)))
 clear hst
 go_wp2_with fail
 exact bodyPost_end (results_none (by exact Tryz.results167) _ _ _) rfl ⟨⟨_, rfl⟩, HST.out⟩
abbrev RoomBox (b o : Nat) : Thing := BoxB b (ptrN o) 342
def RoomPh (x : Nat) (m : StM) (A F : Thing) (o : Nat) : Thing := fun V S => ∃ q : Nat × Nat × Nat × Nat × Nat, Star (Star (Star A F) (Star (StoreBox q.1 x) (RoomBox q.2.1 o)))
 (StoreB x (.iface 342 (ptrN o)) (.func (.func 233) #[] #[ptrN q.2.1, ptrN q.1, ptrN q.2.2.1, ptrN q.2.2.2.1, ptrN q.2.2.2.2]) .nilFunc m) V S
theorem Star.hCell {A : Thing} {x : Nat} {op thn act : Value} {m : StM} {w : World} {S : Nat → Prop} (h : Star A (StoreB x op thn act m) w S) : w.cell? ⟨x, 10, none⟩ = some (.int .u64 (m.h : Int)) := (Star.cellB h (j := 10) rfl).1
theorem Star.rot {X B C : Thing} {w : World} {S : Nat → Prop} (h : Star (Star X B) C w S) : Star (Star X C) B w S := (h.assoc.snd_mono (fun _ h => h.comm)).assoc'
theorem Star.setBox {X C : Thing} {b : Nat} {v v' : Value} {t : TypeId} {w : World} {S : Nat → Prop} (hX : Framed X) (hC : Framed C) (ht : t ≠ 9) (h : Star (Star X (BoxB b v t)) C w S) : Star (Star X (BoxB b v' t)) C (w.setCell ⟨b, 0, none⟩ v') S ∧ Chg S w (w.setCell ⟨b, 0, none⟩ v') := by
 obtain ⟨h1, h2⟩ := Star.setB (hX.star hC) ht h.rot 0 v'
 exact ⟨Star.rot h1, h2⟩
theorem doesTables {p x : Nat} {op thn act : Value} {m : StM} {W : WorldM} (hW : W.Ok) (hh : m.h < 18446744073709551616) :
  Doing 201 #[ptrN x, ptrN p] (Star (WorldIs p W) (StoreB x op thn act m)) (fun V S => ∃ o, RoomPh x m (WorldIs p (loadW W 2)) (RoomIs o (targetN (W.cells.f 2)) m.h) o V S) := by
 refine ⟨fun _ => by kernel_rfl, fun w S h => ?_⟩
 have hFS : Framed (StoreB x op thn act m) := framed_store _ _ _ _ _
 obtain ⟨w0, hw0⟩ := xE (w.alloc (.cells #[ptrN x] 209))
 have hm0 : Made (StoreBox w.heap.size x) w w0 := by rw [hw0]; exact made_blk w [ptrN x] _
 have hst0 := (made_in (framed_worldIs p W) hFS h hm0).wk (Wk.assoc _ _ _)
 obtain ⟨bx, hbx⟩ := xE (w.heap.size)
 rw [← hbx] at hst0
 obtain ⟨S0, hs0, hc0, hk0⟩ := hst0
 have hFB : Framed (Star (StoreBox bx x) (StoreB x op thn act m)) := (framed_blk _ _ _ (by decide)).star hFS
 obtain ⟨pc, S3, c0, -, -, -, -⟩ := Star.cellsW hFB hW.tickets hs0
 have HL := hidZ (loadAt (a := 2) hFB hs0 hW.tickets (by unfold U64; omega) hW.count c0)
 have HC0 := hidZ (And.intro hc0 hk0)
 have HU := hidZ (hW.f 2)
 obtain ⟨f2, hf2⟩ := xE (W.cells.f 2)
 rw [← hf2] at HL HU ⊢
 have HTB := hidZ (target_bounds f2)
 have hmf := @mkFn Tryz.prog
 clear h hm0 hs0 hc0 hk0 hW hf2
 go_enter Tryz.func201, Tryz.ntmps201
 go_upto_region 1 with fail
 rw [← hw0, ← hbx]
 clear hw0 hbx
 go_wp2_with fail
 refine HL.out.mono ?_
 rintro e w1 ⟨rfl, ⟨S1, hs1, hc1, hk1⟩, -⟩
 have HS1 := hidZ hs1.assoc'
 have HC1 := hidZ (show Chg S w w1 ∧ ∀ k, S1 k → S k ∨ w.heap.size ≤ k from by
  have e0 := HC0.out.1.size
  exact ⟨HC0.out.1.then hc1 (fun k hk e => (HC0.out.2 k e).elim id (fun e' => by omega)), fun k hk => (hk1 k hk).elim (HC0.out.2 k) (fun e => .inr (by omega))⟩)
 obtain ⟨w2, hw2⟩ := xE (w1.alloc (.cells #[.int .u64 (f2 : Int)] 24))
 have hq2 : w2.heap[w1.heap.size]? = some (.cells #[.int .u64 (f2 : Int)] 24 (0, 0)) := by rw [hw2]; exact heap_mem w1 _
 obtain ⟨b4, hb4⟩ := xE (w1.heap.size)
 rw [← hb4] at hq2
 have r4 : w2.cell? ⟨b4, 0, none⟩ = some (.int .u64 (f2 : Int)) := (cellsAt hq2 0).1
 have hbw2 : Below w1.heap.size w1 w2 := bal hw2
 clear hs1 hc1 hk1 HL c0
 go_upto_region 2 with fail
 rw [← hw2, ← hb4]
 clear hw2 hb4
 go_wp2_with fail
 refine (as_any f2 HU.out w2).mono ?_
 rintro e w2' ⟨rfl, rfl⟩
 obtain ⟨w3, hw3⟩ := xE ((w2.alloc (.cells #[.int .i64 (oldN f2 : Int)] 3)).alloc (.cells #[.int .i64 (newN f2 : Int)] 3))
 have hbw3 : Below w1.heap.size w1 w3 := by rw [hw3]; exact (hbw2.alloc hbw2.size _).alloc (by rw [size_at]; have := hbw2.size; omega) _
 have hq3 : w3.heap[b4]? = some (.cells #[.int .u64 (f2 : Int)] 24 (0, 0)) := by rw [hw3]; exact boxAt (boxAt hq2 ((Below.refl _ _).alloc (Nat.le_refl _) _)) ((Below.refl _ _).alloc (Nat.le_refl _) _)
 have r4 : w3.cell? ⟨b4, 0, none⟩ = some (.int .u64 (f2 : Int)) := (cellsAt hq3 0).1
 have hF3 : Framed (Star (WorldIs p (loadW W 2)) (StoreBox bx x)) := (framed_worldIs p _).star (framed_blk _ _ _ (by decide))
 have hs3 := (hF3.star hFS).below HS1.out hbw3
 have hb3 : w3.cell? ⟨bx, 0, none⟩ = some (ptrN x) := by
  obtain ⟨T1, T2, ⟨T3, T4, -, a2, -⟩, -⟩ := hs3
  exact Blk.cell0 a2
 have hh3 := hs3.hCell
 have HS3 := hidZ hs3
 have HF3 := hidZ hF3
 have HC3 := hidZ (show Chg S w w3 from HC1.out.1.trans (Chg.of_below hbw3))
 have HSI := hidZ (show w.heap.size ≤ w3.heap.size from Nat.le_trans HC1.out.1.size hbw3.size)
 clear hs3 hF3 hbw3 hbw2 hq2 hq3 HS1
 go_upto_region 3 with fail
 rw [← hw3]
 clear hw3
 refine wp_region_held_drew (S := fun V => V.cell? ⟨bx, 0, none⟩ = some (ptrN x) ∧ V.cell? ⟨b4, 0, none⟩ = some (.int .u64 (f2 : Int)) ∧ V.cell? ⟨x, 10, none⟩ = some (.int .u64 (m.h : Int))) (by kernel_rfl) ⟨hb3, r4, hh3⟩ (fun hHe => ?_)
 refine tkw 0 rfl ?_
 try simp only [tp, tz]
 refine tkw 2 rfl ?_
 try simp only [tp, tz]
 refine tkz 3 rfl ?_
 try simp only [tp, tz]
 refine tkz 4 rfl ?_
 try simp only [tp, tz]
 refine tkw 5 rfl ?_
 try simp only [tp, tz]
 have HD3 := hidZ (Star.drew HF3.out hFS HS3.out)
 have HCD := hidZ (show Chg S w w3.drew from HC3.out.drew)
 have HSD := hidZ (show w.heap.size ≤ w3.drew.heap.size from HSI.out)
 have HK1 := hidZ (show ∀ k, S1 k → S k ∨ w.heap.size ≤ k from HC1.out.2)
 have hb4l : b4 < w3.drew.heap.size := cell_lt hHe.2.1
 have HFN := hidZ (show ∀ o br, Framed (Star (Star (WorldIs p (loadW W 2)) (RoomIs o (targetN f2) m.h)) (Star (StoreBox bx x) (RoomBox br o))) from fun o br => ((framed_worldIs p _).star (framed_room _ _ _)).star ((framed_blk _ _ _ (by decide)).star (framed_blk _ _ _ (by decide))))
 obtain ⟨wd, hwd⟩ := xE (w3.drew)
 rw [← hwd] at HD3 HCD HSD hHe hb4l ⊢
 clear hwd HS3 HC3 HSI r4 hb3 hh3
 have hAl : ∀ V : World, V.heap.size ≥ wd.heap.size → (V.cell? ⟨bx, 0, none⟩ = some (ptrN x) ∧ V.cell? ⟨b4, 0, none⟩ = some (.int .u64 (f2 : Int)) ∧ V.cell? ⟨x, 10, none⟩ = some (.int .u64 (m.h : Int))) → ((V.alloc (.cells #[.pointer none] 342)).cell? ⟨bx, 0, none⟩ = some (ptrN x) ∧ (V.alloc (.cells #[.pointer none] 342)).cell? ⟨b4, 0, none⟩ = some (.int .u64 (f2 : Int)) ∧ (V.alloc (.cells #[.pointer none] 342)).cell? ⟨x, 10, none⟩ = some (.int .u64 (m.h : Int))) := fun V _ ⟨e1, e2, e3⟩ => by
  have hb : Below V.heap.size V (V.alloc (.cells #[.pointer none] 342)) := (Below.refl _ _).alloc (Nat.le_refl _) _
  exact ⟨(hb.cell (p := ⟨bx, 0, none⟩) (cell_lt e1)).trans e1, (hb.cell (p := ⟨b4, 0, none⟩) (cell_lt e2)).trans e2, (hb.cell (p := ⟨x, 10, none⟩) (cell_lt e3)).trans e3⟩
 have HAL := hidZ hAl
 clear hAl
 refine wpAnyH_ready (rs := [1, 7]) (by kernel_rfl) (by simp) ?_
 refine (AllReadyH.cons rfl (fun K hK => ?_) (AllReadyH.cons rfl (fun K hK => ?_) AllReadyH.nil))
 ·
  go_simp
  go_at_call 232
  refine (target_any f2 HU.out _).mono ?_
  rintro e w4' ⟨rfl, rfl⟩
  refine hK.out _ _ hHe (fun hHf => ?_)
  clear hK K
  try simp only [tp, tz]
  refine wpAnyH_ready (rs := [6, 7]) (by kernel_rfl) (by simp) ?_
  refine (AllReadyH.cons rfl (fun K hK => ?_) (AllReadyH.cons rfl (fun K hK => ?_) AllReadyH.nil))
  ·
   go_simp
   go_at_call 231
   refine (newRoom_any (targetN f2) m.h HTB.out.1 HTB.out.2 hh _).mono ?_
   rintro e w4 ⟨o, rfl, hm⟩
   refine hK.out _ _ ⟨(hm.2.cell (p := ⟨bx, 0, none⟩) (cell_lt hHf.1)).trans hHf.1, (hm.2.cell (p := ⟨b4, 0, none⟩) (cell_lt hHf.2.1)).trans hHf.2.1, (hm.2.cell (p := ⟨x, 10, none⟩) (cell_lt hHf.2.2)).trans hHf.2.2⟩ (fun hHf => ?_)
   clear hK K
   try simp only [tp, tz]
   obtain ⟨Sm, hsm, hcm, hkm⟩ := made_in HF3.out hFS HD3.out hm
   have hcm2 : Chg S w w4 ∧ ∀ k, Sm k → S k ∨ w.heap.size ≤ k := ⟨HCD.out.then hcm (fun k hk e => (HK1.out k e).elim id (fun e' => by omega)), fun k hk => (hkm k hk).elim (HK1.out k) (fun e => .inr (Nat.le_trans HSD.out e))⟩
   obtain ⟨br, hbr⟩ := xE (w4.heap.size)
   obtain ⟨w5, hw5⟩ := xE (w4.alloc (.cells #[.pointer none] 342))
   have hmb : Made (BoxB br (.pointer none) 342) w4 w5 := by rw [hw5, hbr]; exact made_blk w4 [.pointer none] _
   obtain ⟨Sn, hsn, hcn', hkn'⟩ := made_in (HF3.out.star (framed_room _ _ _)) hFS hsm hmb
   have hcn : Chg S w w5 ∧ ∀ k, Sn k → S k ∨ w.heap.size ≤ k := ⟨hcm2.1.then hcn' (fun k hk e => (hcm2.2 k e).elim id (fun e' => by omega)), fun k hk => (hkn' k hk).elim (hcm2.2 k) (fun e => .inr (by have := hcm2.1.size; omega))⟩
   have hk5 := HAL.out w4 hm.2.size hHf
   have hw5' : w4.alloc (.cells #[.pointer none] 342) = w5 := hw5.symm
   rw [hw5'] at hk5
   have hb4r : b4 ≠ br := by have := hm.2.size; omega
   clear hsm hcm hkm hcm2 hmb hcn' hkn' hm
   refine rdy 7 rfl (fun K hK => ?_)
   have HWB := hidZ (And.intro hw5' hbr)
   clear hw5 hw5' hbr
   go_simp
   rw [HWB.out.1, ← HWB.out.2]
   refine hK.out _ _ hk5 (fun hHf => ?_)
   clear hK K hk5
   try simp only [tp, tz]
   obtain ⟨f1, f2'⟩ := Star.setBox (v' := ptrN o) (HF3.out.star (framed_room _ _ _)) hFS (by decide) hsn
   obtain ⟨wf, hwf⟩ := xE (w5.setCell ⟨br, 0, none⟩ (ptrN o))
   rw [← hwf] at f1 f2'
   have HSF := hidZ (show Star (Star (Star (WorldIs p (loadW W 2)) (RoomIs o (targetN f2) m.h)) (Star (StoreBox bx x) (RoomBox br o))) (StoreB x op thn act m) wf Sn from by
    have g := f1
    refine Star.fst_mono g (fun S' g => ?_)
    exact (Star.fst_mono g (fun S' g => g.rot)).assoc)
   have hcf : Chg S w wf ∧ ∀ k, Sn k → S k ∨ w.heap.size ≤ k := ⟨hcn.1.then f2' (fun k hk e => (hcn.2 k e).elim id (fun e' => by omega)), hcn.2⟩
   have HCF := hidZ hcf
   have hk8 : wf.cell? ⟨bx, 0, none⟩ = some (ptrN x) ∧ wf.cell? ⟨b4, 0, none⟩ = some (.int .u64 (f2 : Int)) ∧ wf.cell? ⟨x, 10, none⟩ = some (.int .u64 (m.h : Int)) := by
    obtain ⟨T1, T2, ⟨T3, T4, -, ⟨T5, T6, a1, a2, -⟩, -⟩, -⟩ := HSF.out
    refine ⟨Blk.cell0 a1, ?_, HSF.out.hCell⟩
    rw [hwf]
    exact (World.cell?_setCell_other _ ⟨br, 0, none⟩ ⟨b4, 0, none⟩ _ (by simp)).trans hHf.2.1
   have hkr : wf.cell? ⟨br, 0, none⟩ = some (ptrN o) := by
    obtain ⟨T1, T2, ⟨T3, T4, -, ⟨T5, T6, a1, a2, -⟩, -⟩, -⟩ := HSF.out
    exact Blk.cell0 a2
   have hn0 : w5.cell? ⟨br, 0, none⟩ = some (.pointer none) ∧ w5.frozen? ⟨br, 0, none⟩ = false := Star.cellB (Star.rot hsn) (j := 0) rfl
   have hn1 := hn0.1
   have hn2 := hn0.2
   clear f1 f2' hsn hcn hcf hn0
   refine rdy 8 rfl (fun K hK => ?_)
   go_simp
   refine hK.out _ _ (hwf ▸ hk8) (fun hHf => ?_)
   clear hK K
   try simp only [tp, tz]
   refine wpAnyH_done (by kernel_rfl) ?_ _
   have hkx := hk8.1
   clear hk8 hHf hn1 hn2
   go_upto_region 4 with fail
   rw [← hwf]
   clear hwf
   refine wp_region_held_drew (S := fun V => V.cell? ⟨bx, 0, none⟩ = some (ptrN x) ∧ V.cell? ⟨br, 0, none⟩ = some (ptrN o)) (by kernel_rfl) ⟨hkx, hkr⟩ (fun hHe => ?_)
   refine tkw 0 rfl ?_
   try simp only [tp, tz]
   refine tkz 1 rfl ?_
   try simp only [tp, tz]
   refine tkz 2 rfl ?_
   try simp only [tp, tz]
   refine tkz 3 rfl ?_
   try simp only [tp, tz]
   refine tkw 4 rfl ?_
   try simp only [tp, tz]
   refine tkz 5 rfl ?_
   try simp only [tp, tz]
   refine tkz 6 rfl ?_
   try simp only [tp, tz]
   refine rdy 7 rfl (fun K hK => ?_)
   go_simp
   go_at_call 128
   refine (goesSteps_any (HFN.out o br) (Star.drew (HFN.out o br) hFS HSF.out) (roomFresh.frame ((Wk.fst _ _).trans (Wk.snd _ _)))).mono ?_
   rintro e w9 ⟨⟨uu, rfl⟩, ⟨S9, hs9, hc9, hk9⟩⟩
   refine hK.out _ _ (by obtain ⟨T1, T2, ⟨T3, T4, -, ⟨T5, T6, a1, a2, -⟩, -⟩, -⟩ := hs9; exact ⟨Blk.cell0 a1, Blk.cell0 a2⟩) (fun hHf => ?_)
   clear hK K
   try simp only [tp, tz]
   refine wpAnyH_done (by kernel_rfl) ?_ _
   clear hHe
   have HST := hidZ (show Stp (fun V S => ∃ o, RoomPh x m (WorldIs p (loadW W 2)) (RoomIs o (targetN f2) m.h) o V S) S w w9 from Stp.then HCF.out.1 HCF.out.2 ⟨S9, ⟨o, ⟨bx, br, _, _, _⟩, hs9⟩, (Chg.refl _ _).drew.trans hc9, hk9⟩)
   clear hs9 hc9 hk9 hHf
   go_wp2_with fail
   exact bodyPost_end (results_none (by exact Tryz.results201) _ _ _) rfl ⟨⟨_, rfl⟩, HST.out⟩
  ·
   obtain ⟨br, hbr⟩ := xE (wd.heap.size)
   obtain ⟨w4, hw4⟩ := xE (wd.alloc (.cells #[.pointer none] 342))
   have hmb : Made (BoxB br (.pointer none) 342) wd w4 := by rw [hw4, hbr]; exact made_blk wd [.pointer none] _
   obtain ⟨Sb, hsb, hcb, hkb⟩ := made_in HF3.out hFS HD3.out hmb
   have HSB := hidZ hsb
   have HCB := hidZ (show Chg S w w4 ∧ ∀ k, Sb k → S k ∨ w.heap.size ≤ k from ⟨HCD.out.then hcb (fun k hk e => (HK1.out k e).elim id (fun e' => by omega)), fun k hk => (hkb k hk).elim (HK1.out k) (fun e => .inr (Nat.le_trans HSD.out e))⟩)
   have hk4 := HAL.out wd (Nat.le_refl _) hHe
   have hw4' : wd.alloc (.cells #[.pointer none] 342) = w4 := hw4.symm
   rw [hw4'] at hk4
   clear hsb hcb hkb hmb
   have hb4r : b4 ≠ br := by omega
   have HWB := hidZ (And.intro hw4' hbr)
   clear hw4 hw4' hbr
   go_simp
   rw [HWB.out.1, ← HWB.out.2]
   refine hK.out _ _ hk4 (fun hHf => ?_)
   clear hK K hk4
   try simp only [tp, tz]
   refine rdy 6 rfl (fun K hK => ?_)
   go_simp
   go_at_call 231
   refine (newRoom_any (targetN f2) m.h HTB.out.1 HTB.out.2 hh _).mono ?_
   rintro e w5 ⟨o, rfl, hm⟩
   refine hK.out _ _ ⟨(hm.2.cell (p := ⟨bx, 0, none⟩) (cell_lt hHf.1)).trans hHf.1, (hm.2.cell (p := ⟨b4, 0, none⟩) (cell_lt hHf.2.1)).trans hHf.2.1, (hm.2.cell (p := ⟨x, 10, none⟩) (cell_lt hHf.2.2)).trans hHf.2.2⟩ (fun hHf => ?_)
   clear hK K
   try simp only [tp, tz]
   obtain ⟨Sn', hsn', hcn', hkn'⟩ := made_in (HF3.out.star (framed_blk _ _ _ (by decide))) hFS HSB.out hm
   obtain ⟨Sn, hSn⟩ := xE (Sn')
   rw [← hSn] at hsn' hkn'
   have hsn : Star (Star (Star (Star (WorldIs p (loadW W 2)) (StoreBox bx x)) (RoomIs o (targetN f2) m.h)) (BoxB br (.pointer none) 342)) (StoreB x op thn act m) w5 Sn := Star.fst_mono hsn' (fun _ g => g.rot)
   have hcn : Chg S w w5 ∧ ∀ k, Sn k → S k ∨ w.heap.size ≤ k := ⟨HCB.out.1.then hcn' (fun k hk e => (HCB.out.2 k e).elim id (fun e' => by omega)), fun k hk => (hkn' k hk).elim (HCB.out.2 k) (fun e => .inr (by have := HCB.out.1.size; omega))⟩
   clear hm hsn' hcn' hkn' hSn
   obtain ⟨f1, f2'⟩ := Star.setBox (v' := ptrN o) (HF3.out.star (framed_room _ _ _)) hFS (by decide) hsn
   obtain ⟨wf, hwf⟩ := xE (w5.setCell ⟨br, 0, none⟩ (ptrN o))
   rw [← hwf] at f1 f2'
   have HSF := hidZ (show Star (Star (Star (WorldIs p (loadW W 2)) (RoomIs o (targetN f2) m.h)) (Star (StoreBox bx x) (RoomBox br o))) (StoreB x op thn act m) wf Sn from by
    have g := f1
    refine Star.fst_mono g (fun S' g => ?_)
    exact (Star.fst_mono g (fun S' g => g.rot)).assoc)
   have hcf : Chg S w wf ∧ ∀ k, Sn k → S k ∨ w.heap.size ≤ k := ⟨hcn.1.then f2' (fun k hk e => (hcn.2 k e).elim id (fun e' => by omega)), hcn.2⟩
   have HCF := hidZ hcf
   have hk8 : wf.cell? ⟨bx, 0, none⟩ = some (ptrN x) ∧ wf.cell? ⟨b4, 0, none⟩ = some (.int .u64 (f2 : Int)) ∧ wf.cell? ⟨x, 10, none⟩ = some (.int .u64 (m.h : Int)) := by
    obtain ⟨T1, T2, ⟨T3, T4, -, ⟨T5, T6, a1, a2, -⟩, -⟩, -⟩ := HSF.out
    refine ⟨Blk.cell0 a1, ?_, HSF.out.hCell⟩
    rw [hwf]
    exact (World.cell?_setCell_other _ ⟨br, 0, none⟩ ⟨b4, 0, none⟩ _ (by simp)).trans hHf.2.1
   have hkr : wf.cell? ⟨br, 0, none⟩ = some (ptrN o) := by
    obtain ⟨T1, T2, ⟨T3, T4, -, ⟨T5, T6, a1, a2, -⟩, -⟩, -⟩ := HSF.out
    exact Blk.cell0 a2
   have hn0 : w5.cell? ⟨br, 0, none⟩ = some (.pointer none) ∧ w5.frozen? ⟨br, 0, none⟩ = false := Star.cellB (Star.rot hsn) (j := 0) rfl
   have hn1 := hn0.1
   have hn2 := hn0.2
   clear f1 f2' hsn hcn hcf hn0
   refine rdy 8 rfl (fun K hK => ?_)
   go_simp
   refine hK.out _ _ (hwf ▸ hk8) (fun hHf => ?_)
   clear hK K
   try simp only [tp, tz]
   refine wpAnyH_done (by kernel_rfl) ?_ _
   have hkx := hk8.1
   clear hk8 hHf hn1 hn2
   go_upto_region 4 with fail
   rw [← hwf]
   clear hwf
   refine wp_region_held_drew (S := fun V => V.cell? ⟨bx, 0, none⟩ = some (ptrN x) ∧ V.cell? ⟨br, 0, none⟩ = some (ptrN o)) (by kernel_rfl) ⟨hkx, hkr⟩ (fun hHe => ?_)
   refine tkw 0 rfl ?_
   try simp only [tp, tz]
   refine tkz 1 rfl ?_
   try simp only [tp, tz]
   refine tkz 2 rfl ?_
   try simp only [tp, tz]
   refine tkz 3 rfl ?_
   try simp only [tp, tz]
   refine tkw 4 rfl ?_
   try simp only [tp, tz]
   refine tkz 5 rfl ?_
   try simp only [tp, tz]
   refine tkz 6 rfl ?_
   try simp only [tp, tz]
   refine rdy 7 rfl (fun K hK => ?_)
   go_simp
   go_at_call 128
   refine (goesSteps_any (HFN.out o br) (Star.drew (HFN.out o br) hFS HSF.out) (roomFresh.frame ((Wk.fst _ _).trans (Wk.snd _ _)))).mono ?_
   rintro e w9 ⟨⟨uu, rfl⟩, ⟨S9, hs9, hc9, hk9⟩⟩
   refine hK.out _ _ (by obtain ⟨T1, T2, ⟨T3, T4, -, ⟨T5, T6, a1, a2, -⟩, -⟩, -⟩ := hs9; exact ⟨Blk.cell0 a1, Blk.cell0 a2⟩) (fun hHf => ?_)
   clear hK K
   try simp only [tp, tz]
   refine wpAnyH_done (by kernel_rfl) ?_ _
   clear hHe
   have HST := hidZ (show Stp (fun V S => ∃ o, RoomPh x m (WorldIs p (loadW W 2)) (RoomIs o (targetN f2) m.h) o V S) S w w9 from Stp.then HCF.out.1 HCF.out.2 ⟨S9, ⟨o, ⟨bx, br, _, _, _⟩, hs9⟩, (Chg.refl _ _).drew.trans hc9, hk9⟩)
   clear hs9 hc9 hk9 hHf
   go_wp2_with fail
   exact bodyPost_end (results_none (by exact Tryz.results201) _ _ _) rfl ⟨⟨_, rfl⟩, HST.out⟩
 ·
  obtain ⟨br, hbr⟩ := xE (wd.heap.size)
  obtain ⟨w4, hw4⟩ := xE (wd.alloc (.cells #[.pointer none] 342))
  have hmb : Made (BoxB br (.pointer none) 342) wd w4 := by rw [hw4, hbr]; exact made_blk wd [.pointer none] _
  obtain ⟨Sb, hsb, hcb, hkb⟩ := made_in HF3.out hFS HD3.out hmb
  have HSB := hidZ hsb
  have HCB := hidZ (show Chg S w w4 ∧ ∀ k, Sb k → S k ∨ w.heap.size ≤ k from ⟨HCD.out.then hcb (fun k hk e => (HK1.out k e).elim id (fun e' => by omega)), fun k hk => (hkb k hk).elim (HK1.out k) (fun e => .inr (Nat.le_trans HSD.out e))⟩)
  have hk4 := HAL.out wd (Nat.le_refl _) hHe
  have hw4' : wd.alloc (.cells #[.pointer none] 342) = w4 := hw4.symm
  rw [hw4'] at hk4
  clear hsb hcb hkb hmb
  have hb4r : b4 ≠ br := by omega
  have HWB := hidZ (And.intro hw4' hbr)
  clear hw4 hw4' hbr
  go_simp
  rw [HWB.out.1, ← HWB.out.2]
  refine hK.out _ _ hk4 (fun hHf => ?_)
  clear hK K hk4
  try simp only [tp, tz]
  refine rdy 1 rfl (fun K hK => ?_)
  go_simp
  go_at_call 232
  refine (target_any f2 HU.out _).mono ?_
  rintro e w4' ⟨rfl, rfl⟩
  refine hK.out _ _ hHf (fun hHf => ?_)
  clear hK K
  try simp only [tp, tz]
  refine rdy 6 rfl (fun K hK => ?_)
  go_simp
  go_at_call 231
  refine (newRoom_any (targetN f2) m.h HTB.out.1 HTB.out.2 hh _).mono ?_
  rintro e w5 ⟨o, rfl, hm⟩
  refine hK.out _ _ ⟨(hm.2.cell (p := ⟨bx, 0, none⟩) (cell_lt hHf.1)).trans hHf.1, (hm.2.cell (p := ⟨b4, 0, none⟩) (cell_lt hHf.2.1)).trans hHf.2.1, (hm.2.cell (p := ⟨x, 10, none⟩) (cell_lt hHf.2.2)).trans hHf.2.2⟩ (fun hHf => ?_)
  clear hK K
  try simp only [tp, tz]
  obtain ⟨Sn', hsn', hcn', hkn'⟩ := made_in (HF3.out.star (framed_blk _ _ _ (by decide))) hFS HSB.out hm
  obtain ⟨Sn, hSn⟩ := xE (Sn')
  rw [← hSn] at hsn' hkn'
  have hsn : Star (Star (Star (Star (WorldIs p (loadW W 2)) (StoreBox bx x)) (RoomIs o (targetN f2) m.h)) (BoxB br (.pointer none) 342)) (StoreB x op thn act m) w5 Sn := Star.fst_mono hsn' (fun _ g => g.rot)
  have hcn : Chg S w w5 ∧ ∀ k, Sn k → S k ∨ w.heap.size ≤ k := ⟨HCB.out.1.then hcn' (fun k hk e => (HCB.out.2 k e).elim id (fun e' => by omega)), fun k hk => (hkn' k hk).elim (HCB.out.2 k) (fun e => .inr (by have := HCB.out.1.size; omega))⟩
  clear hm hsn' hcn' hkn' hSn
  obtain ⟨f1, f2'⟩ := Star.setBox (v' := ptrN o) (HF3.out.star (framed_room _ _ _)) hFS (by decide) hsn
  obtain ⟨wf, hwf⟩ := xE (w5.setCell ⟨br, 0, none⟩ (ptrN o))
  rw [← hwf] at f1 f2'
  have HSF := hidZ (show Star (Star (Star (WorldIs p (loadW W 2)) (RoomIs o (targetN f2) m.h)) (Star (StoreBox bx x) (RoomBox br o))) (StoreB x op thn act m) wf Sn from by
   have g := f1
   refine Star.fst_mono g (fun S' g => ?_)
   exact (Star.fst_mono g (fun S' g => g.rot)).assoc)
  have hcf : Chg S w wf ∧ ∀ k, Sn k → S k ∨ w.heap.size ≤ k := ⟨hcn.1.then f2' (fun k hk e => (hcn.2 k e).elim id (fun e' => by omega)), hcn.2⟩
  have HCF := hidZ hcf
  have hk8 : wf.cell? ⟨bx, 0, none⟩ = some (ptrN x) ∧ wf.cell? ⟨b4, 0, none⟩ = some (.int .u64 (f2 : Int)) ∧ wf.cell? ⟨x, 10, none⟩ = some (.int .u64 (m.h : Int)) := by
   obtain ⟨T1, T2, ⟨T3, T4, -, ⟨T5, T6, a1, a2, -⟩, -⟩, -⟩ := HSF.out
   refine ⟨Blk.cell0 a1, ?_, HSF.out.hCell⟩
   rw [hwf]
   exact (World.cell?_setCell_other _ ⟨br, 0, none⟩ ⟨b4, 0, none⟩ _ (by simp)).trans hHf.2.1
  have hkr : wf.cell? ⟨br, 0, none⟩ = some (ptrN o) := by
   obtain ⟨T1, T2, ⟨T3, T4, -, ⟨T5, T6, a1, a2, -⟩, -⟩, -⟩ := HSF.out
   exact Blk.cell0 a2
  have hn0 : w5.cell? ⟨br, 0, none⟩ = some (.pointer none) ∧ w5.frozen? ⟨br, 0, none⟩ = false := Star.cellB (Star.rot hsn) (j := 0) rfl
  have hn1 := hn0.1
  have hn2 := hn0.2
  clear f1 f2' hsn hcn hcf hn0
  refine rdy 8 rfl (fun K hK => ?_)
  go_simp
  refine hK.out _ _ (hwf ▸ hk8) (fun hHf => ?_)
  clear hK K
  try simp only [tp, tz]
  refine wpAnyH_done (by kernel_rfl) ?_ _
  have hkx := hk8.1
  clear hk8 hHf hn1 hn2
  go_upto_region 4 with fail
  rw [← hwf]
  clear hwf
  refine wp_region_held_drew (S := fun V => V.cell? ⟨bx, 0, none⟩ = some (ptrN x) ∧ V.cell? ⟨br, 0, none⟩ = some (ptrN o)) (by kernel_rfl) ⟨hkx, hkr⟩ (fun hHe => ?_)
  refine tkw 0 rfl ?_
  try simp only [tp, tz]
  refine tkz 1 rfl ?_
  try simp only [tp, tz]
  refine tkz 2 rfl ?_
  try simp only [tp, tz]
  refine tkz 3 rfl ?_
  try simp only [tp, tz]
  refine tkw 4 rfl ?_
  try simp only [tp, tz]
  refine tkz 5 rfl ?_
  try simp only [tp, tz]
  refine tkz 6 rfl ?_
  try simp only [tp, tz]
  refine rdy 7 rfl (fun K hK => ?_)
  go_simp
  go_at_call 128
  refine (goesSteps_any (HFN.out o br) (Star.drew (HFN.out o br) hFS HSF.out) (roomFresh.frame ((Wk.fst _ _).trans (Wk.snd _ _)))).mono ?_
  rintro e w9 ⟨⟨uu, rfl⟩, ⟨S9, hs9, hc9, hk9⟩⟩
  refine hK.out _ _ (by obtain ⟨T1, T2, ⟨T3, T4, -, ⟨T5, T6, a1, a2, -⟩, -⟩, -⟩ := hs9; exact ⟨Blk.cell0 a1, Blk.cell0 a2⟩) (fun hHf => ?_)
  clear hK K
  try simp only [tp, tz]
  refine wpAnyH_done (by kernel_rfl) ?_ _
  clear hHe
  have HST := hidZ (show Stp (fun V S => ∃ o, RoomPh x m (WorldIs p (loadW W 2)) (RoomIs o (targetN f2) m.h) o V S) S w w9 from Stp.then HCF.out.1 HCF.out.2 ⟨S9, ⟨o, ⟨bx, br, _, _, _⟩, hs9⟩, (Chg.refl _ _).drew.trans hc9, hk9⟩)
  clear hs9 hc9 hk9 hHf
  go_wp2_with fail
  exact bodyPost_end (results_none (by exact Tryz.results201) _ _ _) rfl ⟨⟨_, rfl⟩, HST.out⟩
end Go.Proofs.YtnkkoicbnbjlnaaGreatDoor
