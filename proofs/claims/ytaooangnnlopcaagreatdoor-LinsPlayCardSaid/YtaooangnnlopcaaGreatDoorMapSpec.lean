/- Plain: chapter 36's map of records: epochs, what a call gives, what becomes of the map. No condition. -/
import Derived.Test.YtaooangnnlopcaaGreatDoorTypes
import Derived.Test.YtaooangnnlopcaaGreatDoorLowA
import Derived.Test.YtaooangnnlopcaaGreatDoorLowB
namespace Go.Proofs.YtaooangnnlopcaaGreatDoor
open Go.RowKit

instance : DecidableEq ItemD := fun a b => decidable_of_iff (a.key = b.key ∧ a.value = b.value ∧ a.flags = b.flags ∧ a.id = b.id ∧ a.dies = b.dies ∧ a.gen = b.gen) (by
  cases a; cases b; simp)
instance : DecidableEq AnsD := fun a b => decidable_of_iff (a.kind = b.kind ∧ a.number = b.number ∧ a.item = b.item) (by
  cases a; cases b; simp)

/-- An epoch's tick; when it flushes; how many flushes there were. -/
def nowE (w : Nat) : Nat := w % 16777216
def atE (w : Nat) : Nat := w / 16777216 % 16777216
def genE (w : Nat) : Nat := w / 281474976710656
def putE (n a g : Nat) : Nat := (g % 65536 * 16777216 + a % 16777216) * 16777216 + n % 16777216
def tickE (w : Nat) : Nat :=
  if 0 < atE w ∧ atE w ≤ min (nowE w + 1) 16777215 then putE (min (nowE w + 1) 16777215) 0 (min (genE w + 1) 65535) else putE (min (nowE w + 1) 16777215) (atE w) (genE w)
def flushE (w : Nat) (d : Int) : Nat × Bool :=
  if genE w = 65535 then (w, false) else if 0 < d then (putE (nowE w) (nowE w + (min d (16777215 - nowE w)).toNat) (genE w), true) else (putE (nowE w) 0 (genE w + 1), true)
def diesE (w : Nat) (e : Int) : Int := if e = 0 then -1 else if e < 0 then nowE w else if e ≤ 2592000 then nowE w + e else e
def aliveE (x : ItemD) (w : Nat) : Bool := (x.dies == -1 || decide ((nowE w : Int) < x.dies)) && x.gen == (genE w : Int)
/-- The epoch at a later tick, by itself. -/
def laterE (m now : Nat) : Nat := if nowE m < now ∧ 0 < atE m ∧ atE m ≤ now then putE now 0 (min (genE m + 1) 65535) else putE now (atE m) (genE m)
def comesE (m w : Nat) : Bool := decide (nowE m ≤ nowE w) && (w == laterE m (nowE w) || nowE w == 16777215 && w == tickE (laterE m (nowE w)))

theorem now_lt (w : Nat) : nowE w < 16777216 := Nat.mod_lt _ (by omega)
theorem at_lt (w : Nat) : atE w < 16777216 := Nat.mod_lt _ (by omega)
theorem gen_lt {w : Nat} (h : w < 18446744073709551616) : genE w < 65536 := by unfold genE; omega
theorem put_lt (n a g : Nat) : putE n a g < 18446744073709551616 := by unfold putE; omega
def noItem : ItemD := ⟨⟨#[]⟩, ⟨#[]⟩, 0, 0, 0, 0⟩
def noAns : AnsD := ⟨0, 0, noItem⟩
/-- What a call gives: the answer, the record then, is it put, is it gone, is an Id drawn, was it stored, the epoch then. -/
structure GivD where
  ans : AnsD
  isx : ItemD
  put : Bool
  gone : Bool
  drawn : Bool
  stored : Bool
  epoch : Nat
def saysG (k : Int) (ep : Nat) : GivD := ⟨⟨k, 0, noItem⟩, noItem, false, false, false, false, ep⟩
def storesG (c : CallD) (ep next : Nat) : GivD := ⟨⟨1, next, noItem⟩, ⟨c.key, c.value, c.flags, next, diesE ep c.exp, genE ep⟩, true, false, true, true, ep⟩
def hitG (was : ItemD) (ep : Nat) : GivD := ⟨⟨11, 0, was⟩, noItem, false, false, false, false, ep⟩
def goneG (ep : Nat) : GivD := ⟨⟨6, 0, noItem⟩, noItem, false, true, false, false, ep⟩
def touchG (c : CallD) (ep : Nat) (was : ItemD) : GivD := ⟨⟨7, 0, noItem⟩, { was with dies := diesE ep c.exp }, true, false, false, false, ep⟩
/-- A number counted up, or down. -/
def countN (up : Bool) (n by' : Nat) : Nat := if up then (n + by') % 18446744073709551616 else n - by'
def numberG (v ep next : Nat) (was : ItemD) : GivD := ⟨⟨8, v, noItem⟩, { was with id := next, value := ⟨(Lib.decDigits v).toArray⟩ }, true, false, true, false, ep⟩
def countG (up : Bool) (c : CallD) (ep next : Nat) (was : ItemD) (there : Bool) : GivD :=
  if there then match parseN (bs was.value) with
    | none => saysG 9 ep
    | some n => numberG (countN up n c.by'.toNat) ep next was
  else saysG 4 ep
def flushG (c : CallD) (ep : Nat) : GivD := if (flushE ep c.exp).2 then ⟨⟨10, 0, noItem⟩, noItem, false, false, false, false, (flushE ep c.exp).1⟩ else saysG 5 ep
def casG (c : CallD) (ep next : Nat) (was : ItemD) (there : Bool) : GivD := if there then (if was.id = c.id then storesG c ep next else saysG 3 ep) else saysG 4 ep
def givesV (c : CallD) (ep next : Nat) (was : ItemD) (there : Bool) : Option GivD :=
  if c.verb = 1 ∨ c.verb = 2 then some (if there then hitG was ep else saysG 12 ep)
  else if c.verb = 3 then some (storesG c ep next)
  else if c.verb = 4 then some (if there then saysG 2 ep else storesG c ep next)
  else if c.verb = 5 then some (if there then storesG c ep next else saysG 2 ep)
  else if c.verb = 6 then some (casG c ep next was there)
  else if c.verb = 7 then some (if there then goneG ep else saysG 4 ep)
  else if c.verb = 8 then some (if there then touchG c ep was else saysG 4 ep)
  else if c.verb = 9 then some (countG true c ep next was there)
  else if c.verb = 10 then some (countG false c ep next was there)
  else if c.verb = 11 then some (flushG c ep)
  else none

/-- The map: its records, in the order in which they came, or changed; its epoch; the last Id. -/
structure MapM where
  L : List ItemD
  epoch : Nat
  ids : Nat
def newM : MapM := ⟨[], 0, 0⟩
def atL (L : List ItemD) (k : ByteArray) : Option ItemD := L.find? (fun x => x.key == k)
def withoutL (L : List ItemD) (k : ByteArray) : List ItemD := L.filter (fun x => !(x.key == k))
def wasL (L : List ItemD) (k : ByteArray) : ItemD := (atL L k).getD noItem
def thereL (L : List ItemD) (k : ByteArray) (ep : Nat) : Bool := (atL L k).isSome && aliveE (wasL L k) ep
def mayE (m : MapM) (c : CallD) (ep : Nat) : Bool := comesE m.epoch ep && (c.verb == 11 || okB (bs c.key))
def givesM (m : MapM) (c : CallD) (ep : Nat) : Option GivD :=
  if mayE m c ep then givesV c ep (m.ids + 1) (wasL m.L c.key) (thereL m.L c.key ep) else none
def ansM (m : MapM) (c : CallD) (ep : Nat) : AnsD := match givesM m c ep with | some g => g.ans | none => noAns
def applyM (m : MapM) (k : ByteArray) (g : GivD) : MapM :=
  ⟨if g.gone then withoutL m.L k else if g.put then withoutL m.L k ++ [g.isx] else m.L, g.epoch, if g.drawn then m.ids + 1 else m.ids⟩
def noRoom : AnsD := ⟨5, 0, noItem⟩
def fitsM (m : MapM) (c : CallD) (ep : Nat) (a : AnsD) : Bool × MapM := match givesM m c ep with
  | none => (false, m)
  | some g => if a = g.ans then (true, applyM m c.key g) else if g.stored = true ∧ (atL m.L c.key).isNone = true ∧ a = noRoom then (true, { m with epoch := ep }) else (false, m)
def dropM (m : MapM) (x : ItemD) : Bool × MapM := if atL m.L x.key = some x then (true, { m with L := withoutL m.L x.key }) else (false, m)
end Go.Proofs.YtaooangnnlopcaaGreatDoor
