/- The program's structs as Lean's: calls, commands, items, answers; their cells. No condition. -/
import Derived.Test.YtddifbimlmkcbaaGreatDoorLowA
namespace Go.Proofs.YtddifbimlmkcbaaGreatDoor
open Go.RowKit

structure CallD where
  verb : Int
  key : ByteArray
  value : ByteArray
  flags : Int
  exp : Int
  id : Int
  by' : Int
structure CmdD where
  verb : Int
  ka : Option Addr
  kn : Nat
  kc : Nat
  call : CallD
  bytes : Int
  quiet : Bool
structure ItemD where
  key : ByteArray
  value : ByteArray
  flags : Int
  id : Int
  dies : Int
  gen : Int
structure AnsD where
  kind : Int
  number : Int
  item : ItemD

abbrev CallD.cells (c : CallD) : List Value := [.int .u8 c.verb, .string c.key, .string c.value, .int .u32 c.flags, .int .i64 c.exp, .int .u64 c.id, .int .u64 c.by']
abbrev CmdD.val (c : CmdD) : Value := .agg #[.int .u8 c.verb, .slice c.ka c.kn c.kc, .int .u8 c.call.verb, .string c.call.key, .string c.call.value, .int .u32 c.call.flags, .int .i64 c.call.exp, .int .u64 c.call.id, .int .u64 c.call.by', .int .i64 c.bytes, .bool c.quiet]
abbrev ItemD.cells (x : ItemD) : List Value := [.string x.key, .string x.value, .int .u32 x.flags, .int .u64 x.id, .int .i64 x.dies, .int .i64 x.gen]
abbrev AnsD.val (a : AnsD) : Value := .agg #[.int .u8 a.kind, .int .u64 a.number, .string a.item.key, .string a.item.value, .int .u32 a.item.flags, .int .u64 a.item.id, .int .i64 a.item.dies, .int .i64 a.item.gen]

abbrev CmdD.keys (c : CmdD) : Value := .slice c.ka c.kn c.kc

/-- The bounds of the numbers and texts. -/
structure CallD.Ok (c : CallD) : Prop where
  verb : 0 ≤ c.verb ∧ c.verb ≤ 255
  key : c.key.size ≤ maxLen
  value : c.value.size ≤ maxLen
  flags : 0 ≤ c.flags ∧ c.flags ≤ 4294967295
  id : 0 ≤ c.id ∧ c.id ≤ 18446744073709551615
  by' : 0 ≤ c.by' ∧ c.by' ≤ 18446744073709551615
structure ItemD.Ok (x : ItemD) : Prop where
  key : x.key.size ≤ maxLen
  value : x.value.size ≤ maxLen
  flags : 0 ≤ x.flags ∧ x.flags ≤ 4294967295
  id : 0 ≤ x.id ∧ x.id ≤ 18446744073709551615
structure AnsD.Ok (a : AnsD) : Prop where
  kind : 0 ≤ a.kind ∧ a.kind ≤ 255
  number : 0 ≤ a.number ∧ a.number ≤ 18446744073709551615
  item : a.item.Ok
end Go.Proofs.YtddifbimlmkcbaaGreatDoor
