/- Plain: data and its end, by cases. No program in sight. -/
import Derived.Test.YtahpjhnbjkjkiaaGreatDoorFeedSpec
namespace Go.Proofs.YtahpjhnbjkjkiaaGreatDoor
theorem dataD_short {n : Nat} {d : Cmd} {k : Nat} {rest : List UInt8} (h : rest.length ≤ k) : dataD n d k rest = ([], none, rest.length) := by
  have hx : rest[k]? = none := List.getElem?_eq_none h
  have hb : badOf k rest = k := by unfold badOf; rw [hx]; rfl
  unfold dataD
  rw [hb, if_pos h]
theorem badD_cr {k : Nat} {rest : List UInt8} (h : rest[k]? = some 13) : badOf k rest = k + 1 := by unfold badOf; rw [if_pos h]
theorem badD_no {k : Nat} {rest : List UInt8} {x : UInt8} (h : rest[k]? = some x) (hx : x ≠ 13) : badOf k rest = k := by unfold badOf; rw [if_neg (by rw [h]; exact fun e => hx (Option.some.inj e))]
theorem dataD_cr_short {n : Nat} {d : Cmd} {k : Nat} {rest : List UInt8} (hx : rest[k]? = some 13) (h : rest.length ≤ k + 1) : dataD n d k rest = ([], none, rest.length) := by
  unfold dataD
  rw [badD_cr hx, if_pos h]
theorem dataD_ok {n : Nat} {d : Cmd} {k : Nat} {rest : List UInt8} (hx : rest[k]? = some 13) (hy : rest[k + 1]? = some 10) : dataD n d k rest = ([⟨d, rest.take k, 0⟩], some (n + 1 + (k + 1)), 0) := by
  have hl : k + 1 < rest.length := (List.getElem?_eq_some_iff.1 hy).1
  unfold dataD
  rw [badD_cr hx, if_neg (by omega), if_pos ⟨rfl, hy⟩]
theorem dataD_bad2 {n : Nat} {d : Cmd} {k : Nat} {rest : List UInt8} {y : UInt8} (hx : rest[k]? = some 13) (hy : rest[k + 1]? = some y) (h : y ≠ 10) : dataD n d k rest = ([toldE 6], some (n + 1 + ((k + 1) + line10 (rest.drop (k + 1)))), 0) := by
  have hl : k + 1 < rest.length := (List.getElem?_eq_some_iff.1 hy).1
  unfold dataD
  rw [badD_cr hx, if_neg (by omega), if_neg (fun e => by rw [hy] at e; exact h (Option.some.inj e.2))]
theorem dataD_bad1 {n : Nat} {d : Cmd} {k : Nat} {rest : List UInt8} {x : UInt8} (hx : rest[k]? = some x) (h : x ≠ 13) : dataD n d k rest = ([toldE 6], some (n + 1 + (k + line10 (rest.drop k))), 0) := by
  have hl : k < rest.length := (List.getElem?_eq_some_iff.1 hx).1
  unfold dataD
  rw [badD_no hx h, if_neg (by omega), if_neg (fun e => by omega)]
end Go.Proofs.YtahpjhnbjkjkiaaGreatDoor
