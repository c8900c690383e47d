/- Plain: the chapter's example, call by call. No program in sight. -/
import Derived.Test.YtaooangnnlopcaaDoorMapsDo
namespace Go.Proofs.YtaooangnnlopcaaDoor
open Go.RowKit
def kN : ByteArray := ⟨#[110]⟩
def exSet : CallD := ⟨3, ⟨#[110]⟩, ⟨#[57]⟩, 0, 0, 0, 0⟩
def exGet : CallD := ⟨1, ⟨#[110]⟩, ⟨#[]⟩, 0, 0, 0, 0⟩
def exInc : CallD := ⟨9, ⟨#[110]⟩, ⟨#[]⟩, 0, 0, 0, 3⟩
def exFlu : CallD := ⟨11, ⟨#[]⟩, ⟨#[]⟩, 0, 0, 0, 0⟩
def ex1 : MapM := ⟨[⟨⟨#[110]⟩, ⟨#[57]⟩, 0, 1, -1, 0⟩], 0, 1⟩
def ex2 : MapM := ⟨[⟨⟨#[110]⟩, ⟨#[57]⟩, 0, 1, -1, 0⟩], 5, 1⟩
def ex3 : MapM := ⟨[⟨⟨#[110]⟩, ⟨#[49, 50]⟩, 0, 2, -1, 0⟩], 5, 2⟩
def ex4 : MapM := ⟨[⟨⟨#[110]⟩, ⟨#[49, 50]⟩, 0, 2, -1, 0⟩], 281474976710661, 2⟩
theorem dig12 : Lib.decDigits 12 = [49, 50] := by
  rw [dec_big (by omega), dec_small (by omega)]
  rfl
theorem exA : doesM newM exSet 0 = (⟨1, 1, noItem⟩, ex1) := by rfl
theorem exB : doesM ex1 exGet 5 = (⟨11, 0, ⟨⟨#[110]⟩, ⟨#[57]⟩, 0, 1, -1, 0⟩⟩, ex2) := by rfl
theorem exC : doesM ex2 exInc 5 = (⟨8, 12, noItem⟩, ex3) := by
  have h : givesM ex2 exInc 5 = some (numberG 12 5 2 ⟨⟨#[110]⟩, ⟨#[57]⟩, 0, 1, -1, 0⟩) := by rfl
  unfold doesM
  rw [h]
  show ((numberG 12 5 2 _).ans, applyM ex2 exInc.key (numberG 12 5 2 _)) = _
  unfold numberG
  rw [dig12]
  rfl
theorem exD : isM ex3 exGet 4 = false := by rfl
theorem exE : doesM ex3 exFlu 5 = (⟨10, 0, noItem⟩, ex4) := by rfl
theorem exF : isM ex4 exGet 5 = false := by rfl
theorem exG : (doesM ex4 exGet 281474976710661).1.kind = 12 := by rfl
theorem exH : (doesM ex4 exGet 281474976710661).2.L.length = 1 := by rfl
end Go.Proofs.YtaooangnnlopcaaDoor
