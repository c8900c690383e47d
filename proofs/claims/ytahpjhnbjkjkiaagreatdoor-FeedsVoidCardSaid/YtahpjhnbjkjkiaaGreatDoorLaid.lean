/- What the rows' words say of the library's variables: the table of the powers of ten, ErrRange. No condition. -/
import Derived.Test.YtahpjhnbjkjkiaaGreatDoorClose
import Derived.Test.YtahpjhnbjkjkiaaGreatDoorNumsParse
namespace Go.Proofs.YtahpjhnbjkjkiaaGreatDoor
open Go.ChangeShapes Go.WideShapes Go.ChangeAt Go.RowKit

theorem laid_tail {P : Program} {W : World} {x : String × DataW Unit} {rest : List (String × DataW Unit)} (h : laidMet P (x :: rest) W) : laidMet P rest W := by
  obtain ⟨ps, ⟨g, t, cs, fuel, p, q, hg, ht, hv, hd, hr, rfl⟩, hn, hf⟩ := h
  exact ⟨q, hr, (List.nodup_append.1 hn).2.1, fun b off hm => hf b off (List.mem_append_right _ hm)⟩
theorem iface_of_head {P : Program} {W : World} {x name : String} {d : DataW Unit} {rest : List (String × DataW Unit)} {g t : Nat} {ms : Array (String × TypeId)} (hg : P.globalNamed x = some g) (hty : (P.globals[g]?).map (·.type) = some t)
    (ht : P.underlying t = some (.interface ms)) (h : laidMet P ((x, .iface name d) :: rest) W) : ∃ tp p, W.var? P x = some #[.iface tp p] := by
  obtain ⟨ps, ⟨g', t', cs, fuel, p, q, hg', ht', hvar, hd, _, _⟩, _⟩ := h
  obtain rfl := Option.some.inj (hg.symm.trans hg')
  obtain rfl := Option.some.inj (hty.symm.trans ht')
  obtain ⟨l⟩ := cs
  cases fuel with
  | zero => simp [DataW.trod] at hd
  | succ fuel =>
    match l with
    | [] => simp [DataW.trod, ht] at hd
    | [x] => cases x <;> first | exact ⟨_, _, hvar⟩ | (simp [DataW.trod, ht] at hd)
    | x :: y :: l => simp [DataW.trod, ht] at hd
set_option maxRecDepth 100000 in
theorem feeds_laid {W : World} (h : laidMet Tryz.prog Rows.feedsPlayRow.laid W) : HasPow W ∧ HasErr W :=
  ⟨Lib.tabIs_of_head (g := 0) (t := 174) (e := 40) (n := 20) (by kernel_rfl) (by kernel_rfl) (by kernel_rfl) (by kernel_rfl) (by kernel_rfl) (by kernel_rfl) (laid_tail (laid_tail h)),
   iface_of_head (g := 7) (t := 140) (by kernel_rfl) (by kernel_rfl) Tryz.underlying140 (laid_tail (laid_tail (laid_tail (laid_tail h))))⟩
end Go.Proofs.YtahpjhnbjkjkiaaGreatDoor
