/- The reference's Parse, ParseSigned, Parse32, at any text. No condition. -/
import Derived.Test.YtahpjhnbjkjkiaaDoorNumsParse
namespace Go.Proofs.YtahpjhnbjkjkiaaDoor
open Go.RowKit

theorem over_no {n c : Nat} (h0 : 48 ≤ c) (h9 : c ≤ 57) (h : ¬ ((18446744073709551615 : Int) - ((c : Int) - 48)) / 10 < (n : Int)) : n * 10 + (c - 48) < 18446744073709551616 := by omega
theorem over_yes {n c : Nat} (h0 : 48 ≤ c) (h9 : c ≤ 57) (h : ((18446744073709551615 : Int) - ((c : Int) - 48)) / 10 < (n : Int)) : ¬ n * 10 + (c - 48) < 18446744073709551616 := by omega

end Go.Proofs.YtahpjhnbjkjkiaaDoor
