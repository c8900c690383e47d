/- The law NumsBack answers true. Conditions: the library's table of the powers of ten lies as it lays it, its variable ErrRange holds an error. (Printed by gennumsback.py.) -/
import Derived.Test.YtaokclnandjlpaaDoorNumsLives
namespace Go.Proofs.YtaokclnandjlpaaDoor
open Go.RowKit

theorem repeat_noughts : ∀ k : Nat, Lib.repeatL [48] k = List.replicate k 48
  | 0 => rfl
  | k + 1 => by rw [Lib.repeatL, repeat_noughts k, List.replicate_succ]; rfl
/-- What the parsers answer at the four texts. -/
structure Backs (u : Int) (k : Nat) (D : List UInt8) (b : Int) (y : Bool) (c : Int) (z : Bool) (d : Int) (t : Bool) (e : Int) (v : Bool) : Prop where
  p1 : ∀ W, HasErr W → Calls Tryd.prog 49 #[sv D] W fun x w' => x = .returned (.tuple #[.int .u64 u, .bool true]) ∧ Below W.heap.size W w'
  p2 : ∀ s W, bs s = List.replicate k 48 ++ D → HasErr W → Calls Tryd.prog 49 #[.string s] W fun x w' => x = .returned (.tuple #[.int .u64 b, .bool y]) ∧ Below W.heap.size W w'
  p3 : ∀ s W, bs s = 45 :: D → HasErr W → Calls Tryd.prog 51 #[.string s] W fun x w' => x = .returned (.tuple #[.int .i64 c, .bool z]) ∧ Below W.heap.size W w'
  p4 : ∀ W, HasErr W → Calls Tryd.prog 51 #[sv D] W fun x w' => x = .returned (.tuple #[.int .i64 d, .bool t]) ∧ Below W.heap.size W w'
  p5 : ∀ W, HasErr W → Calls Tryd.prog 53 #[sv D] W fun x w' => x = .returned (.tuple #[.int .u32 e, .bool v]) ∧ Below W.heap.size W w'
theorem backs {u k : Nat} (hu : u < 18446744073709551616) {b : Int} {y : Bool} {c : Int} {z : Bool} {d : Int} {t : Bool} {e : Int} {v : Bool}
    (h2 : parseV (List.replicate k 48 ++ Lib.decDigits u) = .tuple #[.int .u64 b, .bool y]) (h3 : signedV (45 :: Lib.decDigits u) = .tuple #[.int .i64 c, .bool z]) (h4 : signedV (Lib.decDigits u) = .tuple #[.int .i64 d, .bool t]) (h5 : parse32V (Lib.decDigits u) = .tuple #[.int .u32 e, .bool v]) :
    Backs (u : Int) k (Lib.decDigits u) b y c z d t e v where
  p1 := fun W hW => by have h := parse_at (Lib.decDigits u) W hW; rw [parseV_some (parse_dec hu)] at h; exact h
  p2 := fun s W hs hW => by have h := parse_any s W hW; rw [hs, h2] at h; exact h
  p3 := fun s W hs hW => by have h := parseSigned_any s W hW; rw [hs, h3] at h; exact h
  p4 := fun W hW => by have h := signed_at (Lib.decDigits u) W hW; rw [h4] at h; exact h
  p5 := fun W hW => by have h := parse32_at (Lib.decDigits u) W hW; rw [h5] at h; exact h
theorem p32_dec {u : Nat} (hu : u < 18446744073709551616) : parse32N (Lib.decDigits u) = if u < 4294967296 then some u else none := by unfold parse32N; rw [parse_dec hu]
end Go.Proofs.YtaokclnandjlpaaDoor
