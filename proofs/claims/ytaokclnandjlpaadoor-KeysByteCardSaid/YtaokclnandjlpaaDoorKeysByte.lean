/- The law KeysByte returns true at every key, place and byte; the law's own function 'key'. Condition: MaxLen holds a number. -/
import Derived.Test.YtaokclnandjlpaaDoorKeysLives
namespace Go.Proofs.YtaokclnandjlpaaDoor
open Go.RowKit

def keyByte (c : UInt8) : UInt8 := if c.toNat < 128 then UInt8.ofNat (33 + c.toNat % 94) else c
theorem keyByte_low {c : UInt8} (h : (c.toNat : Int) < 128) : u8v (keyByte c) = .int .u8 (33 + (c.toNat : Int) % 94) := by
  unfold keyByte u8v
  rw [if_pos (by omega)]
  congr 1
  rw [UInt8.toNat_ofNat']
  omega
theorem keyByte_high {c : UInt8} (h : (128 : Int) ≤ (c.toNat : Int)) : keyByte c = c := by
  unfold keyByte; rw [if_neg (by omega)]
def keyCells (l : List UInt8) (k : Nat) : List Value := ((l.map keyByte).take k).map u8v
theorem keyCells_next {l : List UInt8} {k : Nat} {x : UInt8} (hx : l[k]? = some x) (y : Value) (h : y = u8v (keyByte x)) : keyCells l k ++ [y] = keyCells l (k + 1) := by
  subst h
  unfold keyCells
  rw [List.take_add_one, List.getElem?_map, hx]; simp
theorem keyCells_all (l : List UInt8) : keyCells l l.length = (l.map keyByte).map u8v := by
  unfold keyCells; rw [List.take_of_length_le (by simp)]
theorem infoU8 : (Tryd.prog.info? 5).map (fun i => (i.zero, i.size, i.bytes)) = some (some (.int .u8 0), 1, 1) := by kernel_rfl

set_option maxRecDepth 100000 in
set_option maxHeartbeats 1000000 in
theorem key_any (v : Value) (l : List UInt8) (w : World) (hv : Own w 0 v (l.map u8v)) (hl : l.length ≤ 1048576) :
    Calls Tryd.prog 35 #[v] w fun e w' => e = .returned (sv (l.map keyByte)) ∧ Below w.heap.size w w' := by
  obtain ⟨i0, hi, hz0, hz1, hz2⟩ := info_parts infoU8
  have Hi := Lib.hid hi
  have Hz := Lib.hid (And.intro hz0 (And.intro hz1 hz2))
  clear hi hz0 hz1 hz2
  have HV := Lib.hid hv
  obtain ⟨a, c, rfl⟩ := hv.len
  clear hv
  have hll : (l.map u8v).length = l.length := List.length_map ..
  rw [hll]
  clear hll
  go_enter Tryd.func35, Tryd.ntmps35
  go_wp2_with fail
  go_loopw [3, 4] (fun v i wr => ∃ k : Nat, k ≤ l.length ∧ i = .int .i64 k ∧ Below w.heap.size w wr ∧ wr.ownsRow w.heap.size 5 1 v k (keyCells l k)) (fun _ i _ => l.length - (intOf i).toNat)
  case atStart => exact ⟨0, Nat.zero_le _, rfl, Below.refl _ _, World.ownsRow_nil _ _ _ _⟩
  case round =>
    obtain ⟨k, hk, rfl, hb, hown⟩ := hrel
    by_cases hlt : k < l.length
    · obtain ⟨x, hx⟩ : ∃ x, l[k]? = some x := ⟨_, List.getElem?_eq_getElem hlt⟩
      obtain ⟨g, o, c', he, _, hgl, hcw, _⟩ := HV.out.at (k := k) (x := u8v x) (by rw [List.getElem?_map, hx]; rfl)
      obtain ⟨rfl, _, rfl⟩ := slice_inj he
      have hcell : wr.cell? ⟨g, o + k, none⟩ = some (.int .u8 (x.toNat : Int)) :=
        (hb.cell (p := ⟨g, o + k, none⟩) hgl).trans hcw
      have hx0 := x.toNat_lt
      have hnext := keyCells_next hx
      have HN := Lib.hid hnext
      clear hcw he hx hnext
      by_cases h128 : (x.toNat : Int) < 128
      · have E := Lib.hid (keyByte_low h128)
        go_wp2_with (at_builtin; refine wpList_append_own _ rfl _ _ 49 rfl w.heap.size 5 i0 (.int .u8 0) 1 1 Tryd.underlying49 Hi.out Hz.out.1 Hz.out.2.1 Hz.out.2.2 rfl (by decide) _ _ _ rfl (hown.alloc _) ⟨wr.heap.size, 0, none⟩ 1 1 [.int .u8 (33 + (x.toNat : Int) % 94)] rfl rfl ?_ ?_ ?_ ?_ ?_ ?_)
        · rfl
        · unfold maxLen; omega
        · omega
        · have := hb.size; omega
        · intro v' w1 hown' hgrow _
          have hbl := below_append hb (Nat.le_refl _) hown hgrow
          rw [HN.out _ E.out.symm] at hown'
          clear hgrow hown HN
          go_wp2_with fail
          go_roundw
          case rel => exact ⟨k + 1, by omega, by go_num, hbl, hown'⟩
          case measure => simp [intOf]; omega
      · have E := Lib.hid (keyByte_high (c := x) (by omega))
        go_wp2_with (at_builtin; refine wpList_append_own _ rfl _ _ 49 rfl w.heap.size 5 i0 (.int .u8 0) 1 1 Tryd.underlying49 Hi.out Hz.out.1 Hz.out.2.1 Hz.out.2.2 rfl (by decide) _ _ _ rfl (hown.alloc _) ⟨wr.heap.size, 0, none⟩ 1 1 [.int .u8 (x.toNat : Int)] rfl rfl ?_ ?_ ?_ ?_ ?_ ?_)
        · rfl
        · unfold maxLen; omega
        · omega
        · have := hb.size; omega
        · intro v' w1 hown' hgrow _
          have hbl := below_append hb (Nat.le_refl _) hown hgrow
          rw [HN.out _ (by rw [E.out])] at hown'
          clear hgrow hown HN
          go_wp2_with fail
          go_roundw
          case rel => exact ⟨k + 1, by omega, by go_num, hbl, hown'⟩
          case measure => simp [intOf]; omega
    · obtain rfl : k = l.length := by omega
      rw [keyCells_all] at hown
      have hcv : (convert 49 9 u3).run Tryd.prog wr = .ok (sv (l.map keyByte)) wr := by
        obtain ⟨hl, h2⟩ := hown
        rcases h2 with ⟨rfl, h⟩ | ⟨g, cap, cur, rfl, hg, hh, hn, hm2, hs, htk⟩
        · have : l = [] := by simpa using h
          subst this
          rw [run_convert_bytes_string wr 49 9 5 none 0 0 Tryd.underlying49 Tryd.underlying5 Tryd.underlying9]
          rfl
        · have h := run_convert_bytes_back (P := Tryd.prog) wr 49 9 5 ⟨g, 0, none⟩ cap (l.map keyByte) Tryd.underlying49 Tryd.underlying5 Tryd.underlying9 (fun j hj => by
            rw [show (⟨g, 0, none⟩ : Addr).add j = ⟨g, j, none⟩ from by simp [Addr.add]; omega, cell_of_row wr g j cur _ (0, 0) hh]
            have hx : ((l.map keyByte).map u8v)[j]? = some (u8v ((l.map keyByte)[j])) := by rw [List.getElem?_map, List.getElem?_eq_getElem hj]; rfl
            rw [← htk, List.getElem?_take, if_pos (by simp at hj; omega)] at hx
            simpa using hx)
          simpa using h
      clear hown
      go_wp2_with fail
      go_ret
      exact ⟨rfl, hb⟩
end Go.Proofs.YtaokclnandjlpaaDoor
