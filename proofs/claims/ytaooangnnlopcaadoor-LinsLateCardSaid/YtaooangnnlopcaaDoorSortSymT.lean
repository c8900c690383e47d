/- Two sorted runs of entries are merged in place. Condition: they lie one behind the other, and the first run's places are below the second's. -/
import Derived.Test.YtaooangnnlopcaaDoorSortSym
namespace Go.Proofs.YtaooangnnlopcaaDoor
open Go.RowKit Go.ChangeMaps Go.MapKept
/-- Runs of at most N entries are merged. -/
def SymIH (N : Nat) : Prop := ∀ {w : World} {g o n c nc a m b : Nat} {P A B R : List EntD}, A.length + B.length ≤ N → EntAt w g o (P ++ A ++ B ++ R) → g < w.heap.size → n = (P ++ A ++ B ++ R).length → n ≤ 1000000 → a = P.length → m = P.length + A.length → b = P.length + A.length + B.length → 0 < A.length → 0 < B.length → SortE nc A → SortE nc B → LowE nc A B → Calls Tryd.prog 84 #[.slice (some ⟨g, o, none⟩) n c, .int .i64 (a : Int), .int .i64 (m : Int), .int .i64 (b : Int), cmpF] w fun e w' => (∃ v, e = .returned v) ∧ MergeOk w g o nc P A B R w'
/-- Between which numbers the cut is sought. -/
def LoHi (tb : Bool) (a m b md nn lo hi : Nat) : Prop := (tb = true ∧ md < m ∧ lo + b = nn ∧ hi = md) ∨ (tb = false ∧ m ≤ md ∧ lo = a ∧ hi = m)
theorem LoHi.facts {tb : Bool} {a m b md nn lo hi : Nat} (h : LoHi tb a m b md nn lo hi) : (md < m ∧ lo + b = nn ∧ hi = md) ∨ (m ≤ md ∧ lo = a ∧ hi = m) := h.imp (fun h => h.2) (fun h => h.2)
def RotOk (w : World) (g o : Nat) (P A1 A2 B1 B2 R : List EntD) (w' : World) : Prop := EntAt w' g o (P ++ A1 ++ B1 ++ A2 ++ B2 ++ R) ∧ Chg (fun k => k = g) w w'
def HeadOk (w : World) (g o nc : Nat) (P A1 A2 B1 B2 R : List EntD) (w' : World) : Prop := ∃ S, SortE nc S ∧ S.Perm (A1 ++ B1) ∧ EntAt w' g o (P ++ S ++ A2 ++ B2 ++ R) ∧ Chg (fun k => k = g) w w'
def tailN : Nat → Code → Code
  | 0, c => c
  | n + 1, .seq _ b => tailN n b
  | _ + 1, c => c
noncomputable def symTail3 : Code := tailN 11 (Tryd.f84.body.getD .skip)
set_option maxRecDepth 1000000 in
set_option maxHeartbeats 100000000 in
theorem symTail3_any {N : Nat} (HI : SymIH N) {w wo wc : World} {g o n c nc a m b md nn en i : Nat} {P A B A1 A2 B1 B2 R : List EntD} {c5 c6 c7 c8 c9 c10 c11 c12 c13 c14 c15 c16 c17 c19 c21 c22 c23 c25 c26 c27 c28 c29 c30 c31 c32 c33 c34 c35 c36 c37 c38 c39 c40 c41 c42 c43 c44 c45 c46 c47 c48 c49 c50 c51 c52 c53 c54 c55 c56 c57 c58 c59 c60 c61 c62 c63 c64 c65 c66 c67 c68 c69 c70 c71 c72 c73 c74 c75 c76 c77 c78 c79 c80 c81 c82 c83 c84 c85 c86 c87 c88 c89 c90 c91 c92 c93 c94 c95 c96 c97 c98 c99 c100 c101 c102 c103 c104 c105 c106 c107 c108 c109 c110 c111 c112 c113 c114 c115 c116 c117 c118 c119 c120 c121 c122 c123 c124 c125 c126 c127 c128 c129 c130 c131 c132 c133 c134 c135 c136 c137 c138 c139 c140 c141 c142 c143 c144 c145 c146 c147 c148 c149 c150 c151 c152 c153 c154 c155 c156 c157 c158 c159 c160 c161 c162 c163 c164 c165 c166 c167 c168 c169 c170 c171 c172 c173 c174 c175 c176 c177 c178 c179 c180 c181 c182 c183 c184 c185 c186 c187 c188 c189 c190 c191 c192 c193 c194 c195 c196 c197 c198 c199 c200 c201 c202 c203 c204 c205 c206 c207 c208 c209 c210 c211 c212 c213 c214 c215 c216 c217 c218 c219 : Value}
    (hmx : n ≤ 1000000) (HN : Hid (A.length + B.length ≤ N + 1)) (HD : Hid (m = a + A.length ∧ b = m + B.length ∧ a = P.length)) (hnn : nn = md + m) (hen2 : en + i = nn) (hai : a ≤ i) (him2 : i ≤ m) (himd2 : i ≤ md) (hme : m ≤ en) (heb : en ≤ b) (hamd : a < md) (_hmdb : md < b)
    (HV : Hid (A1 = A.take (i - a) ∧ A2 = A.drop (i - a) ∧ B1 = B.take (en - m) ∧ B2 = B.drop (en - m) ∧ A1 ++ A2 = A ∧ B1 ++ B2 = B ∧ A1.length = i - a ∧ B1.length = en - m ∧ A2.length = m - i ∧ B2.length = b - en))
    (HEN : Hid ((∀ x y, A1.getLast? = some x → B2.head? = some y → lessE nc x y) ∧ (∀ x y, B1.getLast? = some x → A2.head? = some y → lessE nc x y)))
    (HSS : Hid ((SortE nc A1 ∧ SortE nc A2 ∧ AllE nc A1 A2) ∧ (SortE nc B1 ∧ SortE nc B2 ∧ AllE nc B1 B2) ∧ SortE nc (A1 ++ A2) ∧ SortE nc (B1 ++ B2) ∧ LowE nc (A1 ++ A2) (B1 ++ B2)))
    (HNN : Hid ((P ++ A1 ++ A2 ++ B1 ++ B2 ++ R).length = n)) (HC : Hid (Chg (fun _ => False) w wo)) (HGR : Hid (g < wo.heap.size)) (HF : Hid (HeadOk wo g o nc P A1 A2 B1 B2 R wc)) :
    Code.wp Tryd.prog symTail3 (bodyPost Tryd.prog Tryd.f84 (fun e w' => (∃ v, e = .returned v) ∧ MergeOk w g o nc P A B R w')) ⟨#[.slice (some ⟨g, o, none⟩) n c, .int .i64 (a : Int), .int .i64 (m : Int), .int .i64 (b : Int), cmpF, c5, c6, c7, c8, c9, c10, c11, c12, c13, c14, c15, c16, c17, .int .i64 (md : Int), c19, .int .i64 (i : Int), c21, c22, c23, .int .i64 (en : Int), c25, c26, c27, c28, c29, c30, c31, c32, c33, c34, c35, c36, c37, c38, c39, c40, c41, c42, c43, c44, c45, c46, c47, c48, c49, c50, c51, c52, c53, c54, c55, c56, c57, c58, c59, c60, c61, c62, c63, c64, c65, c66, c67, c68, c69, c70, c71, c72, c73, c74, c75, c76, c77, c78, c79, c80, c81, c82, c83, c84, c85, c86, c87, c88, c89, c90, c91, c92, c93, c94, c95, c96, c97, c98, c99, c100, c101, c102, c103, c104, c105, c106, c107, c108, c109, c110, c111, c112, c113, c114, c115, c116, c117, c118, c119, c120, c121, c122, c123, c124, c125, c126, c127, c128, c129, c130, c131, c132, c133, c134, c135, c136, c137, c138, c139, c140, c141, c142, c143, c144, c145, c146, c147, c148, c149, c150, c151, c152, c153, c154, c155, c156, c157, c158, c159, c160, c161, c162, c163, c164, c165, c166, c167, c168, c169, c170, c171, c172, c173, c174, c175, c176, c177, c178, c179, c180, c181, c182, c183, c184, c185, c186, c187, c188, c189, c190, c191, c192, c193, c194, c195, c196, c197, c198, c199, c200, c201, c202, c203, c204, c205, c206, c207, c208, c209, c210, c211, c212, c213, c214, c215, c216, c217, c218, c219], []⟩ wc := by
  have HM := Lib.hid (And.intro hnn hnn)
  conv => arg 2; whnf
  dsimp only
  obtain ⟨S, hS1, hS2, hE, hc⟩ := HF.out
  have HH := Lib.hid (And.intro hS1 (And.intro hS2 (And.intro hE hc)))
  clear hS1 hS2 hE hc HF
  have HG3 := Lib.hid (Nat.lt_of_lt_of_le HGR.out HH.out.2.2.2.size)
  have HSL := Lib.hid (show S.length = md - a from by have h1 := HH.out.2.1.length_eq; have h2 := HV.out; have h3 := HM.out; simp at h1; omega)
  go_upto_region 43 with fail
  obtain ⟨rb3, hrb3⟩ : ∃ z, z = decide (md < en ∧ en < b) := ⟨_, rfl⟩
  have Hrb3 := Lib.hid hrb3
  clear hrb3
  go_cut [213] (fun s wx => s = .bool rb3 ∧ wx = wc)
  case first =>
    by_cases hc1 : md < en
    · have q1 : ((md : Nat) : Int) < ((en : Nat) : Int) := by omega
      by_cases hc2 : en < b
      · have q2 : ((en : Nat) : Int) < ((b : Nat) : Int) := by omega
        have hv : rb3 = true := by rw [Hrb3.out]; simp; omega
        subst hv
        go_wp2_with fail
        go_meet
        case rel => exact ⟨rfl, rfl⟩
      · have q2 : ¬ ((en : Nat) : Int) < ((b : Nat) : Int) := by omega
        have hv : rb3 = false := by rw [Hrb3.out]; simp; omega
        subst hv
        go_wp2_with fail
        go_meet
        case rel => exact ⟨rfl, rfl⟩
    · have q1 : ¬ ((md : Nat) : Int) < ((en : Nat) : Int) := by omega
      have hv : rb3 = false := by rw [Hrb3.out]; simp; omega
      subst hv
      go_wp2_with fail
      go_meet
      case rel => exact ⟨rfl, rfl⟩
  case rest =>
    obtain ⟨rfl, rfl⟩ := hcut
    go_upto_if 213 with fail
    cases rb3
    · have hno : ¬ (md < en ∧ en < b) := of_decide_eq_false Hrb3.out.symm
      have hT1 : SortE nc (A2 ++ B2) := by
        rcases (show A2.length = 0 ∨ B2.length = 0 from by have h1 := HV.out; have h2 := HM.out; omega) with h1 | h1
        · rw [List.eq_nil_of_length_eq_zero h1]; exact HSS.out.2.1.2.1
        · rw [List.eq_nil_of_length_eq_zero h1, List.append_nil]; exact HSS.out.1.2.1
      have hE := HH.out.2.2.1
      have hc := HH.out.2.2.2
      obtain ⟨S2, hS2⟩ : ∃ z, z = A2 ++ B2 := ⟨_, rfl⟩
      rw [List.append_assoc (P ++ S), ← hS2, List.append_assoc P] at hE
      rw [← hS2] at hT1
      have hT2 : S2.Perm (A2 ++ B2) := by rw [hS2]
      have hj := merge_join HSS.out.2.2.1 HSS.out.2.2.2.1 HEN.out.1 HEN.out.2 HH.out.1 HH.out.2.1 hT1 hT2
      rw [HV.out.2.2.2.2.1, HV.out.2.2.2.2.2.1] at hj
      have HJ := Lib.hid (And.intro hj.1 (And.intro hj.2 (And.intro hE hc)))
      clear hj hT1 hT2 hE hc
      go_wp2_with fail
      exact bodyPost_end (results_none (by exact Tryd.results84) _ _ _) rfl ⟨⟨_, rfl⟩, S ++ S2, HJ.out.1, HJ.out.2.1, HJ.out.2.2.1, (chg_no HC.out).trans HJ.out.2.2.2⟩
    · obtain ⟨hc1, hc2⟩ : md < en ∧ en < b := of_decide_eq_true Hrb3.out.symm
      go_wp2_with fail
      refine (HI (nc := nc) (n := n) (a := md) (m := en) (b := b) (P := P ++ S) (A := A2) (B := B2) (R := R) (by have h1 := HV.out; have h2 := HN.out; have h3 := HD.out; have h4 := HM.out; omega) (by have h1 := HH.out.2.2.1; simpa [List.append_assoc] using h1) HG3.out (by rw [← HNN.out]; have h1 := HSL.out; have h2 := HV.out; have h4 := HM.out; simp; omega) hmx (by have h1 := HSL.out; have h3 := HD.out; simp; omega) (by have h1 := HV.out; have h2 := HSL.out; have h3 := HD.out; have h4 := HM.out; simp; omega) (by have h1 := HV.out; have h2 := HSL.out; have h3 := HD.out; have h4 := HM.out; simp; omega) (by have h1 := HV.out; have h4 := HM.out; omega) (by have h1 := HV.out; omega) HSS.out.1.2.1 HSS.out.2.1.2.1 (HSS.out.2.2.2.2.sub (fun _ h => List.mem_append_right _ h) (fun _ h => List.mem_append_right _ h))).mono ?_
      rintro e W2 ⟨⟨v, rfl⟩, S2, hT1, hT2, hE, hc⟩
      replace hE : EntAt W2 g o (P ++ (S ++ S2) ++ R) := by simpa [List.append_assoc] using hE
      replace hc := HH.out.2.2.2.trans hc
      have hj := merge_join HSS.out.2.2.1 HSS.out.2.2.2.1 HEN.out.1 HEN.out.2 HH.out.1 HH.out.2.1 hT1 hT2
      rw [HV.out.2.2.2.2.1, HV.out.2.2.2.2.2.1] at hj
      have HJ := Lib.hid (And.intro hj.1 (And.intro hj.2 (And.intro hE hc)))
      clear hj hT1 hT2 hE hc
      go_wp2_with fail
      exact bodyPost_end (results_none (by exact Tryd.results84) _ _ _) rfl ⟨⟨_, rfl⟩, S ++ S2, HJ.out.1, HJ.out.2.1, HJ.out.2.2.1, (chg_no HC.out).trans HJ.out.2.2.2⟩
noncomputable def symTail2 : Code := tailN 10 (Tryd.f84.body.getD .skip)
set_option maxRecDepth 1000000 in
set_option maxHeartbeats 100000000 in
theorem symTail2_any {N : Nat} (HI : SymIH N) {w wo wc : World} {g o n c nc a m b md nn en i : Nat} {P A B A1 A2 B1 B2 R : List EntD} {c5 c6 c7 c8 c9 c10 c11 c12 c13 c14 c15 c16 c17 c19 c21 c22 c23 c25 c26 c27 c28 c29 c30 c31 c32 c33 c34 c35 c36 c37 c38 c39 c40 c41 c42 c43 c44 c45 c46 c47 c48 c49 c50 c51 c52 c53 c54 c55 c56 c57 c58 c59 c60 c61 c62 c63 c64 c65 c66 c67 c68 c69 c70 c71 c72 c73 c74 c75 c76 c77 c78 c79 c80 c81 c82 c83 c84 c85 c86 c87 c88 c89 c90 c91 c92 c93 c94 c95 c96 c97 c98 c99 c100 c101 c102 c103 c104 c105 c106 c107 c108 c109 c110 c111 c112 c113 c114 c115 c116 c117 c118 c119 c120 c121 c122 c123 c124 c125 c126 c127 c128 c129 c130 c131 c132 c133 c134 c135 c136 c137 c138 c139 c140 c141 c142 c143 c144 c145 c146 c147 c148 c149 c150 c151 c152 c153 c154 c155 c156 c157 c158 c159 c160 c161 c162 c163 c164 c165 c166 c167 c168 c169 c170 c171 c172 c173 c174 c175 c176 c177 c178 c179 c180 c181 c182 c183 c184 c185 c186 c187 c188 c189 c190 c191 c192 c193 c194 c195 c196 c197 c198 c199 c200 c201 c202 c203 c204 c205 c206 c207 c208 c209 c210 c211 c212 c213 c214 c215 c216 c217 c218 c219 : Value}
    (hmx : n ≤ 1000000) (HN : Hid (A.length + B.length ≤ N + 1)) (HD : Hid (m = a + A.length ∧ b = m + B.length ∧ a = P.length)) (hnn : nn = md + m) (hen2 : en + i = nn) (hai : a ≤ i) (him2 : i ≤ m) (himd2 : i ≤ md) (hme : m ≤ en) (heb : en ≤ b) (hamd : a < md) (hmdb : md < b)
    (HV : Hid (A1 = A.take (i - a) ∧ A2 = A.drop (i - a) ∧ B1 = B.take (en - m) ∧ B2 = B.drop (en - m) ∧ A1 ++ A2 = A ∧ B1 ++ B2 = B ∧ A1.length = i - a ∧ B1.length = en - m ∧ A2.length = m - i ∧ B2.length = b - en))
    (HEN : Hid ((∀ x y, A1.getLast? = some x → B2.head? = some y → lessE nc x y) ∧ (∀ x y, B1.getLast? = some x → A2.head? = some y → lessE nc x y)))
    (HSS : Hid ((SortE nc A1 ∧ SortE nc A2 ∧ AllE nc A1 A2) ∧ (SortE nc B1 ∧ SortE nc B2 ∧ AllE nc B1 B2) ∧ SortE nc (A1 ++ A2) ∧ SortE nc (B1 ++ B2) ∧ LowE nc (A1 ++ A2) (B1 ++ B2)))
    (HNN : Hid ((P ++ A1 ++ A2 ++ B1 ++ B2 ++ R).length = n)) (HC : Hid (Chg (fun _ => False) w wo)) (HGR : Hid (g < wo.heap.size)) (HF : Hid (RotOk wo g o P A1 A2 B1 B2 R wc)) :
    Code.wp Tryd.prog symTail2 (bodyPost Tryd.prog Tryd.f84 (fun e w' => (∃ v, e = .returned v) ∧ MergeOk w g o nc P A B R w')) ⟨#[.slice (some ⟨g, o, none⟩) n c, .int .i64 (a : Int), .int .i64 (m : Int), .int .i64 (b : Int), cmpF, c5, c6, c7, c8, c9, c10, c11, c12, c13, c14, c15, c16, c17, .int .i64 (md : Int), c19, .int .i64 (i : Int), c21, c22, c23, .int .i64 (en : Int), c25, c26, c27, c28, c29, c30, c31, c32, c33, c34, c35, c36, c37, c38, c39, c40, c41, c42, c43, c44, c45, c46, c47, c48, c49, c50, c51, c52, c53, c54, c55, c56, c57, c58, c59, c60, c61, c62, c63, c64, c65, c66, c67, c68, c69, c70, c71, c72, c73, c74, c75, c76, c77, c78, c79, c80, c81, c82, c83, c84, c85, c86, c87, c88, c89, c90, c91, c92, c93, c94, c95, c96, c97, c98, c99, c100, c101, c102, c103, c104, c105, c106, c107, c108, c109, c110, c111, c112, c113, c114, c115, c116, c117, c118, c119, c120, c121, c122, c123, c124, c125, c126, c127, c128, c129, c130, c131, c132, c133, c134, c135, c136, c137, c138, c139, c140, c141, c142, c143, c144, c145, c146, c147, c148, c149, c150, c151, c152, c153, c154, c155, c156, c157, c158, c159, c160, c161, c162, c163, c164, c165, c166, c167, c168, c169, c170, c171, c172, c173, c174, c175, c176, c177, c178, c179, c180, c181, c182, c183, c184, c185, c186, c187, c188, c189, c190, c191, c192, c193, c194, c195, c196, c197, c198, c199, c200, c201, c202, c203, c204, c205, c206, c207, c208, c209, c210, c211, c212, c213, c214, c215, c216, c217, c218, c219], []⟩ wc := by
  have HM := Lib.hid (And.intro hnn hnn)
  conv => arg 2; whnf
  dsimp only
  have HG2 := Lib.hid (Nat.lt_of_lt_of_le HGR.out HF.out.2.size)
  go_upto_region 41 with fail
  obtain ⟨rb2, hrb2⟩ : ∃ z, z = decide (a < i ∧ i < md) := ⟨_, rfl⟩
  have Hrb2 := Lib.hid hrb2
  clear hrb2
  go_cut [199] (fun s wx => s = .bool rb2 ∧ wx = wc)
  case first =>
    by_cases hc1 : a < i
    · have q1 : ((a : Nat) : Int) < ((i : Nat) : Int) := by omega
      by_cases hc2 : i < md
      · have q2 : ((i : Nat) : Int) < ((md : Nat) : Int) := by omega
        have hv : rb2 = true := by rw [Hrb2.out]; simp; omega
        subst hv
        go_wp2_with fail
        go_meet
        case rel => exact ⟨rfl, rfl⟩
      · have q2 : ¬ ((i : Nat) : Int) < ((md : Nat) : Int) := by omega
        have hv : rb2 = false := by rw [Hrb2.out]; simp; omega
        subst hv
        go_wp2_with fail
        go_meet
        case rel => exact ⟨rfl, rfl⟩
    · have q1 : ¬ ((a : Nat) : Int) < ((i : Nat) : Int) := by omega
      have hv : rb2 = false := by rw [Hrb2.out]; simp; omega
      subst hv
      go_wp2_with fail
      go_meet
      case rel => exact ⟨rfl, rfl⟩
  case rest =>
    obtain ⟨rfl, rfl⟩ := hcut
    go_upto_if 199 with fail
    go_cut [] (fun wx => HeadOk wo g o nc P A1 A2 B1 B2 R wx)
    case first =>
      cases rb2
      · have hno : ¬ (a < i ∧ i < md) := of_decide_eq_false Hrb2.out.symm
        have h0 : SortE nc (A1 ++ B1) := by
          rcases (show A1.length = 0 ∨ B1.length = 0 from by have h1 := HV.out; have h2 := HM.out; omega) with h1 | h1
          · rw [List.eq_nil_of_length_eq_zero h1]; exact HSS.out.2.1.1
          · rw [List.eq_nil_of_length_eq_zero h1, List.append_nil]; exact HSS.out.1.1
        have HH := Lib.hid (show HeadOk wo g o nc P A1 A2 B1 B2 R _ from ⟨A1 ++ B1, h0, .refl _, by have h1 := HF.out.1; simpa [List.append_assoc] using h1, HF.out.2⟩)
        clear h0
        go_wp2_with fail
        go_meet
        case rel => exact HH.out
      · obtain ⟨hc1, hc2⟩ : a < i ∧ i < md := of_decide_eq_true Hrb2.out.symm
        go_wp2_with fail
        refine (HI (nc := nc) (n := n) (a := a) (m := i) (b := md) (P := P) (A := A1) (B := B1) (R := A2 ++ B2 ++ R) (by have h1 := HV.out; have h2 := HN.out; have h3 := HD.out; have h4 := HM.out; omega) (by have h1 := HF.out.1; simpa [List.append_assoc] using h1) HG2.out (by rw [← HNN.out]; simp; omega) hmx HD.out.2.2 (by have h1 := HV.out; have h3 := HD.out; omega) (by have h1 := HV.out; have h3 := HD.out; have h4 := HM.out; omega) (by have h1 := HV.out; omega) (by have h1 := HV.out; have h4 := HM.out; omega) HSS.out.1.1 HSS.out.2.1.1 (HSS.out.2.2.2.2.sub (fun _ h => List.mem_append_left _ h) (fun _ h => List.mem_append_left _ h))).mono ?_
        rintro e W2 ⟨⟨v, rfl⟩, S, hS1, hS2, hE, hc⟩
        have HH := Lib.hid (show HeadOk wo g o nc P A1 A2 B1 B2 R W2 from ⟨S, hS1, hS2, by simpa [List.append_assoc] using hE, HF.out.2.trans hc⟩)
        clear hE hc hS1 hS2
        go_wp2_with fail
        go_meet
        case rel => exact HH.out
    case rest =>
      apply_assumption
      exact symTail3_any HI hmx HN HD hnn hen2 hai him2 himd2 hme heb hamd hmdb HV HEN HSS HNN HC HGR (Lib.hid hcut)
noncomputable def symTail1 : Code := tailN 9 (Tryd.f84.body.getD .skip)
set_option maxRecDepth 1000000 in
set_option maxHeartbeats 100000000 in
theorem symTail1_any {N : Nat} (HI : SymIH N) {w wo _wc : World} {g o n c nc a m b md nn en i : Nat} {P A B A1 A2 B1 B2 R : List EntD} {c5 c6 c7 c8 c9 c10 c11 c12 c13 c14 c15 c16 c17 c19 c21 c22 c23 c25 c26 c27 c28 c29 c30 c31 c32 c33 c34 c35 c36 c37 c38 c39 c40 c41 c42 c43 c44 c45 c46 c47 c48 c49 c50 c51 c52 c53 c54 c55 c56 c57 c58 c59 c60 c61 c62 c63 c64 c65 c66 c67 c68 c69 c70 c71 c72 c73 c74 c75 c76 c77 c78 c79 c80 c81 c82 c83 c84 c85 c86 c87 c88 c89 c90 c91 c92 c93 c94 c95 c96 c97 c98 c99 c100 c101 c102 c103 c104 c105 c106 c107 c108 c109 c110 c111 c112 c113 c114 c115 c116 c117 c118 c119 c120 c121 c122 c123 c124 c125 c126 c127 c128 c129 c130 c131 c132 c133 c134 c135 c136 c137 c138 c139 c140 c141 c142 c143 c144 c145 c146 c147 c148 c149 c150 c151 c152 c153 c154 c155 c156 c157 c158 c159 c160 c161 c162 c163 c164 c165 c166 c167 c168 c169 c170 c171 c172 c173 c174 c175 c176 c177 c178 c179 c180 c181 c182 c183 c184 c185 c186 c187 c188 c189 c190 c191 c192 c193 c194 c195 c196 c197 c198 c199 c200 c201 c202 c203 c204 c205 c206 c207 c208 c209 c210 c211 c212 c213 c214 c215 c216 c217 c218 c219 : Value}
    (hmx : n ≤ 1000000) (HN : Hid (A.length + B.length ≤ N + 1)) (HD : Hid (m = a + A.length ∧ b = m + B.length ∧ a = P.length)) (hnn : nn = md + m) (hen2 : en + i = nn) (hai : a ≤ i) (him2 : i ≤ m) (himd2 : i ≤ md) (hme : m ≤ en) (heb : en ≤ b) (hamd : a < md) (hmdb : md < b)
    (HV : Hid (A1 = A.take (i - a) ∧ A2 = A.drop (i - a) ∧ B1 = B.take (en - m) ∧ B2 = B.drop (en - m) ∧ A1 ++ A2 = A ∧ B1 ++ B2 = B ∧ A1.length = i - a ∧ B1.length = en - m ∧ A2.length = m - i ∧ B2.length = b - en))
    (HEN : Hid ((∀ x y, A1.getLast? = some x → B2.head? = some y → lessE nc x y) ∧ (∀ x y, B1.getLast? = some x → A2.head? = some y → lessE nc x y)))
    (HSS : Hid ((SortE nc A1 ∧ SortE nc A2 ∧ AllE nc A1 A2) ∧ (SortE nc B1 ∧ SortE nc B2 ∧ AllE nc B1 B2) ∧ SortE nc (A1 ++ A2) ∧ SortE nc (B1 ++ B2) ∧ LowE nc (A1 ++ A2) (B1 ++ B2)))
    (HNN : Hid ((P ++ A1 ++ A2 ++ B1 ++ B2 ++ R).length = n)) (HC : Hid (Chg (fun _ => False) w wo)) (HGR : Hid (g < wo.heap.size)) (HE1 : Hid (EntAt wo g o (P ++ A1 ++ A2 ++ B1 ++ B2 ++ R))) :
    Code.wp Tryd.prog symTail1 (bodyPost Tryd.prog Tryd.f84 (fun e w' => (∃ v, e = .returned v) ∧ MergeOk w g o nc P A B R w')) ⟨#[.slice (some ⟨g, o, none⟩) n c, .int .i64 (a : Int), .int .i64 (m : Int), .int .i64 (b : Int), cmpF, c5, c6, c7, c8, c9, c10, c11, c12, c13, c14, c15, c16, c17, .int .i64 (md : Int), c19, .int .i64 (i : Int), c21, c22, c23, .int .i64 (en : Int), c25, c26, c27, c28, c29, c30, c31, c32, c33, c34, c35, c36, c37, c38, c39, c40, c41, c42, c43, c44, c45, c46, c47, c48, c49, c50, c51, c52, c53, c54, c55, c56, c57, c58, c59, c60, c61, c62, c63, c64, c65, c66, c67, c68, c69, c70, c71, c72, c73, c74, c75, c76, c77, c78, c79, c80, c81, c82, c83, c84, c85, c86, c87, c88, c89, c90, c91, c92, c93, c94, c95, c96, c97, c98, c99, c100, c101, c102, c103, c104, c105, c106, c107, c108, c109, c110, c111, c112, c113, c114, c115, c116, c117, c118, c119, c120, c121, c122, c123, c124, c125, c126, c127, c128, c129, c130, c131, c132, c133, c134, c135, c136, c137, c138, c139, c140, c141, c142, c143, c144, c145, c146, c147, c148, c149, c150, c151, c152, c153, c154, c155, c156, c157, c158, c159, c160, c161, c162, c163, c164, c165, c166, c167, c168, c169, c170, c171, c172, c173, c174, c175, c176, c177, c178, c179, c180, c181, c182, c183, c184, c185, c186, c187, c188, c189, c190, c191, c192, c193, c194, c195, c196, c197, c198, c199, c200, c201, c202, c203, c204, c205, c206, c207, c208, c209, c210, c211, c212, c213, c214, c215, c216, c217, c218, c219], []⟩ wo := by
  have HM := Lib.hid (And.intro hnn hnn)
  conv => arg 2; whnf
  dsimp only
  go_upto_region 39 with fail
  obtain ⟨rb1, hrb1⟩ : ∃ z, z = decide (i < m ∧ m < en) := ⟨_, rfl⟩
  have Hrb1 := Lib.hid hrb1
  clear hrb1
  go_cut [185] (fun s wx => s = .bool rb1 ∧ wo = wx)
  case first =>
    by_cases hc1 : i < m
    · have q1 : ((i : Nat) : Int) < ((m : Nat) : Int) := by omega
      by_cases hc2 : m < en
      · have q2 : ((m : Nat) : Int) < ((en : Nat) : Int) := by omega
        have hv : rb1 = true := by rw [Hrb1.out]; simp; omega
        subst hv
        go_wp2_with fail
        go_meet
        case rel => exact ⟨rfl, rfl⟩
      · have q2 : ¬ ((m : Nat) : Int) < ((en : Nat) : Int) := by omega
        have hv : rb1 = false := by rw [Hrb1.out]; simp; omega
        subst hv
        go_wp2_with fail
        go_meet
        case rel => exact ⟨rfl, rfl⟩
    · have q1 : ¬ ((i : Nat) : Int) < ((m : Nat) : Int) := by omega
      have hv : rb1 = false := by rw [Hrb1.out]; simp; omega
      subst hv
      go_wp2_with fail
      go_meet
      case rel => exact ⟨rfl, rfl⟩
  case rest =>
    obtain ⟨rfl, rfl⟩ := hcut
    go_upto_if 185 with fail
    go_cut [] (fun wx => RotOk wo g o P A1 A2 B1 B2 R wx)
    case first =>
      cases rb1
      · have hno : ¬ (i < m ∧ m < en) := of_decide_eq_false Hrb1.out.symm
        have h0 : A2 ++ B1 = B1 ++ A2 := by
          rcases (show A2.length = 0 ∨ B1.length = 0 from by have h1 := HV.out; omega) with h1 | h1
          · rw [List.eq_nil_of_length_eq_zero h1]; simp
          · rw [List.eq_nil_of_length_eq_zero h1]; simp
        have HF := Lib.hid (show RotOk wo g o P A1 A2 B1 B2 R wo from ⟨by have h1 := HE1.out; rw [show P ++ A1 ++ A2 ++ B1 ++ B2 ++ R = P ++ A1 ++ (A2 ++ B1) ++ B2 ++ R from by simp [List.append_assoc], h0] at h1; simpa [List.append_assoc] using h1, Chg.refl _ _⟩)
        clear h0
        go_wp2_with fail
        go_meet
        case rel => exact HF.out
      · obtain ⟨hc1, hc2⟩ : i < m ∧ m < en := of_decide_eq_true Hrb1.out.symm
        go_wp2_with fail
        refine (rotate_any (n := n) (a := i) (m := m) (b := en) (P := P ++ A1) (A := A2) (B := B1) (R := B2 ++ R) (by have h1 := HE1.out; simpa [List.append_assoc] using h1) HGR.out (by rw [← HNN.out]; simp [List.append_assoc]) hmx (by have h1 := HV.out; have h3 := HD.out; simp; omega) (by have h1 := HV.out; have h3 := HD.out; simp; omega) (by have h1 := HV.out; have h3 := HD.out; simp; omega) (by have h1 := HV.out; omega) (by have h1 := HV.out; omega)).mono ?_
        rintro e W2 ⟨⟨v, rfl⟩, hE, hc⟩
        have HF := Lib.hid (show RotOk wo g o P A1 A2 B1 B2 R W2 from ⟨by simpa [List.append_assoc] using hE, hc⟩)
        clear hE hc
        go_wp2_with fail
        go_meet
        case rel => exact HF.out
    case rest =>
      apply_assumption
      exact symTail2_any HI hmx HN HD hnn hen2 hai him2 himd2 hme heb hamd hmdb HV HEN HSS HNN HC HGR (Lib.hid hcut)
end Go.Proofs.YtaooangnnlopcaaDoor
