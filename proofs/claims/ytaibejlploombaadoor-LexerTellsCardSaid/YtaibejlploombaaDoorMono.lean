/-
  MORE FUEL, THE SAME RESULT, for each mirror. Printed by mono.py.
-/
import Derived.Test.YtaibejlploombaaDoorRtM
import Derived.Test.YtaibejlploombaaDoorMirA
import Derived.Test.YtaibejlploombaaDoorMirB
import Derived.Test.YtaibejlploombaaDoorMirC
import Derived.Test.YtaibejlploombaaDoorMirD
import Derived.Test.YtaibejlploombaaDoorMirE
namespace Go.Proofs.YtaibejlploombaaDoor.M
open Go Go.RowKit Rt

theorem lexer_escaped_mono {n n' : Nat} (_hn : n ≤ n') (x0) : Le (lexer_escaped n x0) (lexer_escaped n' x0) := Le.refl (lexer_escaped n x0)

theorem strings_Join_mono {n n' : Nat} (_hn : n ≤ n') (x0) (x1) : Le (strings_Join n x0 x1) (strings_Join n' x0 x1) := Le.refl (strings_Join n x0 x1)

theorem lexer_blank_mono {n n' : Nat} (_hn : n ≤ n') (c1 : Int) : Le (lexer_blank n c1) (lexer_blank n' c1) := by
    unfold lexer_blank
    repeat' (first
      | with_reducible refine Le.bind ?_ (fun _ => ?_)
      | with_reducible refine Le.cond ?_ ?_
      | with_reducible exact Le.refl _)

theorem lexer_letter_mono {n n' : Nat} (_hn : n ≤ n') (c1 : Int) : Le (lexer_letter n c1) (lexer_letter n' c1) := by
    unfold lexer_letter
    repeat' (first
      | with_reducible refine Le.bind ?_ (fun _ => ?_)
      | with_reducible refine Le.cond ?_ ?_
      | with_reducible exact Le.refl _)

theorem lexer_digit_mono {n n' : Nat} (_hn : n ≤ n') (c1 : Int) : Le (lexer_digit n c1) (lexer_digit n' c1) := by
    unfold lexer_digit
    repeat' (first
      | with_reducible refine Le.bind ?_ (fun _ => ?_)
      | with_reducible refine Le.cond ?_ ?_
      | with_reducible exact Le.refl _)

theorem lexer_inner_mono {n n' : Nat} (hn : n ≤ n') (c1 : Int) : Le (lexer_inner n c1) (lexer_inner n' c1) := by
    unfold lexer_inner
    repeat' (first
      | with_reducible refine Le.bind ?_ (fun _ => ?_)
      | with_reducible refine Le.cond ?_ ?_
      | with_reducible exact lexer_letter_mono hn _
      | with_reducible exact lexer_digit_mono hn _
      | with_reducible exact Le.refl _)

theorem lexer_plain_mono {n n' : Nat} (_hn : n ≤ n') (c1 : Int) : Le (lexer_plain n c1) (lexer_plain n' c1) := by
    unfold lexer_plain
    repeat' (first
      | with_reducible refine Le.bind ?_ (fun _ => ?_)
      | with_reducible refine Le.cond ?_ ?_
      | with_reducible exact Le.refl _)

theorem lexer_span_L1_mono {n n' : Nat} (hn : n ≤ n') (s1 : Bs) {isx1 isx1' : (Int → Option Bool)} (hisx1 : ∀ y0, Le (isx1 y0) (isx1' y0)) {kont1 kont1' : Int → Option Int} (hkont1 : ∀ y0, Le (kont1 y0) (kont1' y0)) : ∀ {m m' : Nat}, m ≤ m' → ∀ (v0 : Int), Le (lexer_span_L1 n s1 isx1 kont1 m v0) (lexer_span_L1 n' s1 isx1' kont1' m' v0)
  | 0, _, _, _ => Le.none _
  | _ + 1, 0, h, _ => absurd h (by omega)
  | m + 1, m' + 1, h, v0 => by
    rw [lexer_span_L1_s, lexer_span_L1_s]
    repeat' (first
      | with_reducible refine Le.bind ?_ (fun _ => ?_)
      | with_reducible refine Le.cond ?_ ?_
      | with_reducible exact hisx1 _
      | with_reducible exact hkont1 _
      | with_reducible exact lexer_span_L1_mono hn _ hisx1 hkont1 (Nat.le_of_succ_le_succ h) _
      | with_reducible exact Le.refl _)

theorem lexer_span_mono {n n' : Nat} (hn : n ≤ n') (s1 : Bs) {isx1 isx1' : (Int → Option Bool)} (hisx1 : ∀ y0, Le (isx1 y0) (isx1' y0)) : Le (lexer_span n s1 isx1) (lexer_span n' s1 isx1') := by
    unfold lexer_span
    repeat' (first
      | with_reducible refine Le.bind ?_ (fun _ => ?_)
      | with_reducible refine Le.cond ?_ ?_
      | with_reducible exact hisx1 _
      | with_reducible refine lexer_span_L1_mono hn _ (fun _ => ?_) (fun _ => ?_) hn _
      | with_reducible exact Le.refl _)

theorem lexer_Name_mono {n n' : Nat} (hn : n ≤ n') (s1 : Bs) : Le (lexer_Name n s1) (lexer_Name n' s1) := by
    unfold lexer_Name
    repeat' (first
      | with_reducible refine Le.bind ?_ (fun _ => ?_)
      | with_reducible refine Le.cond ?_ ?_
      | with_reducible exact lexer_letter_mono hn _
      | with_reducible exact lexer_inner_mono hn _
      | with_reducible refine lexer_span_mono hn _ (fun _ => ?_)
      | with_reducible exact Le.refl _)

theorem lexer_Number_L1_mono {n n' : Nat} (hn : n ≤ n') (s1 : Bs) {kont1 kont1' : Int → Option (Int × Bool)} (hkont1 : ∀ y0, Le (kont1 y0) (kont1' y0)) : ∀ {m m' : Nat}, m ≤ m' → ∀ (v0 : Int) (v1 : Int), Le (lexer_Number_L1 n s1 kont1 m v0 v1) (lexer_Number_L1 n' s1 kont1' m' v0 v1)
  | 0, _, _, _, _ => Le.none _
  | _ + 1, 0, h, _, _ => absurd h (by omega)
  | m + 1, m' + 1, h, v0, v1 => by
    rw [lexer_Number_L1_s, lexer_Number_L1_s]
    repeat' (first
      | with_reducible refine Le.bind ?_ (fun _ => ?_)
      | with_reducible refine Le.cond ?_ ?_
      | with_reducible exact hkont1 _
      | with_reducible exact lexer_Number_L1_mono hn _ hkont1 (Nat.le_of_succ_le_succ h) _ _
      | with_reducible exact Le.refl _)

theorem lexer_Number_mono {n n' : Nat} (hn : n ≤ n') (s1 : Bs) : Le (lexer_Number n s1) (lexer_Number n' s1) := by
    unfold lexer_Number
    repeat' (first
      | with_reducible refine Le.bind ?_ (fun _ => ?_)
      | with_reducible refine Le.cond ?_ ?_
      | with_reducible exact lexer_digit_mono hn _
      | with_reducible refine lexer_span_mono hn _ (fun _ => ?_)
      | with_reducible refine lexer_Number_L1_mono hn _ (fun _ => ?_) hn _ _
      | with_reducible exact Le.refl _)

theorem lexer_gap_L2_mono {n n' : Nat} (hn : n ≤ n') (s1 : Bs) {kont2 kont2' : Int → Option Int} (hkont2 : ∀ y0, Le (kont2 y0) (kont2' y0)) : ∀ {m m' : Nat}, m ≤ m' → ∀ (v0 : Int), Le (lexer_gap_L2 n s1 kont2 m v0) (lexer_gap_L2 n' s1 kont2' m' v0)
  | 0, _, _, _ => Le.none _
  | _ + 1, 0, h, _ => absurd h (by omega)
  | m + 1, m' + 1, h, v0 => by
    rw [lexer_gap_L2_s, lexer_gap_L2_s]
    repeat' (first
      | with_reducible refine Le.bind ?_ (fun _ => ?_)
      | with_reducible refine Le.cond ?_ ?_
      | with_reducible exact hkont2 _
      | with_reducible exact lexer_gap_L2_mono hn _ hkont2 (Nat.le_of_succ_le_succ h) _
      | with_reducible exact Le.refl _)

theorem lexer_gap_L1_mono {n n' : Nat} (hn : n ≤ n') (s1 : Bs) {kont1 kont1' : Int → Option Int} (hkont1 : ∀ y0, Le (kont1 y0) (kont1' y0)) : ∀ {m m' : Nat}, m ≤ m' → ∀ (v0 : Int), Le (lexer_gap_L1 n s1 kont1 m v0) (lexer_gap_L1 n' s1 kont1' m' v0)
  | 0, _, _, _ => Le.none _
  | _ + 1, 0, h, _ => absurd h (by omega)
  | m + 1, m' + 1, h, v0 => by
    rw [lexer_gap_L1_s, lexer_gap_L1_s]
    repeat' (first
      | with_reducible refine Le.bind ?_ (fun _ => ?_)
      | with_reducible refine Le.cond ?_ ?_
      | with_reducible exact hkont1 _
      | with_reducible exact lexer_gap_L1_mono hn _ hkont1 (Nat.le_of_succ_le_succ h) _
      | with_reducible exact lexer_blank_mono hn _
      | with_reducible refine lexer_span_mono hn _ (fun _ => ?_)
      | with_reducible refine lexer_gap_L2_mono hn _ (fun _ => ?_) hn _
      | with_reducible exact Le.refl _)

theorem lexer_gap_mono {n n' : Nat} (hn : n ≤ n') (s1 : Bs) : Le (lexer_gap n s1) (lexer_gap n' s1) := by
    unfold lexer_gap
    repeat' (first
      | with_reducible refine Le.bind ?_ (fun _ => ?_)
      | with_reducible refine Le.cond ?_ ?_
      | with_reducible exact lexer_blank_mono hn _
      | with_reducible refine lexer_span_mono hn _ (fun _ => ?_)
      | with_reducible refine lexer_gap_L1_mono hn _ (fun _ => ?_) hn _
      | with_reducible exact Le.refl _)

theorem lexer_quoted_L1_mono {n n' : Nat} (hn : n ≤ n') (s1 : Bs) {kont1 kont1' : Int → (List Int) → Option (Bs × Int)} (hkont1 : ∀ y0 y1, Le (kont1 y0 y1) (kont1' y0 y1)) : ∀ {m m' : Nat}, m ≤ m' → ∀ (v0 : Int) (v1 : (List Int)), Le (lexer_quoted_L1 n s1 kont1 m v0 v1) (lexer_quoted_L1 n' s1 kont1' m' v0 v1)
  | 0, _, _, _, _ => Le.none _
  | _ + 1, 0, h, _, _ => absurd h (by omega)
  | m + 1, m' + 1, h, v0, v1 => by
    rw [lexer_quoted_L1_s, lexer_quoted_L1_s]
    repeat' (first
      | with_reducible refine Le.bind ?_ (fun _ => ?_)
      | with_reducible refine Le.cond ?_ ?_
      | with_reducible exact hkont1 _ _
      | with_reducible exact lexer_quoted_L1_mono hn _ hkont1 (Nat.le_of_succ_le_succ h) _ _
      | with_reducible exact lexer_plain_mono hn _
      | with_reducible exact Le.refl _)

theorem lexer_quoted_mono {n n' : Nat} (hn : n ≤ n') (s1 : Bs) : Le (lexer_quoted n s1) (lexer_quoted n' s1) := by
    unfold lexer_quoted
    repeat' (first
      | with_reducible refine Le.bind ?_ (fun _ => ?_)
      | with_reducible refine Le.cond ?_ ?_
      | with_reducible refine lexer_quoted_L1_mono hn _ (fun _ _ => ?_) hn _ _
      | with_reducible exact Le.refl _)

theorem lexer_next_L1_mono {n n' : Nat} (hn : n ≤ n') (s1 : Bs) {kont1 kont1' : Option (Token × Int × Int)} (hkont1 : Le (kont1) (kont1')) : ∀ {m m' : Nat}, m ≤ m' → ∀ (v0 : Int), Le (lexer_next_L1 n s1 kont1 m v0) (lexer_next_L1 n' s1 kont1' m' v0)
  | 0, _, _, _ => Le.none _
  | _ + 1, 0, h, _ => absurd h (by omega)
  | m + 1, m' + 1, h, v0 => by
    rw [lexer_next_L1_s, lexer_next_L1_s]
    repeat' (first
      | with_reducible refine Le.bind ?_ (fun _ => ?_)
      | with_reducible refine Le.cond ?_ ?_
      | with_reducible exact hkont1
      | with_reducible exact lexer_next_L1_mono hn _ hkont1 (Nat.le_of_succ_le_succ h) _
      | with_reducible exact Le.refl _)

theorem lexer_next_mono {n n' : Nat} (hn : n ≤ n') (s1 : Bs) : Le (lexer_next n s1) (lexer_next n' s1) := by
    unfold lexer_next
    repeat' (first
      | with_reducible refine Le.bind ?_ (fun _ => ?_)
      | with_reducible refine Le.cond ?_ ?_
      | with_reducible exact lexer_letter_mono hn _
      | with_reducible exact lexer_digit_mono hn _
      | with_reducible exact lexer_inner_mono hn _
      | with_reducible refine lexer_span_mono hn _ (fun _ => ?_)
      | with_reducible exact lexer_Name_mono hn _
      | with_reducible exact lexer_Number_mono hn _
      | with_reducible exact lexer_quoted_mono hn _
      | with_reducible refine lexer_next_L1_mono hn _ ?_ hn _
      | with_reducible exact Le.refl _)

theorem lexer_Scan_L1_mono {n n' : Nat} (hn : n ≤ n') (s1 : Bs) : ∀ {m m' : Nat}, m ≤ m' → ∀ (v0 : Int) (v1 : (List Token)), Le (lexer_Scan_L1 n s1 m v0 v1) (lexer_Scan_L1 n' s1 m' v0 v1)
  | 0, _, _, _, _ => Le.none _
  | _ + 1, 0, h, _, _ => absurd h (by omega)
  | m + 1, m' + 1, h, v0, v1 => by
    rw [lexer_Scan_L1_s, lexer_Scan_L1_s]
    repeat' (first
      | with_reducible refine Le.bind ?_ (fun _ => ?_)
      | with_reducible refine Le.cond ?_ ?_
      | with_reducible exact lexer_Scan_L1_mono hn _ (Nat.le_of_succ_le_succ h) _ _
      | with_reducible exact lexer_gap_mono hn _
      | with_reducible exact lexer_next_mono hn _
      | with_reducible exact Le.refl _)

theorem lexer_Scan_mono {n n' : Nat} (hn : n ≤ n') (s1 : Bs) : Le (lexer_Scan n s1) (lexer_Scan n' s1) := by
    unfold lexer_Scan
    repeat' (first
      | with_reducible refine Le.bind ?_ (fun _ => ?_)
      | with_reducible refine Le.cond ?_ ?_
      | with_reducible exact lexer_Scan_L1_mono hn _ hn _ _
      | with_reducible exact Le.refl _)

theorem lexer_Quote_mono {n n' : Nat} (hn : n ≤ n') (s1 : Bs) : Le (lexer_Quote n s1) (lexer_Quote n' s1) := by
    unfold lexer_Quote
    repeat' (first
      | with_reducible refine Le.bind ?_ (fun _ => ?_)
      | with_reducible refine Le.cond ?_ ?_
      | with_reducible exact lexer_escaped_mono hn _
      | with_reducible exact lexer_plain_mono hn _
      | with_reducible refine lexer_span_mono hn _ (fun _ => ?_)
      | with_reducible exact Le.refl _)

theorem lexer_Print_L1_mono {n n' : Nat} (hn : n ≤ n') (l1 : (List Token)) {kont1 kont1' : (List Bs) → Option Bs} (hkont1 : ∀ y0, Le (kont1 y0) (kont1' y0)) : ∀ {m m' : Nat}, m ≤ m' → ∀ (v0 : Int) (v1 : (List Bs)), Le (lexer_Print_L1 n l1 kont1 m v0 v1) (lexer_Print_L1 n' l1 kont1' m' v0 v1)
  | 0, _, _, _, _ => Le.none _
  | _ + 1, 0, h, _, _ => absurd h (by omega)
  | m + 1, m' + 1, h, v0, v1 => by
    rw [lexer_Print_L1_s, lexer_Print_L1_s]
    repeat' (first
      | with_reducible refine Le.bind ?_ (fun _ => ?_)
      | with_reducible refine Le.cond ?_ ?_
      | with_reducible exact hkont1 _
      | with_reducible exact lexer_Print_L1_mono hn _ hkont1 (Nat.le_of_succ_le_succ h) _ _
      | with_reducible exact lexer_escaped_mono hn _
      | with_reducible exact Le.refl _)

theorem lexer_Print_mono {n n' : Nat} (hn : n ≤ n') (l1 : (List Token)) : Le (lexer_Print n l1) (lexer_Print n' l1) := by
    unfold lexer_Print
    repeat' (first
      | with_reducible refine Le.bind ?_ (fun _ => ?_)
      | with_reducible refine Le.cond ?_ ?_
      | with_reducible exact strings_Join_mono hn _ _
      | with_reducible refine lexer_Print_L1_mono hn _ (fun _ => ?_) hn _ _
      | with_reducible exact Le.refl _)

theorem ref06_Blank_mono {n n' : Nat} (_hn : n ≤ n') (c1 : Int) : Le (ref06_Blank n c1) (ref06_Blank n' c1) := by
    unfold ref06_Blank
    repeat' (first
      | with_reducible refine Le.bind ?_ (fun _ => ?_)
      | with_reducible refine Le.cond ?_ ?_
      | with_reducible exact Le.refl _)

theorem ref06_letter_mono {n n' : Nat} (_hn : n ≤ n') (c1 : Int) : Le (ref06_letter n c1) (ref06_letter n' c1) := by
    unfold ref06_letter
    repeat' (first
      | with_reducible refine Le.bind ?_ (fun _ => ?_)
      | with_reducible refine Le.cond ?_ ?_
      | with_reducible exact Le.refl _)

theorem ref06_digit_mono {n n' : Nat} (_hn : n ≤ n') (c1 : Int) : Le (ref06_digit n c1) (ref06_digit n' c1) := by
    unfold ref06_digit
    repeat' (first
      | with_reducible refine Le.bind ?_ (fun _ => ?_)
      | with_reducible refine Le.cond ?_ ?_
      | with_reducible exact Le.refl _)

theorem ref06_Value_L1_mono {n n' : Nat} (hn : n ≤ n') (s1 : Bs) {kont1 kont1' : Option Bool} (hkont1 : Le (kont1) (kont1')) : ∀ {m m' : Nat}, m ≤ m' → ∀ (v0 : Int), Le (ref06_Value_L1 n s1 kont1 m v0) (ref06_Value_L1 n' s1 kont1' m' v0)
  | 0, _, _, _ => Le.none _
  | _ + 1, 0, h, _ => absurd h (by omega)
  | m + 1, m' + 1, h, v0 => by
    rw [ref06_Value_L1_s, ref06_Value_L1_s]
    repeat' (first
      | with_reducible refine Le.bind ?_ (fun _ => ?_)
      | with_reducible refine Le.cond ?_ ?_
      | with_reducible exact hkont1
      | with_reducible exact ref06_Value_L1_mono hn _ hkont1 (Nat.le_of_succ_le_succ h) _
      | with_reducible exact Le.refl _)

theorem ref06_Value_mono {n n' : Nat} (hn : n ≤ n') (s1 : Bs) : Le (ref06_Value n s1) (ref06_Value n' s1) := by
    unfold ref06_Value
    repeat' (first
      | with_reducible refine Le.bind ?_ (fun _ => ?_)
      | with_reducible refine Le.cond ?_ ?_
      | with_reducible refine ref06_Value_L1_mono hn _ ?_ hn _
      | with_reducible exact Le.refl _)

theorem ref06_Name_L1_mono {n n' : Nat} (hn : n ≤ n') (s1 : Bs) {kont1 kont1' : Option Bool} (hkont1 : Le (kont1) (kont1')) : ∀ {m m' : Nat}, m ≤ m' → ∀ (v0 : Int), Le (ref06_Name_L1 n s1 kont1 m v0) (ref06_Name_L1 n' s1 kont1' m' v0)
  | 0, _, _, _ => Le.none _
  | _ + 1, 0, h, _ => absurd h (by omega)
  | m + 1, m' + 1, h, v0 => by
    rw [ref06_Name_L1_s, ref06_Name_L1_s]
    repeat' (first
      | with_reducible refine Le.bind ?_ (fun _ => ?_)
      | with_reducible refine Le.cond ?_ ?_
      | with_reducible exact hkont1
      | with_reducible exact ref06_Name_L1_mono hn _ hkont1 (Nat.le_of_succ_le_succ h) _
      | with_reducible exact ref06_letter_mono hn _
      | with_reducible exact ref06_digit_mono hn _
      | with_reducible exact Le.refl _)

theorem ref06_Name_mono {n n' : Nat} (hn : n ≤ n') (s1 : Bs) : Le (ref06_Name n s1) (ref06_Name n' s1) := by
    unfold ref06_Name
    repeat' (first
      | with_reducible refine Le.bind ?_ (fun _ => ?_)
      | with_reducible refine Le.cond ?_ ?_
      | with_reducible exact ref06_letter_mono hn _
      | with_reducible refine ref06_Name_L1_mono hn _ ?_ hn _
      | with_reducible exact Le.refl _)

theorem ref06_Number_L1_mono {n n' : Nat} (hn : n ≤ n') (s1 : Bs) {kont1 kont1' : Int → Option (Int × Bool)} (hkont1 : ∀ y0, Le (kont1 y0) (kont1' y0)) : ∀ {m m' : Nat}, m ≤ m' → ∀ (v0 : Int) (v1 : Int), Le (ref06_Number_L1 n s1 kont1 m v0 v1) (ref06_Number_L1 n' s1 kont1' m' v0 v1)
  | 0, _, _, _, _ => Le.none _
  | _ + 1, 0, h, _, _ => absurd h (by omega)
  | m + 1, m' + 1, h, v0, v1 => by
    rw [ref06_Number_L1_s, ref06_Number_L1_s]
    repeat' (first
      | with_reducible refine Le.bind ?_ (fun _ => ?_)
      | with_reducible refine Le.cond ?_ ?_
      | with_reducible exact hkont1 _
      | with_reducible exact ref06_Number_L1_mono hn _ hkont1 (Nat.le_of_succ_le_succ h) _ _
      | with_reducible exact ref06_digit_mono hn _
      | with_reducible exact Le.refl _)

theorem ref06_Number_mono {n n' : Nat} (hn : n ≤ n') (s1 : Bs) : Le (ref06_Number n s1) (ref06_Number n' s1) := by
    unfold ref06_Number
    repeat' (first
      | with_reducible refine Le.bind ?_ (fun _ => ?_)
      | with_reducible refine Le.cond ?_ ?_
      | with_reducible refine ref06_Number_L1_mono hn _ (fun _ => ?_) hn _ _
      | with_reducible exact Le.refl _)

theorem ref06_Escaped_L1_mono {n n' : Nat} (hn : n ≤ n') (s1 : Bs) {kont1 kont1' : Bs → Option Bs} (hkont1 : ∀ y0, Le (kont1 y0) (kont1' y0)) : ∀ {m m' : Nat}, m ≤ m' → ∀ (v0 : Bs) (v1 : Int), Le (ref06_Escaped_L1 n s1 kont1 m v0 v1) (ref06_Escaped_L1 n' s1 kont1' m' v0 v1)
  | 0, _, _, _, _ => Le.none _
  | _ + 1, 0, h, _, _ => absurd h (by omega)
  | m + 1, m' + 1, h, v0, v1 => by
    rw [ref06_Escaped_L1_s, ref06_Escaped_L1_s]
    repeat' (first
      | with_reducible refine Le.bind ?_ (fun _ => ?_)
      | with_reducible refine Le.cond ?_ ?_
      | with_reducible exact hkont1 _
      | with_reducible exact ref06_Escaped_L1_mono hn _ hkont1 (Nat.le_of_succ_le_succ h) _ _
      | with_reducible exact Le.refl _)

theorem ref06_Escaped_mono {n n' : Nat} (hn : n ≤ n') (s1 : Bs) : Le (ref06_Escaped n s1) (ref06_Escaped n' s1) := by
    unfold ref06_Escaped
    repeat' (first
      | with_reducible refine Le.bind ?_ (fun _ => ?_)
      | with_reducible refine Le.cond ?_ ?_
      | with_reducible refine ref06_Escaped_L1_mono hn _ (fun _ => ?_) hn _ _
      | with_reducible exact Le.refl _)

theorem ref06_Quote_mono {n n' : Nat} (hn : n ≤ n') (s1 : Bs) : Le (ref06_Quote n s1) (ref06_Quote n' s1) := by
    unfold ref06_Quote
    repeat' (first
      | with_reducible refine Le.bind ?_ (fun _ => ?_)
      | with_reducible refine Le.cond ?_ ?_
      | with_reducible exact ref06_Value_mono hn _
      | with_reducible exact ref06_Escaped_mono hn _
      | with_reducible exact Le.refl _)

theorem ref06_quoted_L1_mono {n n' : Nat} (hn : n ≤ n') (s1 : Bs) {kont1 kont1' : Bs → Int → Option (Bs × Int × Bool)} (hkont1 : ∀ y0 y1, Le (kont1 y0 y1) (kont1' y0 y1)) : ∀ {m m' : Nat}, m ≤ m' → ∀ (v0 : Bs) (v1 : Int), Le (ref06_quoted_L1 n s1 kont1 m v0 v1) (ref06_quoted_L1 n' s1 kont1' m' v0 v1)
  | 0, _, _, _, _ => Le.none _
  | _ + 1, 0, h, _, _ => absurd h (by omega)
  | m + 1, m' + 1, h, v0, v1 => by
    rw [ref06_quoted_L1_s, ref06_quoted_L1_s]
    repeat' (first
      | with_reducible refine Le.bind ?_ (fun _ => ?_)
      | with_reducible refine Le.cond ?_ ?_
      | with_reducible exact hkont1 _ _
      | with_reducible exact ref06_quoted_L1_mono hn _ hkont1 (Nat.le_of_succ_le_succ h) _ _
      | with_reducible exact Le.refl _)

theorem ref06_quoted_mono {n n' : Nat} (hn : n ≤ n') (s1 : Bs) (atx1 : Int) : Le (ref06_quoted n s1 atx1) (ref06_quoted n' s1 atx1) := by
    unfold ref06_quoted
    repeat' (first
      | with_reducible refine Le.bind ?_ (fun _ => ?_)
      | with_reducible refine Le.cond ?_ ?_
      | with_reducible exact ref06_Value_mono hn _
      | with_reducible refine ref06_quoted_L1_mono hn _ (fun _ _ => ?_) hn _ _
      | with_reducible exact Le.refl _)

theorem ref06_sign_L1_mono {n n' : Nat} (hn : n ≤ n') (c1 : Int) {kont1 kont1' : Option Bool} (hkont1 : Le (kont1) (kont1')) : ∀ {m m' : Nat}, m ≤ m' → ∀ (v0 : Int), Le (ref06_sign_L1 n c1 kont1 m v0) (ref06_sign_L1 n' c1 kont1' m' v0)
  | 0, _, _, _ => Le.none _
  | _ + 1, 0, h, _ => absurd h (by omega)
  | m + 1, m' + 1, h, v0 => by
    rw [ref06_sign_L1_s, ref06_sign_L1_s]
    repeat' (first
      | with_reducible refine Le.bind ?_ (fun _ => ?_)
      | with_reducible refine Le.cond ?_ ?_
      | with_reducible exact hkont1
      | with_reducible exact ref06_sign_L1_mono hn _ hkont1 (Nat.le_of_succ_le_succ h) _
      | with_reducible exact Le.refl _)

theorem ref06_sign_mono {n n' : Nat} (hn : n ≤ n') (c1 : Int) : Le (ref06_sign n c1) (ref06_sign n' c1) := by
    unfold ref06_sign
    repeat' (first
      | with_reducible refine Le.bind ?_ (fun _ => ?_)
      | with_reducible refine Le.cond ?_ ?_
      | with_reducible refine ref06_sign_L1_mono hn _ ?_ hn _
      | with_reducible exact Le.refl _)

theorem ref06_token_L1_mono {n n' : Nat} (hn : n ≤ n') (s1 : Bs) {kont1 kont1' : Int → Option (Token × Int × Int)} (hkont1 : ∀ y0, Le (kont1 y0) (kont1' y0)) : ∀ {m m' : Nat}, m ≤ m' → ∀ (v0 : Int), Le (ref06_token_L1 n s1 kont1 m v0) (ref06_token_L1 n' s1 kont1' m' v0)
  | 0, _, _, _ => Le.none _
  | _ + 1, 0, h, _ => absurd h (by omega)
  | m + 1, m' + 1, h, v0 => by
    rw [ref06_token_L1_s, ref06_token_L1_s]
    repeat' (first
      | with_reducible refine Le.bind ?_ (fun _ => ?_)
      | with_reducible refine Le.cond ?_ ?_
      | with_reducible exact hkont1 _
      | with_reducible exact ref06_token_L1_mono hn _ hkont1 (Nat.le_of_succ_le_succ h) _
      | with_reducible exact ref06_letter_mono hn _
      | with_reducible exact ref06_digit_mono hn _
      | with_reducible exact Le.refl _)

theorem ref06_token_L2_mono {n n' : Nat} (hn : n ≤ n') (s1 : Bs) {kont2 kont2' : Int → Option (Token × Int × Int)} (hkont2 : ∀ y0, Le (kont2 y0) (kont2' y0)) : ∀ {m m' : Nat}, m ≤ m' → ∀ (v0 : Int), Le (ref06_token_L2 n s1 kont2 m v0) (ref06_token_L2 n' s1 kont2' m' v0)
  | 0, _, _, _ => Le.none _
  | _ + 1, 0, h, _ => absurd h (by omega)
  | m + 1, m' + 1, h, v0 => by
    rw [ref06_token_L2_s, ref06_token_L2_s]
    repeat' (first
      | with_reducible refine Le.bind ?_ (fun _ => ?_)
      | with_reducible refine Le.cond ?_ ?_
      | with_reducible exact hkont2 _
      | with_reducible exact ref06_token_L2_mono hn _ hkont2 (Nat.le_of_succ_le_succ h) _
      | with_reducible exact ref06_digit_mono hn _
      | with_reducible exact Le.refl _)

theorem ref06_token_mono {n n' : Nat} (hn : n ≤ n') (s1 : Bs) (atx1 : Int) : Le (ref06_token n s1 atx1) (ref06_token n' s1 atx1) := by
    unfold ref06_token
    repeat' (first
      | with_reducible refine Le.bind ?_ (fun _ => ?_)
      | with_reducible refine Le.cond ?_ ?_
      | with_reducible exact ref06_letter_mono hn _
      | with_reducible exact ref06_digit_mono hn _
      | with_reducible exact ref06_Name_mono hn _
      | with_reducible exact ref06_Number_mono hn _
      | with_reducible exact ref06_quoted_mono hn _ _
      | with_reducible exact ref06_sign_mono hn _
      | with_reducible refine ref06_token_L1_mono hn _ (fun _ => ?_) hn _
      | with_reducible refine ref06_token_L2_mono hn _ (fun _ => ?_) hn _
      | with_reducible exact Le.refl _)

theorem ref06_Scan_L1_mono {n n' : Nat} (hn : n ≤ n') (s1 : Bs) {kont1 kont1' : (List Token) → Option ((List Token) × Int × Int)} (hkont1 : ∀ y0, Le (kont1 y0) (kont1' y0)) : ∀ {m m' : Nat}, m ≤ m' → ∀ (v0 : Int) (v1 : Bool) (v2 : (List Token)), Le (ref06_Scan_L1 n s1 kont1 m v0 v1 v2) (ref06_Scan_L1 n' s1 kont1' m' v0 v1 v2)
  | 0, _, _, _, _, _ => Le.none _
  | _ + 1, 0, h, _, _, _ => absurd h (by omega)
  | m + 1, m' + 1, h, v0, v1, v2 => by
    rw [ref06_Scan_L1_s, ref06_Scan_L1_s]
    repeat' (first
      | with_reducible refine Le.bind ?_ (fun _ => ?_)
      | with_reducible refine Le.cond ?_ ?_
      | with_reducible exact hkont1 _
      | with_reducible exact ref06_Scan_L1_mono hn _ hkont1 (Nat.le_of_succ_le_succ h) _ _ _
      | with_reducible exact ref06_Blank_mono hn _
      | with_reducible exact ref06_token_mono hn _ _
      | with_reducible exact Le.refl _)

theorem ref06_Scan_mono {n n' : Nat} (hn : n ≤ n') (s1 : Bs) : Le (ref06_Scan n s1) (ref06_Scan n' s1) := by
    unfold ref06_Scan
    repeat' (first
      | with_reducible refine Le.bind ?_ (fun _ => ?_)
      | with_reducible refine Le.cond ?_ ?_
      | with_reducible refine ref06_Scan_L1_mono hn _ (fun _ => ?_) hn _ _ _
      | with_reducible exact Le.refl _)

theorem ref06_Print_L1_mono {n n' : Nat} (hn : n ≤ n') (l1 : (List Token)) {kont1 kont1' : Bs → Option Bs} (hkont1 : ∀ y0, Le (kont1 y0) (kont1' y0)) : ∀ {m m' : Nat}, m ≤ m' → ∀ (v0 : Bs) (v1 : Int), Le (ref06_Print_L1 n l1 kont1 m v0 v1) (ref06_Print_L1 n' l1 kont1' m' v0 v1)
  | 0, _, _, _, _ => Le.none _
  | _ + 1, 0, h, _, _ => absurd h (by omega)
  | m + 1, m' + 1, h, v0, v1 => by
    rw [ref06_Print_L1_s, ref06_Print_L1_s]
    repeat' (first
      | with_reducible refine Le.bind ?_ (fun _ => ?_)
      | with_reducible refine Le.cond ?_ ?_
      | with_reducible exact hkont1 _
      | with_reducible exact ref06_Print_L1_mono hn _ hkont1 (Nat.le_of_succ_le_succ h) _ _
      | with_reducible exact ref06_Escaped_mono hn _
      | with_reducible exact Le.refl _)

theorem ref06_Print_mono {n n' : Nat} (hn : n ≤ n') (l1 : (List Token)) : Le (ref06_Print n l1) (ref06_Print n' l1) := by
    unfold ref06_Print
    repeat' (first
      | with_reducible refine Le.bind ?_ (fun _ => ?_)
      | with_reducible refine Le.cond ?_ ?_
      | with_reducible refine ref06_Print_L1_mono hn _ (fun _ => ?_) hn _ _
      | with_reducible exact Le.refl _)

theorem ref06_Same_L1_mono {n n' : Nat} (hn : n ≤ n') (ax1 : (List Token)) (b1 : (List Token)) {kont1 kont1' : Option Bool} (hkont1 : Le (kont1) (kont1')) : ∀ {m m' : Nat}, m ≤ m' → ∀ (v0 : Int), Le (ref06_Same_L1 n ax1 b1 kont1 m v0) (ref06_Same_L1 n' ax1 b1 kont1' m' v0)
  | 0, _, _, _ => Le.none _
  | _ + 1, 0, h, _ => absurd h (by omega)
  | m + 1, m' + 1, h, v0 => by
    rw [ref06_Same_L1_s, ref06_Same_L1_s]
    repeat' (first
      | with_reducible refine Le.bind ?_ (fun _ => ?_)
      | with_reducible refine Le.cond ?_ ?_
      | with_reducible exact hkont1
      | with_reducible exact ref06_Same_L1_mono hn _ _ hkont1 (Nat.le_of_succ_le_succ h) _
      | with_reducible exact Le.refl _)

theorem ref06_Same_mono {n n' : Nat} (hn : n ≤ n') (ax1 : (List Token)) (b1 : (List Token)) : Le (ref06_Same n ax1 b1) (ref06_Same n' ax1 b1) := by
    unfold ref06_Same
    repeat' (first
      | with_reducible refine Le.bind ?_ (fun _ => ?_)
      | with_reducible refine Le.cond ?_ ?_
      | with_reducible refine ref06_Same_L1_mono hn _ _ ?_ hn _
      | with_reducible exact Le.refl _)

theorem ref06_Like_L1_mono {n n' : Nat} (hn : n ≤ n') (ax1 : (List Token)) (b1 : (List Token)) {kont1 kont1' : Option Bool} (hkont1 : Le (kont1) (kont1')) : ∀ {m m' : Nat}, m ≤ m' → ∀ (v0 : Int), Le (ref06_Like_L1 n ax1 b1 kont1 m v0) (ref06_Like_L1 n' ax1 b1 kont1' m' v0)
  | 0, _, _, _ => Le.none _
  | _ + 1, 0, h, _ => absurd h (by omega)
  | m + 1, m' + 1, h, v0 => by
    rw [ref06_Like_L1_s, ref06_Like_L1_s]
    repeat' (first
      | with_reducible refine Le.bind ?_ (fun _ => ?_)
      | with_reducible refine Le.cond ?_ ?_
      | with_reducible exact hkont1
      | with_reducible exact ref06_Like_L1_mono hn _ _ hkont1 (Nat.le_of_succ_le_succ h) _
      | with_reducible exact Le.refl _)

theorem ref06_Like_mono {n n' : Nat} (hn : n ≤ n') (ax1 : (List Token)) (b1 : (List Token)) : Le (ref06_Like n ax1 b1) (ref06_Like n' ax1 b1) := by
    unfold ref06_Like
    repeat' (first
      | with_reducible refine Le.bind ?_ (fun _ => ?_)
      | with_reducible refine Le.cond ?_ ?_
      | with_reducible refine ref06_Like_L1_mono hn _ _ ?_ hn _
      | with_reducible exact Le.refl _)

theorem law06_cut_mono {n n' : Nat} (_hn : n ≤ n') (s1 : Bs) : Le (law06_cut n s1) (law06_cut n' s1) := by
    unfold law06_cut
    repeat' (first
      | with_reducible refine Le.bind ?_ (fun _ => ?_)
      | with_reducible refine Le.cond ?_ ?_
      | with_reducible exact Le.refl _)

theorem law06_idle_L1_mono {n n' : Nat} (hn : n ≤ n') (s1 : Bs) {kont1 kont1' : Option Bool} (hkont1 : Le (kont1) (kont1')) : ∀ {m m' : Nat}, m ≤ m' → ∀ (v0 : Bool) (v1 : Int), Le (law06_idle_L1 n s1 kont1 m v0 v1) (law06_idle_L1 n' s1 kont1' m' v0 v1)
  | 0, _, _, _, _ => Le.none _
  | _ + 1, 0, h, _, _ => absurd h (by omega)
  | m + 1, m' + 1, h, v0, v1 => by
    rw [law06_idle_L1_s, law06_idle_L1_s]
    repeat' (first
      | with_reducible refine Le.bind ?_ (fun _ => ?_)
      | with_reducible refine Le.cond ?_ ?_
      | with_reducible exact hkont1
      | with_reducible exact law06_idle_L1_mono hn _ hkont1 (Nat.le_of_succ_le_succ h) _ _
      | with_reducible exact ref06_Blank_mono hn _
      | with_reducible exact Le.refl _)

theorem law06_idle_mono {n n' : Nat} (hn : n ≤ n') (s1 : Bs) : Le (law06_idle n s1) (law06_idle n' s1) := by
    unfold law06_idle
    repeat' (first
      | with_reducible refine Le.bind ?_ (fun _ => ?_)
      | with_reducible refine Le.cond ?_ ?_
      | with_reducible refine law06_idle_L1_mono hn _ ?_ hn _ _
      | with_reducible exact Le.refl _)

theorem law06_sane_mono {n n' : Nat} (hn : n ≤ n') : Le (law06_sane n) (law06_sane n') := by
    unfold law06_sane
    repeat' (first
      | with_reducible refine Le.bind ?_ (fun _ => ?_)
      | with_reducible refine Le.cond ?_ ?_
      | with_reducible exact lexer_Name_mono hn _
      | with_reducible exact lexer_Number_mono hn _
      | with_reducible exact lexer_Scan_mono hn _
      | with_reducible exact lexer_Print_mono hn _
      | with_reducible exact ref06_Same_mono hn _ _
      | with_reducible exact Le.refl _)

theorem law06_LexerBack_mono {n n' : Nat} (hn : n ≤ n') (s1 : Bs) : Le (law06_LexerBack n s1) (law06_LexerBack n' s1) := by
    unfold law06_LexerBack
    repeat' (first
      | with_reducible refine Le.bind ?_ (fun _ => ?_)
      | with_reducible refine Le.cond ?_ ?_
      | with_reducible exact lexer_Scan_mono hn _
      | with_reducible exact lexer_Print_mono hn _
      | with_reducible exact ref06_Like_mono hn _ _
      | with_reducible exact law06_cut_mono hn _
      | with_reducible exact law06_sane_mono hn
      | with_reducible exact Le.refl _)

theorem law06_LexerPlaces_L1_mono {n n' : Nat} (hn : n ≤ n') (v2 : Bs) (v3 : ((List Token) × Int × Int)) {kont1 kont1' : Int → Option Bool} (hkont1 : ∀ y0, Le (kont1 y0) (kont1' y0)) : ∀ {m m' : Nat}, m ≤ m' → ∀ (v0 : Int) (v1 : Int), Le (law06_LexerPlaces_L1 n v2 v3 kont1 m v0 v1) (law06_LexerPlaces_L1 n' v2 v3 kont1' m' v0 v1)
  | 0, _, _, _, _ => Le.none _
  | _ + 1, 0, h, _, _ => absurd h (by omega)
  | m + 1, m' + 1, h, v0, v1 => by
    rw [law06_LexerPlaces_L1_s, law06_LexerPlaces_L1_s]
    repeat' (first
      | with_reducible refine Le.bind ?_ (fun _ => ?_)
      | with_reducible refine Le.cond ?_ ?_
      | with_reducible exact hkont1 _
      | with_reducible exact law06_LexerPlaces_L1_mono hn _ _ hkont1 (Nat.le_of_succ_le_succ h) _ _
      | with_reducible exact ref06_Escaped_mono hn _
      | with_reducible exact law06_idle_mono hn _
      | with_reducible exact Le.refl _)

theorem law06_LexerPlaces_mono {n n' : Nat} (hn : n ≤ n') (s1 : Bs) : Le (law06_LexerPlaces n s1) (law06_LexerPlaces n' s1) := by
    unfold law06_LexerPlaces
    repeat' (first
      | with_reducible refine Le.bind ?_ (fun _ => ?_)
      | with_reducible refine Le.cond ?_ ?_
      | with_reducible exact lexer_Scan_mono hn _
      | with_reducible exact law06_cut_mono hn _
      | with_reducible exact law06_idle_mono hn _
      | with_reducible exact law06_sane_mono hn
      | with_reducible refine law06_LexerPlaces_L1_mono hn _ _ (fun _ => ?_) hn _ _
      | with_reducible exact Le.refl _)

theorem law06_LexerJoins_L1_mono {n n' : Nat} (hn : n ≤ n') (v2 : Bs) (v4 : ((List Token) × Int × Int)) (v5 : ((List Token) × Int × Int)) (v6 : ((List Token) × Int × Int)) {kont1 kont1' : Option Bool} (hkont1 : Le (kont1) (kont1')) : ∀ {m m' : Nat}, m ≤ m' → ∀ (v0 : Int), Le (law06_LexerJoins_L1 n v2 v4 v5 v6 kont1 m v0) (law06_LexerJoins_L1 n' v2 v4 v5 v6 kont1' m' v0)
  | 0, _, _, _ => Le.none _
  | _ + 1, 0, h, _ => absurd h (by omega)
  | m + 1, m' + 1, h, v0 => by
    rw [law06_LexerJoins_L1_s, law06_LexerJoins_L1_s]
    repeat' (first
      | with_reducible refine Le.bind ?_ (fun _ => ?_)
      | with_reducible refine Le.cond ?_ ?_
      | with_reducible exact hkont1
      | with_reducible exact law06_LexerJoins_L1_mono hn _ _ _ _ hkont1 (Nat.le_of_succ_le_succ h) _
      | with_reducible exact Le.refl _)

theorem law06_LexerJoins_mono {n n' : Nat} (hn : n ≤ n') (s1 : Bs) (t1 : Bs) : Le (law06_LexerJoins n s1 t1) (law06_LexerJoins n' s1 t1) := by
    unfold law06_LexerJoins
    repeat' (first
      | with_reducible refine Le.bind ?_ (fun _ => ?_)
      | with_reducible refine Le.cond ?_ ?_
      | with_reducible exact lexer_Scan_mono hn _
      | with_reducible exact law06_cut_mono hn _
      | with_reducible exact law06_sane_mono hn
      | with_reducible refine law06_LexerJoins_L1_mono hn _ _ _ _ ?_ hn _
      | with_reducible exact Le.refl _)

theorem law06_LexerTells_L1_mono {n n' : Nat} (hn : n ≤ n') (l1 : (List Token)) (v1 : Bool) {kont1 kont1' : Option Bool} (hkont1 : Le (kont1) (kont1')) : ∀ {m m' : Nat}, m ≤ m' → ∀ (v0 : Int), Le (law06_LexerTells_L1 n l1 v1 kont1 m v0) (law06_LexerTells_L1 n' l1 v1 kont1' m' v0)
  | 0, _, _, _ => Le.none _
  | _ + 1, 0, h, _ => absurd h (by omega)
  | m + 1, m' + 1, h, v0 => by
    rw [law06_LexerTells_L1_s, law06_LexerTells_L1_s]
    repeat' (first
      | with_reducible refine Le.bind ?_ (fun _ => ?_)
      | with_reducible refine Le.cond ?_ ?_
      | with_reducible exact hkont1
      | with_reducible exact law06_LexerTells_L1_mono hn _ _ hkont1 (Nat.le_of_succ_le_succ h) _
      | with_reducible exact Le.refl _)

theorem law06_LexerTells_mono {n n' : Nat} (hn : n ≤ n') (s1 : Bs) (l1 : (List Token)) : Le (law06_LexerTells n s1 l1) (law06_LexerTells n' s1 l1) := by
    unfold law06_LexerTells
    repeat' (first
      | with_reducible refine Le.bind ?_ (fun _ => ?_)
      | with_reducible refine Le.cond ?_ ?_
      | with_reducible exact lexer_Name_mono hn _
      | with_reducible exact lexer_Number_mono hn _
      | with_reducible exact lexer_Scan_mono hn _
      | with_reducible exact lexer_Quote_mono hn _
      | with_reducible exact lexer_Print_mono hn _
      | with_reducible exact ref06_Name_mono hn _
      | with_reducible exact ref06_Number_mono hn _
      | with_reducible exact ref06_Quote_mono hn _
      | with_reducible exact ref06_Scan_mono hn _
      | with_reducible exact ref06_Print_mono hn _
      | with_reducible exact ref06_Same_mono hn _ _
      | with_reducible exact law06_cut_mono hn _
      | with_reducible exact law06_sane_mono hn
      | with_reducible refine law06_LexerTells_L1_mono hn _ _ ?_ hn _
      | with_reducible exact Le.refl _)

theorem law06_LexerQuotes_L1_mono {n n' : Nat} (hn : n ≤ n') (v2 : Bs) {kont1 kont1' : Bool → Option Bool} (hkont1 : ∀ y0, Le (kont1 y0) (kont1' y0)) : ∀ {m m' : Nat}, m ≤ m' → ∀ (v0 : Bool) (v1 : Int), Le (law06_LexerQuotes_L1 n v2 kont1 m v0 v1) (law06_LexerQuotes_L1 n' v2 kont1' m' v0 v1)
  | 0, _, _, _, _ => Le.none _
  | _ + 1, 0, h, _, _ => absurd h (by omega)
  | m + 1, m' + 1, h, v0, v1 => by
    rw [law06_LexerQuotes_L1_s, law06_LexerQuotes_L1_s]
    repeat' (first
      | with_reducible refine Le.bind ?_ (fun _ => ?_)
      | with_reducible refine Le.cond ?_ ?_
      | with_reducible exact hkont1 _
      | with_reducible exact law06_LexerQuotes_L1_mono hn _ hkont1 (Nat.le_of_succ_le_succ h) _ _
      | with_reducible exact Le.refl _)

theorem law06_LexerQuotes_mono {n n' : Nat} (hn : n ≤ n') (s1 : Bs) : Le (law06_LexerQuotes n s1) (law06_LexerQuotes n' s1) := by
    unfold law06_LexerQuotes
    repeat' (first
      | with_reducible refine Le.bind ?_ (fun _ => ?_)
      | with_reducible refine Le.cond ?_ ?_
      | with_reducible exact lexer_Name_mono hn _
      | with_reducible exact lexer_Number_mono hn _
      | with_reducible exact lexer_Scan_mono hn _
      | with_reducible exact lexer_Quote_mono hn _
      | with_reducible exact law06_cut_mono hn _
      | with_reducible exact law06_sane_mono hn
      | with_reducible refine law06_LexerQuotes_L1_mono hn _ (fun _ => ?_) hn _ _
      | with_reducible exact Le.refl _)

theorem law06_LexerErrors_L1_mono {n n' : Nat} (hn : n ≤ n') {kont1 kont1' : Bs → Option Bool} (hkont1 : ∀ y0, Le (kont1 y0) (kont1' y0)) : ∀ {m m' : Nat}, m ≤ m' → ∀ (v0 : Bs), Le (law06_LexerErrors_L1 n kont1 m v0) (law06_LexerErrors_L1 n' kont1' m' v0)
  | 0, _, _, _ => Le.none _
  | _ + 1, 0, h, _ => absurd h (by omega)
  | m + 1, m' + 1, h, v0 => by
    rw [law06_LexerErrors_L1_s, law06_LexerErrors_L1_s]
    repeat' (first
      | with_reducible refine Le.bind ?_ (fun _ => ?_)
      | with_reducible refine Le.cond ?_ ?_
      | with_reducible exact hkont1 _
      | with_reducible exact law06_LexerErrors_L1_mono hn hkont1 (Nat.le_of_succ_le_succ h) _
      | with_reducible exact Le.refl _)

theorem law06_LexerErrors_mono {n n' : Nat} (hn : n ≤ n') (s1 : Bs) (full1 : Bool) : Le (law06_LexerErrors n s1 full1) (law06_LexerErrors n' s1 full1) := by
    unfold law06_LexerErrors
    repeat' (first
      | with_reducible refine Le.bind ?_ (fun _ => ?_)
      | with_reducible refine Le.cond ?_ ?_
      | with_reducible exact lexer_Scan_mono hn _
      | with_reducible exact law06_cut_mono hn _
      | with_reducible exact law06_sane_mono hn
      | with_reducible refine law06_LexerErrors_L1_mono hn (fun _ => ?_) hn _
      | with_reducible exact Le.refl _)

end Go.Proofs.YtaibejlploombaaDoor.M
