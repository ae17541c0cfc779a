/-
  THE LAW BigInts, as arithmetic.
-/
import Derived.Test.YtaiiclbemlmmaaaDoorBigV
import Derived.Test.YtaiiclbemlmmaaaDoorBigY
import Derived.Test.YtaiiclbemlmmaaaDoorMirD5
namespace Go.Proofs.YtaiiclbemlmmaaaDoor.D
open Go Rt M

theorem sm4 {x : Int} (h1 : -9223372036854775808 ≤ x) (h2 : x ≤ 9223372036854775807) : Sm 4 x := by
  unfold Sm; rw [show pw 4 = 1208925819614629174706176 by decide]; omega
theorem and_step {β : Type} {r : β} {c d : Bool} {f : Nat → Bool → Option β} (hf : Ev (fun n => f n (c && d)) r) : Ev (fun n => (bif c then some d else some false).bind (f n)) r := by
  cases c <;> exact hf
theorem ev_cases {β : Type} {r : β} {V : Bool} {f g : Nat → Option β} (h1 : V = true → Ev f r) (h2 : V = false → Ev g r) : Ev (fun n => bif V then f n else g n) r := by
  cases V with
  | true => exact Ev.then rfl (h1 rfl)
  | false => exact Ev.else rfl (h2 rfl)
theorem ints_ev (x y : Int) (hx1 : -9223372036854775808 ≤ x) (hx2 : x ≤ 9223372036854775807) (hy1 : -9223372036854775808 ≤ y) (hy2 : y ≤ 9223372036854775807) : Ev (fun n => law04_BigInts n x y) true := by
  have x4 := sm4 hx1 hx2
  have y4 := sm4 hy1 hy2
  unfold law04_BigInts
  refine Ev.bind small_ev ?_
  refine Ev.bind (Of_ev hx1 hx2) ?_
  refine Ev.bind (Of_ev hy1 hy2) ?_
  refine Ev.bind ((Int_ev x4 (by omega)).eq (if_pos ⟨hx1, hx2⟩)) ?_
  refine Ev.bind (Neg_ev x4 (by omega)) ?_
  refine Ev.bind (Int_ev x4.neg (by omega)) ?_
  refine Ev.bind (Right_toB x4 (by omega)) ?_
  refine or_pure rfl rfl ?_
  refine or_pure rfl (by simp) ?_
  refine or_pure rfl ?_ ?_
  · by_cases h : x = -9223372036854775808
    · subst h; rfl
    · rw [if_pos ⟨by omega, by omega⟩]; simp [h]
  refine Ev.bind (a := false) (Ev.else rfl (Ev.bind (a := false) ?_ (Ev.pure _))) ?_
  · by_cases h : x = -9223372036854775808
    · subst h; exact Ev.pure _
    · rw [if_pos ⟨by omega, by omega⟩]
      refine Ev.then rfl ((Ev.pure _).eq ?_)
      rw [wrap_i64 (by omega) (by omega)]; simp
  refine Ev.bind (a := false) (Ev.else rfl (Ev.bind (Text_ev x4 (by omega)) (Ev.bind (Text_ev y4 (by omega)) ((Ev.pure _).eq ?_)))) ?_
  · by_cases h : x = y
    · subst h; simp
    · have : txt x ≠ txt y := fun e => h (txt_inj e)
      rw [show (txt x == txt y) = false from beq_false_of_ne this, show (x == y) = false from beq_false_of_ne h]; rfl
  refine Ev.else rfl ?_
  refine Ev.bind (a := if x < y then -1 else 0) ?_ ?_
  · by_cases h : x < y
    · rw [if_pos h]; exact Ev.then (by simpa using h) (Ev.pure _)
    · rw [if_neg h]; exact Ev.else (by simpa using h) (Ev.pure _)
  refine Ev.bind (a := sg (x - y)) ?_ ?_
  · by_cases h : y < x
    · rw [sg_pos (by omega)]; exact Ev.then (by simpa using h) (Ev.pure _)
    · refine Ev.else (by simpa using h) ((Ev.pure _).eq ?_)
      by_cases h2 : x < y
      · rw [if_pos h2, sg_neg (by omega)]
      · rw [if_neg h2, show x - y = 0 by omega]; rfl
  refine Ev.bind (Add_ev x4 y4 (by omega)) ?_
  refine Ev.bind (Sub_ev x4 y4 (by omega)) ?_
  refine Ev.bind (Mul_ev x4 y4 (by omega)) ?_
  refine or_pure rfl rfl ?_; refine or_pure rfl rfl ?_
  refine or_callE (g := fun v => v != sg (x - y)) rfl (Compare_ev x4 y4 (by omega)) (by simp) ?_
  refine Ev.else rfl ?_
  refine and_step ?_
  refine and_step ?_
  refine and_step ?_
  refine ev_cases (fun hV => ?_) (fun _ => Ev.pure _)
  rw [wrap_i64 (by omega) (by omega)] at hV
  simp only [Bool.and_eq_true, decide_eq_true_eq] at hV
  obtain ⟨⟨⟨b1, b2⟩, b3⟩, b4⟩ := hV
  have hm := Nat.mul_le_mul (show x.natAbs ≤ 1073741824 by omega) (show y.natAbs ≤ 1073741824 by omega)
  rw [← Int.natAbs_mul] at hm
  have hp : -1152921504606846976 ≤ x * y ∧ x * y ≤ 1152921504606846976 := by omega
  refine Ev.bind ((Int_ev (x4.add y4) (by omega)).eq (if_pos ⟨by omega, by omega⟩)) ?_
  refine Ev.bind ((Int_ev (x4.sub y4) (by omega)).eq (if_pos ⟨by omega, by omega⟩)) ?_
  refine Ev.bind ((Int_ev (x4.mul y4) (by omega)).eq (if_pos ⟨by omega, by omega⟩)) ?_
  refine and_pure rfl rfl ?_; refine and_pure rfl rfl ?_; refine and_pure rfl rfl ?_
  refine and_pure rfl (by rw [iadd_i64 (by omega) (by omega)]; simp) ?_
  refine and_pure rfl (by rw [isub_i64 (by omega) (by omega)]; simp) ?_
  refine and_pure rfl (by rw [imul_i64 (by omega) (by omega)]; simp) ?_
  exact Ev.pure _
theorem wf64 {x : Int} (h : (Lit.int .i64 x).wf = true) : -9223372036854775808 ≤ x ∧ x ≤ 9223372036854775807 := by
  have h2 : IntKind.i64.min ≤ x ∧ x ≤ IntKind.i64.max := by simpa [Lit.wf] using h
  rw [show IntKind.i64.min = -9223372036854775808 by decide, show IntKind.i64.max = 9223372036854775807 by decide] at h2
  exact h2
theorem ints_ev' (x y : Int) (hx : (Lit.int .i64 x).wf = true) (hy : (Lit.int .i64 y).wf = true) : Ev (fun n => law04_BigInts n x y) true := ints_ev x y (wf64 hx).1 (wf64 hx).2 (wf64 hy).1 (wf64 hy).2
end Go.Proofs.YtaiiclbemlmmaaaDoor.D
