/-
  THE LAW BigOrder, as arithmetic.
-/
import Derived.Test.YtaiiclbemlmmaaaDoorBigV
import Derived.Test.YtaiiclbemlmmaaaDoorMirD4
namespace Go.Proofs.YtaiiclbemlmmaaaDoor.D
open Go Rt M

theorem order_ev (a b c : Big) : Ev (fun n => law04_BigOrder n a b c) true := by
  unfold law04_BigOrder
  refine Ev.bind small_ev ?_
  refine Ev.bind (few_ev a 25) ?_
  refine or_any (fun _ => few_ev b 25) ?_
  refine or_any (fun _ => few_ev c 25) ?_
  refine or_any (fun h => Right_ev (a := a) (by simp only [Bool.or_eq_false_iff, Bool.not_eq_false', decide_eq_true_eq] at h; omega)) ?_
  refine or_any (fun h => Right_ev (a := b) (by simp only [Bool.or_eq_false_iff, Bool.not_eq_false', decide_eq_true_eq] at h; omega)) ?_
  refine or_any (fun h => Right_ev (a := c) (by simp only [Bool.or_eq_false_iff, Bool.not_eq_false', decide_eq_true_eq] at h; omega)) ?_
  refine guard fun hV => ?_
  simp only [Bool.or_eq_false_iff, Bool.not_eq_false'] at hV
  obtain ⟨⟨⟨⟨⟨g1, g2⟩, g3⟩, g4⟩, g5⟩, g6⟩ := hV
  obtain ⟨x, rfl, hx⟩ := num_of (k := 25) g1 g4
  obtain ⟨y, rfl, hy⟩ := num_of (k := 25) g2 g5
  obtain ⟨z, rfl, hz⟩ := num_of (k := 25) g3 g6
  clear g1 g2 g3 g4 g5 g6
  have M : ∀ {k v}, Sm k v → k ≤ 99 → Sm 99 v := fun h hk => h.mono hk
  have x9 := M hx (by omega)
  have y9 := M hy (by omega)
  have z9 := M hz (by omega)
  have xz9 := M (hx.add hz) (by omega)
  have yz9 := M (hy.add hz) (by omega)
  have pxz := M (hx.mul hz) (by omega)
  have pyz := M (hy.mul hz) (by omega)
  refine Ev.bind (Compare_ev x9 y9 (by omega)) ?_
  refine Ev.bind (Sub_ev x9 y9 (by omega)) ?_
  refine Ev.bind (Add_ev x9 z9 (by omega)) ?_
  refine Ev.bind (Add_ev y9 z9 (by omega)) ?_
  refine Ev.bind (Mul_ev x9 z9 (by omega)) ?_
  refine Ev.bind (Mul_ev y9 z9 (by omega)) ?_
  refine or_pure rfl rfl ?_; refine or_pure rfl rfl ?_; refine or_pure rfl rfl ?_; refine or_pure rfl rfl ?_
  refine Ev.else rfl ?_
  refine Ev.bind (Same_toB (y := y) x9 (by omega)) ?_
  refine or_callE (g := fun v => v != IntKind.i64.wrap (0 - sg (x - y))) ?_ (Compare_ev y9 x9 (by omega)) ?_ ?_
  · rw [sg_zero_iff]
    have : decide (x - y = 0) = decide (x = y) := by congr 1; exact propext ⟨fun h => by omega, fun h => by omega⟩
    rw [this]; simp
  · have h1 := sg_range (x - y)
    have h2 := sg_neg' (x - y)
    rw [wrap_i64 (by omega) (by omega), show y - x = -(x - y) by omega, h2]
    simp
  refine or_pure rfl (by show (sg (x - y) != sg (x - y)) = false; simp) ?_
  refine or_callE (g := fun v => v != sg (x - y)) rfl (Compare_ev xz9 yz9 (by omega)) (by rw [show x + z - (y + z) = x - y by omega]; simp) ?_
  refine or_callE (g := fun v => v != imul .i64 (sg (x - y)) (sg z)) rfl (Compare_ev pxz pyz (by omega)) (by rw [← Int.sub_mul, sg_mul, imul_i64 (by rw [← sg_mul]; have := sg_range ((x - y) * z); omega) (by rw [← sg_mul]; have := sg_range ((x - y) * z); omega)]; simp) ?_
  refine Ev.else rfl ?_
  refine Ev.bind (a := true) (Ev.then rfl ?_) (Ev.pure _)
  by_cases h1 : 0 < x - y
  · refine Ev.bind (a := true) (Ev.then (by rw [sg_pos h1]; rfl) (Ev.pure _)) ?_
    exact Ev.bind (Ev.then rfl (Ev.pure _)) (Ev.pure _)
  · have h1' : decide (0 < sg (x - y)) = false := by rcases sg_cases (x - y) with h | h | h <;> rw [h.2] <;> simp <;> omega
    by_cases h2 : 0 < y - z
    · refine Ev.bind (a := true) (Ev.else h1' (Ev.bind (Compare_ev y9 z9 (by omega)) ((Ev.pure _).eq (by rw [sg_pos h2]; rfl)))) ?_
      exact Ev.bind (Ev.then rfl (Ev.pure _)) (Ev.pure _)
    · refine Ev.bind (a := false) (Ev.else h1' (Ev.bind (Compare_ev y9 z9 (by omega)) ((Ev.pure _).eq (by rcases sg_cases (y - z) with h | h | h <;> rw [h.2] <;> simp <;> omega)))) ?_
      refine Ev.bind (a := true) (Ev.else rfl (Ev.bind (Compare_ev x9 z9 (by omega)) ((Ev.pure _).eq ?_))) (Ev.pure _)
      rcases sg_cases (x - z) with h | h | h <;> rw [h.2] <;> simp <;> omega
end Go.Proofs.YtaiiclbemlmmaaaDoor.D
