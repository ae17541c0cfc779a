/-
  THE LAW BigRing, as arithmetic.
-/
import Derived.Test.YtaiiclbemlmmaaaDoorBigV
import Derived.Test.YtaiiclbemlmmaaaDoorMirD3
namespace Go.Proofs.YtaiiclbemlmmaaaDoor.D
open Go Rt M

theorem ring_ev (a b c : Big) : Ev (fun n => law04_BigRing n a b c) true := by
  unfold law04_BigRing
  refine Ev.bind small_ev ?_
  refine Ev.bind (few_ev a 25) ?_
  refine or_any (fun _ => few_ev b 25) ?_
  refine or_any (fun _ => few_ev c 25) ?_
  refine or_any (fun h => Right_ev (a := a) (by simp only [Bool.or_eq_false_iff, Bool.not_eq_false', decide_eq_true_eq] at h; omega)) ?_
  refine or_any (fun h => Right_ev (a := b) (by simp only [Bool.or_eq_false_iff, Bool.not_eq_false', decide_eq_true_eq] at h; omega)) ?_
  refine or_any (fun h => Right_ev (a := c) (by simp only [Bool.or_eq_false_iff, Bool.not_eq_false', decide_eq_true_eq] at h; omega)) ?_
  refine guard fun hV => ?_
  simp only [Bool.or_eq_false_iff, Bool.not_eq_false'] at hV
  obtain ⟨⟨⟨⟨⟨g1, g2⟩, g3⟩, g4⟩, g5⟩, g6⟩ := hV
  obtain ⟨x, rfl, hx⟩ := num_of (k := 25) g1 g4
  obtain ⟨y, rfl, hy⟩ := num_of (k := 25) g2 g5
  obtain ⟨z, rfl, hz⟩ := num_of (k := 25) g3 g6
  clear g1 g2 g3 g4 g5 g6
  have M : ∀ {k v}, Sm k v → k ≤ 99 → Sm 99 v := fun h hk => h.mono hk
  have x9 := M hx (by omega)
  have y9 := M hy (by omega)
  have z9 := M hz (by omega)
  have xy9 := M (hx.add hy) (by omega)
  have yz9 := M (hy.add hz) (by omega)
  refine Ev.bind (Add_ev x9 y9 (by omega)) ?_
  refine Ev.bind (Add_ev y9 x9 (by omega)) ?_
  refine Ev.bind (Add_ev y9 z9 (by omega)) ?_
  refine Ev.bind (Add_ev xy9 z9 (by omega)) ?_
  refine Ev.bind (Add_ev x9 yz9 (by omega)) ?_
  refine or_pure rfl rfl ?_; refine or_pure rfl rfl ?_; refine or_pure rfl rfl ?_; refine or_pure rfl rfl ?_
  refine or_call rfl (RSame_yes xy9 (by omega) (Int.add_comm x y)) ?_
  refine or_call rfl (RSame_yes (xy9.add z9) (by omega) (Int.add_assoc x y z)) ?_
  refine Ev.else rfl ?_
  have pxy := M (hx.mul hy) (by omega)
  have pyx := M (hy.mul hx) (by omega)
  have pyz := M (hy.mul hz) (by omega)
  have pxz := M (hx.mul hz) (by omega)
  have pxyz := M ((hx.mul hy).mul hz) (by omega)
  refine Ev.bind (Mul_ev x9 y9 (by omega)) ?_
  refine Ev.bind (Mul_ev y9 x9 (by omega)) ?_
  refine Ev.bind (Mul_ev y9 z9 (by omega)) ?_
  refine Ev.bind (Mul_ev pxy z9 (by omega)) ?_
  refine Ev.bind (Mul_ev x9 pyz (by omega)) ?_
  refine or_pure rfl rfl ?_; refine or_pure rfl rfl ?_; refine or_pure rfl rfl ?_; refine or_pure rfl rfl ?_
  refine or_call rfl (RSame_yes pxy (by omega) (Int.mul_comm x y)) ?_
  refine or_call rfl (RSame_yes pxyz (by omega) (Int.mul_assoc x y z)) ?_
  refine Ev.else rfl ?_
  have pxs := M (hx.mul (hy.add hz)) (by omega)
  have dxy := M (hx.sub hy) (by omega)
  refine Ev.bind (Mul_ev x9 yz9 (by omega)) ?_
  refine Ev.bind (Mul_ev x9 z9 (by omega)) ?_
  refine Ev.bind (Add_ev pxy pxz (by omega)) ?_
  refine Ev.bind (Sub_ev x9 y9 (by omega)) ?_
  refine Ev.bind (Add_ev dxy y9 (by omega)) ?_
  refine or_pure rfl rfl ?_; refine or_pure rfl rfl ?_; refine or_pure rfl rfl ?_; refine or_pure rfl rfl ?_
  refine or_call rfl (RSame_yes pxs (by omega) (Int.mul_add x y z)) ?_
  refine or_call rfl (RSame_yes (dxy.add y9) (by omega) (by omega)) ?_
  refine Ev.else rfl ?_
  have s0 : Sm 99 0 := Sm.mono (k := 1) (by unfold Sm; decide) (by omega)
  have s1 : Sm 99 1 := Sm.mono (k := 1) (by unfold Sm; decide) (by omega)
  refine Ev.bind (Ev.bind Of0_ev (Ev.bind (Add_ev x9 s0 (by omega)) (Ev.pure _))) ?_
  refine Ev.bind (Ev.bind Of1_ev (Ev.bind (Mul_ev x9 s1 (by omega)) (Ev.pure _))) ?_
  refine Ev.bind (Ev.bind Of0_ev (Ev.bind (Mul_ev x9 s0 (by omega)) (Ev.pure _))) ?_
  refine and_pure rfl rfl ?_; refine and_pure rfl rfl ?_; refine and_pure rfl rfl ?_
  refine and_call rfl (RSame_yes (x9.add s0) (by omega) (Int.add_zero x)) ?_
  refine and_call rfl (RSame_yes (by rw [Int.mul_one]; exact x9) (by omega) (Int.mul_one x)) ?_
  refine and_call rfl (by rw [← toB_zero]; exact RSame_yes (by rw [Int.mul_zero]; exact s0) (by omega) (Int.mul_zero x)) ?_
  exact Ev.pure _

end Go.Proofs.YtaiiclbemlmmaaaDoor.D
