/-
  THE LAW FracField, in plain Lean: the mirrored law is true at all arguments.
-/
import Derived.Test.YtaanocaobllohaaGreatDoorFrS
import Derived.Test.YtaanocaobllohaaGreatDoorMirD1
namespace Go.Proofs.YtaanocaobllohaaGreatDoor.D
open Go Rt M

theorem field_ev (a b c : Frac) : Ev (fun n => law05_FracField n a b c) true := by
  unfold law05_FracField
  refine Ev.bind small05 ?_
  refine Ev.bind (few05 a 12) ?_
  refine or_any (fun _ => few05 b 12) ?_
  refine or_any (fun _ => few05 c 12) ?_
  refine or_any (d := rightf a) (fun h => ?_) ?_
  · simp only [Bool.or_eq_false_iff, Bool.not_eq_false'] at h
    have h1 := few05_len (k := 12) h.1.1
    exact FRight_ev (f := a) h1.1 h1.2 (by decide)
  refine or_any (d := rightf b) (fun h => ?_) ?_
  · simp only [Bool.or_eq_false_iff, Bool.not_eq_false'] at h
    have h1 := few05_len (k := 12) h.1.1.2
    exact FRight_ev (f := b) h1.1 h1.2 (by decide)
  refine or_any (d := rightf c) (fun h => ?_) ?_
  · simp only [Bool.or_eq_false_iff, Bool.not_eq_false'] at h
    have h1 := few05_len (k := 12) h.1.1.2
    exact FRight_ev (f := c) h1.1 h1.2 (by decide)
  refine guard fun hV => ?_
  simp only [Bool.or_eq_false_iff, Bool.not_eq_false'] at hV
  obtain ⟨⟨⟨⟨⟨g1, g2⟩, g3⟩, g4⟩, g5⟩, g6⟩ := hV
  obtain ⟨x, rfl, hx⟩ := rat_of (few05_len (k := 12) g1) g4
  obtain ⟨y, rfl, hy⟩ := rat_of (few05_len (k := 12) g2) g5
  obtain ⟨z, rfl, hz⟩ := rat_of (few05_len (k := 12) g3) g6
  clear g1 g2 g3 g4 g5 g6
  have hxy : SmF 25 (x + y) := (hx.add hy).mono (by decide)
  have hyx : SmF 25 (y + x) := (hy.add hx).mono (by decide)
  have hyz : SmF 25 (y + z) := (hy.add hz).mono (by decide)
  have h1 : SmF 38 (x + y + z) := (hxy.add hz).mono (by decide)
  have h2 : SmF 38 (x + (y + z)) := (hx.add hyz).mono (by decide)
  refine Ev.bind (FAdd_ev hx hy (by decide)) (Ev.bind (LRight hxy (by decide)) ?_)
  refine Ev.bind (FAdd_ev hy hx (by decide)) (Ev.bind (LRight hyx (by decide)) ?_)
  refine Ev.bind (FAdd_ev hy hz (by decide)) (Ev.bind (LRight hyz (by decide)) ?_)
  refine Ev.bind (FAdd_ev hxy hz (by decide)) (Ev.bind (LRight h1 (by decide)) ?_)
  refine Ev.bind (FAdd_ev hx hyz (by decide)) (Ev.bind (LRight h2 (by decide)) ?_)
  refine or_pure rfl rfl (or_pure rfl rfl (or_pure rfl rfl (or_pure rfl rfl ?_)))
  refine or_call rfl (FQSame_yes hxy (by decide) (Rat.add_comm x y)) ?_
  refine or_call rfl (FQSame_yes h1 (by decide) (Rat.add_assoc x y z)) ?_
  refine Ev.else rfl ?_
  have pxy : SmF 24 (x * y) := (hx.mul hy).mono (by decide)
  have pyx : SmF 24 (y * x) := (hy.mul hx).mono (by decide)
  have pyz : SmF 24 (y * z) := (hy.mul hz).mono (by decide)
  have p1 : SmF 36 (x * y * z) := (pxy.mul hz).mono (by decide)
  have p2 : SmF 36 (x * (y * z)) := (hx.mul pyz).mono (by decide)
  refine Ev.bind (FMul_ev hx hy (by decide)) (Ev.bind (LRight pxy (by decide)) ?_)
  refine Ev.bind (FMul_ev hy hx (by decide)) (Ev.bind (LRight pyx (by decide)) ?_)
  refine Ev.bind (FMul_ev hy hz (by decide)) (Ev.bind (LRight pyz (by decide)) ?_)
  refine Ev.bind (FMul_ev pxy hz (by decide)) (Ev.bind (LRight p1 (by decide)) ?_)
  refine Ev.bind (FMul_ev hx pyz (by decide)) (Ev.bind (LRight p2 (by decide)) ?_)
  refine or_pure rfl rfl (or_pure rfl rfl (or_pure rfl rfl (or_pure rfl rfl ?_)))
  refine or_call rfl (FQSame_yes pxy (by decide) (Rat.mul_comm x y)) ?_
  refine or_call rfl (FQSame_yes p1 (by decide) (Rat.mul_assoc x y z)) ?_
  refine Ev.else rfl ?_
  have pxz : SmF 24 (x * z) := (hx.mul hz).mono (by decide)
  have q1 : SmF 37 ((x + y) * z) := (hxy.mul hz).mono (by decide)
  have q2 : SmF 49 (x * z + y * z) := (pxz.add pyz).mono (by decide)
  have s0 : SmF 1 (Rat.divInt 0 1) := SmF_divInt (sm01 (by decide) (by decide) (by decide)) (sm01 (by decide) (by decide) (by decide)) (by decide)
  have s1 : SmF 1 (Rat.divInt 1 1) := SmF_divInt (sm01 (by decide) (by decide) (by decide)) (sm01 (by decide) (by decide) (by decide)) (by decide)
  have x0 : SmF 14 (x + Rat.divInt 0 1) := (hx.add s0).mono (by decide)
  have x1 : SmF 13 (x * Rat.divInt 1 1) := (hx.mul s1).mono (by decide)
  refine Ev.bind (FMul_ev hx hz (by decide)) (Ev.bind (LRight pxz (by decide)) ?_)
  refine Ev.bind (FMul_ev hxy hz (by decide)) (Ev.bind (LRight q1 (by decide)) ?_)
  refine Ev.bind (FAdd_ev pxz pyz (by decide)) (Ev.bind (LRight q2 (by decide)) ?_)
  refine Ev.bind (Ev.bind (Lof (by decide) (by decide) (by decide) (by decide) (by decide)) (Ev.bind (FAdd_ev hx s0 (by decide)) (Ev.bind (LRight x0 (by decide)) (Ev.pure _)))) ?_
  refine Ev.bind (Ev.bind (Lof (by decide) (by decide) (by decide) (by decide) (by decide)) (Ev.bind (FMul_ev hx s1 (by decide)) (Ev.bind (LRight x1 (by decide)) (Ev.pure _)))) ?_
  refine or_pure rfl rfl (or_pure rfl rfl (or_pure rfl rfl (or_pure rfl rfl ?_)))
  refine or_call rfl (FQSame_yes q1 (by decide) (Rat.add_mul x y z)) ?_
  refine or_call rfl (FQSame_yes x0 (by decide) (by rw [rat01, Rat.add_zero])) ?_
  refine or_call rfl (FQSame_yes x1 (by decide) (by rw [rat11, Rat.mul_one])) ?_
  refine Ev.else rfl ?_
  have d1 : SmF 38 (x + y - y) := (hxy.sub hy).mono (by decide)
  refine Ev.bind (FSub_ev hxy hy (by decide)) (Ev.bind (LRight d1 (by decide)) ?_)
  by_cases h0 : y.num = 0
  · refine Ev.bind (FDiv_zero pxy hy (by decide) h0) ?_
    refine and_pure rfl rfl ?_
    refine and_call rfl (FQSame_yes d1 (by decide) (by grind)) ?_
    refine and_pure rfl (by show ((14 : Int) == 14) == (sg y.num == 0); rw [h0]; rfl) ?_
    exact and_call rfl (Ev.then (by show (sg y.num == 0) = true; rw [h0]; rfl) (Ev.pure _)) (Ev.pure _)
  · have hy0 : y ≠ 0 := fun e => h0 (Rat.num_eq_zero.2 e)
    have e0 : (sg y.num == 0) = false := by rw [sg_zero_iff]; simpa using h0
    have p4 : SmF 36 (x * y / y) := by
      rw [rat_div]
      exact SmF_divInt ((pxy.1.mul hy.2).mono (by decide)) ((pxy.2.mul hy.1).mono (by decide)) (mul_ne (den_ne _) h0)
    refine Ev.bind (FDiv_ev pxy hy (by decide) h0) ?_
    refine and_pure rfl rfl ?_
    refine and_call rfl (FQSame_yes d1 (by decide) (by grind)) ?_
    refine and_pure rfl (by show ((0 : Int) == 14) == (sg y.num == 0); rw [e0]; rfl) ?_
    exact and_call rfl (Ev.else e0 (Ev.bind (Ev.then rfl (Ev.bind (FQSame_yes p4 (by decide) (Rat.mul_div_cancel hy0)) (Ev.pure _))) (Ev.pure _))) (Ev.pure _)
end Go.Proofs.YtaanocaobllohaaGreatDoor.D
