/- Several texts in one, for FeeSmooth.said: what the theorem leans on. -/
import Derived.Test.YtknpjecpcmajiaaGreatRows
import Derived.Test.YtknpjecpcmajiaaGreatPs1
namespace Go.Proofs.YtknpjecpcmajiaaGreat.M
open Go Go.RowKit Rt
def a8i (_n : Nat) (c1 : Int) : Option Bool :=
 (bif decide (97 ≤ c1) then
  some (decide (c1 ≤ 122))
 else
  some false).bind fun v1 =>
 (bif v1 then
  some true
 else
  (bif decide (65 ≤ c1) then
   some (decide (c1 ≤ 90))
  else
   some false).bind fun v3 =>
  some v3).bind fun v2 =>
 some v2
set_option maxHeartbeats 1000000 in
set_option maxRecDepth 1000000 in
theorem b2q (n : Nat) (c1 : Int) (r : Bool) (hm : a8i n c1 = some r) {w : World}  :
  Calls Tryz.prog 125 #[.int .u8 c1] w fun e w' => e = .returned (.bool r) ∧ w' = w := by
 unfold a8i at hm
 refine a1a 17 Tryz.func125 rfl rfl rfl ?_
 refine a0f (a0a (a0b rfl rfl rfl (a0c (a0d (a0f (a0a (a0e rfl rfl rfl ?_)))))))
 refine a0u rfl rfl rfl rfl rfl ?_
 refine a0e rfl rfl rfl ?_
 obtain ⟨v1, hb1, hm⟩ := bind_some hm
 refine a2r 3 (fun a w' => w = w' ∧ Has 17 a [(0, .int .u8 c1), (8, .bool v1)]) ?_ ?_
 ·rintro a wx1 ⟨rfl, hax1⟩
  refine a1f hax1 ?_
  refine a0e rfl rfl rfl ?_
  obtain ⟨v2, hb2, hm⟩ := bind_some hm
  refine a2r 7 (fun a w' => w = w' ∧ Has 17 a [(16, .bool v2)]) ?_ ?_
  ·rintro a wx2 ⟨rfl, hax2⟩
   refine a1f hax2 ?_
   refine a0b rfl rfl rfl (a0c (a0d (a1d ?_)))
   refine a1l rfl rfl ?_
   obtain rfl := Option.some.inj hm
   exact ⟨rfl, rfl⟩
  ·clear hm
   rcases a0g hb2 with ⟨hb3, hb2⟩ | ⟨hb3, hb2⟩
   ·refine a1j 9 rfl hb3 ?_
    refine a0z rfl (by decide) rfl (a0z rfl (by decide) rfl (a0z rfl (by decide) rfl (a0z rfl (by decide) rfl (a0z rfl (by decide) rfl (a0z rfl (by decide) rfl (a0q rfl rfl rfl rfl (a0c ?_)))))))
    refine a0n (fun a ha => ?_)
    cases hb2
    exact ⟨rfl, ha.cut (l := [16]) rfl⟩
   ·refine a1j 9 rfl hb3 ?_
    refine a0e rfl rfl rfl ?_
    refine a0u rfl rfl rfl rfl rfl ?_
    refine a0e rfl rfl rfl ?_
    obtain ⟨v3, hb4, hb2⟩ := bind_some hb2
    refine a2r 3 (fun a w' => w = w' ∧ Has 17 a [(9, .bool false), (15, .bool v3)]) ?_ ?_
    ·rintro a wx3 ⟨rfl, hax3⟩
     refine a1f hax3 ?_
     refine a0m rfl rfl rfl rfl (a0c ?_)
     refine a0n (fun a ha => ?_)
     cases hb2
     exact ⟨rfl, ha.cut (l := [16]) rfl⟩
    ·clear hb2
     rcases a0g hb4 with ⟨hb5, hb4⟩ | ⟨hb5, hb4⟩
     ·refine a1j 12 rfl hb5 ?_
      refine a0e rfl rfl rfl ?_
      refine a0u rfl rfl rfl rfl rfl ?_
      refine a0q rfl rfl rfl rfl (a0c ?_)
      refine a0n (fun a ha => ?_)
      cases hb4
      exact ⟨rfl, ha.cut (l := [9, 15]) rfl⟩
     ·refine a1j 12 rfl hb5 ?_
      refine a0z rfl (by decide) rfl (a0z rfl (by decide) rfl (a0m rfl rfl rfl rfl (a0c ?_)))
      refine a0n (fun a ha => ?_)
      cases hb4
      exact ⟨rfl, ha.cut (l := [9, 15]) rfl⟩
 ·clear hm
  rcases a0g hb1 with ⟨hb6, hb1⟩ | ⟨hb6, hb1⟩
  ·refine a1j 5 rfl hb6 ?_
   refine a0e rfl rfl rfl ?_
   refine a0u rfl rfl rfl rfl rfl ?_
   refine a0q rfl rfl rfl rfl (a0c ?_)
   refine a0n (fun a ha => ?_)
   cases hb1
   exact ⟨rfl, ha.cut (l := [0, 8]) rfl⟩
  ·refine a1j 5 rfl hb6 ?_
   refine a0z rfl (by decide) rfl (a0z rfl (by decide) rfl (a0m rfl rfl rfl rfl (a0c ?_)))
   refine a0n (fun a ha => ?_)
   cases hb1
   exact ⟨rfl, ha.cut (l := [0, 8]) rfl⟩
def b4o (_n : Nat) (c1 : Int) : Option Bool :=
 (bif decide (48 ≤ c1) then
  some (decide (c1 ≤ 57))
 else
  some false).bind fun v1 =>
 some v1
set_option maxHeartbeats 1000000 in
set_option maxRecDepth 1000000 in
theorem b8r (n : Nat) (c1 : Int) (r : Bool) (hm : b4o n c1 = some r) {w : World}  :
  Calls Tryz.prog 143 #[.int .u8 c1] w fun e w' => e = .returned (.bool r) ∧ w' = w := by
 unfold b4o at hm
 refine a1a 9 Tryz.func143 rfl rfl rfl ?_
 refine a0f (a0a (a0b rfl rfl rfl (a0c (a0d (a0f (a0a (a0e rfl rfl rfl ?_)))))))
 refine a0u rfl rfl rfl rfl rfl ?_
 refine a0e rfl rfl rfl ?_
 obtain ⟨v1, hb1, hm⟩ := bind_some hm
 refine a2r 3 (fun a w' => w = w' ∧ Has 9 a [(8, .bool v1)]) ?_ ?_
 ·rintro a wx1 ⟨rfl, hax1⟩
  refine a1f hax1 ?_
  refine a0b rfl rfl rfl (a0c (a0d (a1d ?_)))
  refine a1l rfl rfl ?_
  obtain rfl := Option.some.inj hm
  exact ⟨rfl, rfl⟩
 ·clear hm
  rcases a0g hb1 with ⟨hb2, hb1⟩ | ⟨hb2, hb1⟩
  ·refine a1j 5 rfl hb2 ?_
   refine a0e rfl rfl rfl ?_
   refine a0u rfl rfl rfl rfl rfl ?_
   refine a0q rfl rfl rfl rfl (a0c ?_)
   refine a0n (fun a ha => ?_)
   cases hb1
   exact ⟨rfl, ha.cut (l := [8]) rfl⟩
  ·refine a1j 5 rfl hb2 ?_
   refine a0z rfl (by decide) rfl (a0z rfl (by decide) rfl (a0m rfl rfl rfl rfl (a0c ?_)))
   refine a0n (fun a ha => ?_)
   cases hb1
   exact ⟨rfl, ha.cut (l := [8]) rfl⟩
theorem ent125 : Ent Tryz.prog 125 := fun _ _ => by kernel_rfl
theorem ent143 : Ent Tryz.prog 143 := fun _ _ => by kernel_rfl
def a8z (n : Nat) (c1 : Int) : Option Bool :=
 (a8i n c1).bind fun v1 =>
 (bif v1 then
  some true
 else
  (b4o n c1).bind fun v4 =>
  some v4).bind fun v2 =>
 (bif v2 then
  some true
 else
  some (c1 == 95)).bind fun v3 =>
 some v3
set_option maxHeartbeats 1000000 in
set_option maxRecDepth 1000000 in
theorem b8q (n : Nat) (c1 : Int) (r : Bool) (hm : a8z n c1 = some r) {w : World}  :
  Calls Tryz.prog 127 #[.int .u8 c1] w fun e w' => e = .returned (.bool r) ∧ w' = w := by
 unfold a8z at hm
 refine a1a 13 Tryz.func127 rfl rfl rfl ?_
 refine a0f (a0a (a0b rfl rfl rfl (a0c (a0d (a0f (a0a (a0e rfl rfl rfl ?_)))))))
 obtain ⟨v1, hv1, hm⟩ := bind_some hm
 refine a3m ent125 rfl rfl rfl rfl (b2q _ _ _ hv1) ?_
 refine a0e rfl rfl rfl ?_
 obtain ⟨v2, hb1, hm⟩ := bind_some hm
 refine a2r 3 (fun a w' => w = w' ∧ Has 13 a [(0, .int .u8 c1), (8, .bool v2)]) ?_ ?_
 ·rintro a wx1 ⟨rfl, hax1⟩
  refine a1f hax1 ?_
  refine a0e rfl rfl rfl ?_
  obtain ⟨v3, hb2, hm⟩ := bind_some hm
  refine a2r 3 (fun a w' => w = w' ∧ Has 13 a [(12, .bool v3)]) ?_ ?_
  ·rintro a wx2 ⟨rfl, hax2⟩
   refine a1f hax2 ?_
   refine a0b rfl rfl rfl (a0c (a0d (a1d ?_)))
   refine a1l rfl rfl ?_
   obtain rfl := Option.some.inj hm
   exact ⟨rfl, rfl⟩
  ·clear hm
   rcases a0g hb2 with ⟨hb3, hb2⟩ | ⟨hb3, hb2⟩
   ·refine a1j 9 rfl hb3 ?_
    refine a0z rfl (by decide) rfl (a0z rfl (by decide) rfl (a0q rfl rfl rfl rfl (a0c ?_)))
    refine a0n (fun a ha => ?_)
    cases hb2
    exact ⟨rfl, ha.cut (l := [12]) rfl⟩
   ·refine a1j 9 rfl hb3 ?_
    refine a0e rfl rfl rfl ?_
    refine a0u rfl rfl rfl rfl rfl ?_
    refine a0m rfl rfl rfl rfl (a0c ?_)
    refine a0n (fun a ha => ?_)
    cases hb2
    exact ⟨rfl, ha.cut (l := [12]) rfl⟩
 ·clear hm
  rcases a0g hb1 with ⟨hb4, hb1⟩ | ⟨hb4, hb1⟩
  ·refine a1j 5 rfl hb4 ?_
   refine a0z rfl (by decide) rfl (a0z rfl (by decide) rfl (a0q rfl rfl rfl rfl (a0c ?_)))
   refine a0n (fun a ha => ?_)
   cases hb1
   exact ⟨rfl, ha.cut (l := [0, 8]) rfl⟩
  ·refine a1j 5 rfl hb4 ?_
   refine a0e rfl rfl rfl ?_
   obtain ⟨v4, hv2, hb1⟩ := bind_some hb1
   refine a3m ent143 rfl rfl rfl rfl (b8r _ _ _ hv2) ?_
   refine a0m rfl rfl rfl rfl (a0c ?_)
   refine a0n (fun a ha => ?_)
   cases hb1
   exact ⟨rfl, ha.cut (l := [0, 8]) rfl⟩
theorem u9 : Tryz.prog.underlying 9 = some .string := by kernel_rfl
def a6d (n : Nat) (s1 : Bs) (isx1 : (Int → Option Bool)) (kont1 : Int → Option Int) : Nat → Int → Option Int
 | 0, _ => none
 | mx1 + 1, nx1 =>
  (bif decide (nx1 < (s1.length : Int)) then
   (sidx s1 nx1).bind fun c1 =>
   (isx1 c1).bind fun v2 =>
   some v2
  else
   some false).bind fun v1 =>
  bif v1 then
   a6d n s1 isx1 kont1 mx1 (iadd .i64 nx1 1)
  else
   kont1 nx1
theorem b0h (n : Nat) (s1 : Bs) (isx1 : (Int → Option Bool)) (kont1 : Int → Option Int) (mx1 : Nat) (nx1 : Int) : a6d n s1 isx1 kont1 (mx1 + 1) nx1 =
  (bif decide (nx1 < (s1.length : Int)) then
   (sidx s1 nx1).bind fun c1 =>
   (isx1 c1).bind fun v2 =>
   some v2
  else
   some false).bind fun v1 =>
  bif v1 then
   a6d n s1 isx1 kont1 mx1 (iadd .i64 nx1 1)
  else
   kont1 nx1 := rfl
def b1j (n : Nat) (s1 : Bs) (isx1 : (Int → Option Bool)) : Option Int :=
 a6d n s1 isx1 (fun (nx2 : Int) =>
  some nx2) n 0
set_option maxHeartbeats 1000000 in
set_option maxRecDepth 1000000 in
theorem c0g (n : Nat) (s1 : Bs) (isx1 : (Int → Option Bool)) (r : Int) (hm : b1j n s1 isx1 = some r) {w : World} {fvisx1 : Value} (hpfisx1 : PFn Tryz.prog fvisx1 (fun l v => ∃ (q0 : Int) (b : Bool), l = [.int .u8 q0] ∧ v = some (.bool b) ∧ isx1 q0 = some b)) :
  Calls Tryz.prog 126 #[vs s1, fvisx1] w fun e w' => e = .returned (.int .i64 r) ∧ w' = w := by
 unfold b1j at hm
 refine a1a 20 Tryz.func126 rfl rfl rfl ?_
 refine a0f (a0a (a0b rfl rfl rfl (a0c (a0d (a0f (a0a (a0b rfl rfl rfl (a0c (a0d (a0f (a1g ?_)))))))))))
 intro a hax4
 obtain ⟨kont1, hkont1⟩ : ∃ kont1 : Int → Option Int, kont1 = (fun (nx2 : Int) =>
       some nx2) := ⟨_, rfl⟩
 replace hm : (fun m (s : Int) => a6d n s1 isx1 kont1 m s) n 0 = some r := by rw [hkont1]; exact hm
 refine a5w (id := 0) (fun m (s : Int) => a6d n s1 isx1 kont1 m s) (fun (y : Int) => kont1 y) r (fun (s : Int) a w' => w = w' ∧ Has 20 a [(0, vs s1), (1, fvisx1), (5, .int .i64 s)]) (fun (y : Int) a w' => w = w' ∧ Has 20 a [(5, .int .i64 y)]) (fun _ => rfl) ?_ ?_ hm ⟨rfl, hax4.cut (l := [0, 1, 5]) rfl⟩
 ·clear hm; rintro nx2 a wx1 hm ⟨rfl, hax1⟩
  rw [hkont1] at hm
  replace hm := hm
  refine a2f (e := .exit 0) hax1 ?_
  refine a1k (a0d (a0f (a0a (a0e rfl rfl rfl (a0b rfl rfl rfl (a0c (a0d (a1d ?_))))))))
  refine a1l rfl rfl ?_
  obtain rfl := Option.some.inj hm
  exact ⟨rfl, rfl⟩
 ·clear hm hkont1; intro hk1 mx1 K ihx1
  rintro nx1 a wx2 hm ⟨rfl, hax2⟩
  simp only [b0h] at hm
  refine a1i hax2 ?_
  refine a0f (a0f (a0a (a0e rfl rfl rfl (a0e rfl rfl rfl ?_))))
  refine c0n u9 rfl rfl rfl ?_
  refine a0u rfl rfl rfl rfl rfl ?_
  refine a0e rfl rfl rfl ?_
  obtain ⟨v1, hb1, hm⟩ := bind_some hm
  refine a2r 6 (fun a w' => w = w' ∧ Has 20 a [(0, vs s1), (1, fvisx1), (5, .int .i64 nx1), (16, .bool v1)]) ?_ ?_
  ·rintro a wx3 ⟨rfl, hax3⟩
   refine a1f hax3 ?_
   refine a0c (a0d ?_)
   rcases a0g hm with ⟨hb2, hm⟩ | ⟨hb2, hm⟩
   ·refine a0t 16 rfl hb2 ?_
    refine a0y rfl (a1e (a0d (a1g (a0a (a0e rfl rfl rfl ?_)))))
    refine a0u rfl rfl rfl rfl rfl ?_
    refine a0b rfl rfl rfl (a0c (a1m ?_))
    refine a0n (fun a ha => ihx1 (iadd .i64 nx1 1) a _ hm ?_)
    exact ⟨rfl, ha.cut (l := [0, 1, 5]) rfl⟩
   ·refine a0t 16 rfl hb2 ?_
    refine a0s rfl (a3u (a0w (a0w ?_)))
    refine fun a ha => hk1 nx1 a _ hm ?_
    exact ⟨rfl, ha.cut (l := [5]) rfl⟩
  ·clear hm
   rcases a0g hb1 with ⟨hb3, hb1⟩ | ⟨hb3, hb1⟩
   ·refine a1j 10 rfl hb3 ?_
    refine a0e rfl rfl rfl (a0e rfl rfl rfl (a0e rfl rfl rfl ?_))
    obtain ⟨c1, hc1, hb1⟩ := bind_some hb1
    refine c9h u9 rfl rfl rfl rfl hc1 ?_
    obtain ⟨v2, hv1, hb1⟩ := bind_some hb1
    refine d0z hpfisx1 rfl rfl rfl rfl ⟨_, _, rfl, rfl, hv1⟩ ?_
    refine a0q rfl rfl rfl rfl (a0c ?_)
    refine a0n (fun a ha => ?_)
    cases hb1
    exact ⟨rfl, ha.cut (l := [0, 1, 5, 16]) rfl⟩
   ·refine a1j 10 rfl hb3 ?_
    refine a0z rfl (by decide) rfl (a0z rfl (by decide) rfl (a0z rfl (by decide) rfl (a0z rfl (by decide) rfl (a0z rfl (by decide) rfl (a0m rfl rfl rfl rfl (a0c ?_))))))
    refine a0n (fun a ha => ?_)
    cases hb1
    exact ⟨rfl, ha.cut (l := [0, 1, 5, 16]) rfl⟩
theorem ent127 : Ent Tryz.prog 127 := fun _ _ => by kernel_rfl
theorem pf127 : ∀ n, PFn Tryz.prog (.func (.func 127) #[] #[]) (fun l v => ∃ (q0 : Int) (b : Bool), l = [.int .u8 q0] ∧ v = some (.bool b) ∧ a8z n q0 = some b) := fun n => ⟨127, #[], #[], rfl, ent127, by
 rintro args v w ⟨q0, b, rfl, hv, hb⟩
 obtain rfl := Option.some.inj hv
 exact b8q n _ _ hb⟩
theorem ent126 : Ent Tryz.prog 126 := fun _ _ => by kernel_rfl
def a5k (n : Nat) (s1 : Bs) : Option Bool :=
 (bif !(s1 == []) then
  (sidx s1 0).bind fun c1 =>
  (a8i n c1).bind fun v5 =>
  some v5
 else
  some false).bind fun v1 =>
 (bif v1 then
  some (decide ((s1.length : Int) ≤ 20))
 else
  some false).bind fun v2 =>
 (bif v2 then
  (b1j n s1 (a8z n)).bind fun v4 =>
  some (v4 == (s1.length : Int))
 else
  some false).bind fun v3 =>
 some v3
set_option maxHeartbeats 1000000 in
set_option maxRecDepth 1000000 in
theorem b1q (n : Nat) (s1 : Bs) (r : Bool) (hm : a5k n s1 = some r) {w : World}  :
  Calls Tryz.prog 87 #[vs s1] w fun e w' => e = .returned (.bool r) ∧ w' = w := by
 unfold a5k at hm
 refine a1a 22 Tryz.func87 rfl rfl rfl ?_
 refine a0f (a0a (a0b rfl rfl rfl (a0c (a0d (a0f (a0a (a0e rfl rfl rfl ?_)))))))
 refine c7z rfl rfl rfl rfl rfl ?_
 refine a0e rfl rfl rfl ?_
 obtain ⟨v1, hb1, hm⟩ := bind_some hm
 refine a2r 4 (fun a w' => w = w' ∧ Has 22 a [(0, vs s1), (9, .bool v1)]) ?_ ?_
 ·rintro a wx1 ⟨rfl, hax1⟩
  refine a1f hax1 ?_
  refine a0e rfl rfl rfl ?_
  obtain ⟨v2, hb2, hm⟩ := bind_some hm
  refine a2r 4 (fun a w' => w = w' ∧ Has 22 a [(0, vs s1), (14, .bool v2)]) ?_ ?_
  ·rintro a wx2 ⟨rfl, hax2⟩
   refine a1f hax2 ?_
   refine a0e rfl rfl rfl ?_
   obtain ⟨v3, hb3, hm⟩ := bind_some hm
   refine a2r 6 (fun a w' => w = w' ∧ Has 22 a [(21, .bool v3)]) ?_ ?_
   ·rintro a wx3 ⟨rfl, hax3⟩
    refine a1f hax3 ?_
    refine a0b rfl rfl rfl (a0c (a0d (a1d ?_)))
    refine a1l rfl rfl ?_
    obtain rfl := Option.some.inj hm
    exact ⟨rfl, rfl⟩
   ·clear hm
    rcases a0g hb3 with ⟨hb4, hb3⟩ | ⟨hb4, hb3⟩
    ·refine a1j 15 rfl hb4 ?_
     refine a0e rfl rfl rfl ?_
     obtain ⟨v4, hv1, hb3⟩ := bind_some hb3
     refine a3m ent126 rfl rfl rfl rfl (c0g _ _ _ _ hv1 (pf127 _)) ?_
     refine a0e rfl rfl rfl ?_
     refine c0n u9 rfl rfl rfl ?_
     refine a0u rfl rfl rfl rfl rfl ?_
     refine a0q rfl rfl rfl rfl (a0c ?_)
     refine a0n (fun a ha => ?_)
     cases hb3
     exact ⟨rfl, ha.cut (l := [21]) rfl⟩
    ·refine a1j 15 rfl hb4 ?_
     refine a0z rfl (by decide) rfl (a0z rfl (by decide) rfl (a0z rfl (by decide) rfl (a0z rfl (by decide) rfl (a0z rfl (by decide) rfl (a0m rfl rfl rfl rfl (a0c ?_))))))
     refine a0n (fun a ha => ?_)
     cases hb3
     exact ⟨rfl, ha.cut (l := [21]) rfl⟩
  ·clear hm
   rcases a0g hb2 with ⟨hb5, hb2⟩ | ⟨hb5, hb2⟩
   ·refine a1j 10 rfl hb5 ?_
    refine a0e rfl rfl rfl ?_
    refine c0n u9 rfl rfl rfl ?_
    refine a0u rfl rfl rfl rfl rfl ?_
    refine a0q rfl rfl rfl rfl (a0c ?_)
    refine a0n (fun a ha => ?_)
    cases hb2
    exact ⟨rfl, ha.cut (l := [0, 14]) rfl⟩
   ·refine a1j 10 rfl hb5 ?_
    refine a0z rfl (by decide) rfl (a0z rfl (by decide) rfl (a0z rfl (by decide) rfl (a0m rfl rfl rfl rfl (a0c ?_))))
    refine a0n (fun a ha => ?_)
    cases hb2
    exact ⟨rfl, ha.cut (l := [0, 14]) rfl⟩
 ·clear hm
  rcases a0g hb1 with ⟨hb6, hb1⟩ | ⟨hb6, hb1⟩
  ·refine a1j 5 rfl hb6 ?_
   refine a0e rfl rfl rfl ?_
   obtain ⟨c1, hc1, hb1⟩ := bind_some hb1
   refine c9h u9 rfl rfl rfl rfl hc1 ?_
   obtain ⟨v5, hv2, hb1⟩ := bind_some hb1
   refine a3m ent125 rfl rfl rfl rfl (b2q _ _ _ hv2) ?_
   refine a0q rfl rfl rfl rfl (a0c ?_)
   refine a0n (fun a ha => ?_)
   cases hb1
   exact ⟨rfl, ha.cut (l := [0, 9]) rfl⟩
  ·refine a1j 5 rfl hb6 ?_
   refine a0z rfl (by decide) rfl (a0z rfl (by decide) rfl (a0z rfl (by decide) rfl (a0m rfl rfl rfl rfl (a0c ?_))))
   refine a0n (fun a ha => ?_)
   cases hb1
   exact ⟨rfl, ha.cut (l := [0, 9]) rfl⟩
theorem u28 : Tryz.prog.underlying 28 = some (.slice 3) := by kernel_rfl
theorem sz3 : a5f Tryz.prog 3 1 := fun _ => by kernel_rfl
theorem ag3 : a9y Tryz.prog 3 false := fun _ => by kernel_rfl
def a6c (n : Nat) (l1 : (List Int)) (kont1 : Int → Option (List Int)) : Nat → Int → Option (List Int)
 | 0, _ => none
 | mx1 + 1, nx1 =>
  (bif decide (0 < nx1) then
   (ix l1 (isub .i64 nx1 1)).bind fun ex1 =>
   some (ex1 == 0)
  else
   some false).bind fun v1 =>
  bif v1 then
   a6c n l1 kont1 mx1 (isub .i64 nx1 1)
  else
   kont1 nx1
theorem a8r (n : Nat) (l1 : (List Int)) (kont1 : Int → Option (List Int)) (mx1 : Nat) (nx1 : Int) : a6c n l1 kont1 (mx1 + 1) nx1 =
  (bif decide (0 < nx1) then
   (ix l1 (isub .i64 nx1 1)).bind fun ex1 =>
   some (ex1 == 0)
  else
   some false).bind fun v1 =>
  bif v1 then
   a6c n l1 kont1 mx1 (isub .i64 nx1 1)
  else
   kont1 nx1 := rfl
def a3l (n : Nat) (l1 : (List Int)) : Option (List Int) :=
 a6c n l1 (fun (nx2 : Int) =>
  (lsl l1 0 nx2).bind fun l2 =>
  some l2) n (l1.length : Int)
set_option maxHeartbeats 1000000 in
set_option maxRecDepth 1000000 in
theorem a6y (n : Nat) (l1 : (List Int)) (r : (List Int)) (hm : a3l n l1 = some r) {w : World} {F : Frz} (hs : Sat F w) {as1 : Option Addr} {ns1 : Nat} {cs1 : Nat} (hs1 : SlR (Rp.int .i64) F as1 ns1 cs1 l1) :
  Calls Tryz.prog 121 #[.slice as1 ns1 cs1] w fun e w' => ∃ m', e = .returned (.slice as1 m' cs1) ∧ w' = w ∧ m' ≤ ns1 ∧ r = l1.take m' := by
 unfold a3l at hm
 have h := HS.init hs
 refine a1a 21 Tryz.func121 rfl rfl rfl ?_
 refine a0f (a0a (a0b rfl rfl rfl (a0c (a0d (a0f (a0a (a0e rfl rfl rfl ?_)))))))
 refine a1u hs1.len u28 rfl rfl rfl ?_
 refine a0b rfl rfl rfl (a0c (a0d (a0f (a1g ?_))))
 intro a hax4
 obtain ⟨kont1, hkont1⟩ : ∃ kont1 : Int → Option (List Int), kont1 = (fun (nx2 : Int) =>
       (lsl l1 0 nx2).bind fun l2 =>
       some l2) := ⟨_, rfl⟩
 replace hm : (fun m (s : Int) => a6c n l1 kont1 m s) n (l1.length : Int) = some r := by rw [hkont1]; exact hm
 refine a5w (id := 0) (fun m (s : Int) => a6c n l1 kont1 m s) (fun (y : Int) => kont1 y) r (fun (s : Int) a w' => w = w' ∧ Has 21 a [(0, .slice as1 ns1 cs1), (3, .int .i64 s)]) (fun (y : Int) a w' => w = w' ∧ Has 21 a [(0, .slice as1 ns1 cs1), (3, .int .i64 y)]) (fun _ => rfl) ?_ ?_ hm ⟨rfl, hax4.cut (l := [0, 3]) rfl⟩
 ·clear hm; rintro nx2 a wx1 hm ⟨rfl, hax1⟩
  rw [hkont1] at hm
  replace hm := hm
  refine a2f (e := .exit 0) hax1 ?_
  refine a1k (a0d (a0f (a0a (a0e rfl rfl rfl (a0e rfl rfl rfl ?_)))))
  obtain ⟨l2, hc1, hm⟩ := bind_some hm
  refine d2t u28 (r := (Rp.int .i64)) sz3 rfl rfl rfl rfl hs1 hc1 ?_
  intro hs2 hvs2 hns2
  refine a0b rfl rfl rfl (a0c (a0d (a1d ?_)))
  refine a1l rfl rfl ?_
  obtain rfl := Option.some.inj hm
  exact ⟨_, rfl, rfl, hns2, hvs2⟩
 ·clear hm hkont1; intro hk1 mx1 K ihx1
  rintro nx1 a wx2 hm ⟨rfl, hax2⟩
  simp only [a8r] at hm
  refine a1i hax2 ?_
  refine a0f (a0f (a0a (a0e rfl rfl rfl ?_)))
  refine a0u rfl rfl rfl rfl rfl ?_
  refine a0e rfl rfl rfl ?_
  obtain ⟨v1, hb1, hm⟩ := bind_some hm
  refine a2r 7 (fun a w' => w = w' ∧ Has 21 a [(0, .slice as1 ns1 cs1), (3, .int .i64 nx1), (15, .bool v1)]) ?_ ?_
  ·rintro a wx3 ⟨rfl, hax3⟩
   refine a1f hax3 ?_
   refine a0c (a0d ?_)
   rcases a0g hm with ⟨hb2, hm⟩ | ⟨hb2, hm⟩
   ·refine a0t 15 rfl hb2 ?_
    refine a0y rfl (a1e (a0d (a1g (a0a (a0e rfl rfl rfl ?_)))))
    refine a0u rfl rfl rfl rfl rfl ?_
    refine a0b rfl rfl rfl (a0c (a1m ?_))
    refine a0n (fun a ha => ihx1 (isub .i64 nx1 1) a _ hm ?_)
    exact ⟨rfl, ha.cut (l := [0, 3]) rfl⟩
   ·refine a0t 15 rfl hb2 ?_
    refine a0s rfl (a3u (a0w (a0w ?_)))
    refine fun a ha => hk1 nx1 a _ hm ?_
    exact ⟨rfl, ha.cut (l := [0, 3]) rfl⟩
  ·clear hm
   rcases a0g hb1 with ⟨hb3, hb1⟩ | ⟨hb3, hb1⟩
   ·refine a1j 8 rfl hb3 ?_
    refine a0e rfl rfl rfl (a0e rfl rfl rfl ?_)
    refine a0u rfl rfl rfl rfl rfl ?_
    obtain ⟨ex1, he1, hb1⟩ := bind_some hb1
    refine a2n (r := (Rp.int .i64)) u28 sz3 rfl rfl rfl rfl hs1 he1 ?_
    intro b1 o1 cs1 hf1 hr1
    have hc2 : cs1 = [.int .i64 ex1] := hr1
    subst hc2
    refine a2h (j := 0) ag3 rfl rfl h hf1 rfl rfl ?_
    refine a0u rfl rfl rfl rfl rfl ?_
    refine a0q rfl rfl rfl rfl (a0c ?_)
    refine a0n (fun a ha => ?_)
    cases hb1
    exact ⟨rfl, ha.cut (l := [0, 3, 15]) rfl⟩
   ·refine a1j 8 rfl hb3 ?_
    refine a0z rfl (by decide) rfl (a0z rfl (by decide) rfl (a0z rfl (by decide) rfl (a0z rfl (by decide) rfl (a0z rfl (by decide) rfl (a0z rfl (by decide) rfl (a0m rfl rfl rfl rfl (a0c ?_)))))))
    refine a0n (fun a ha => ?_)
    cases hb1
    exact ⟨rfl, ha.cut (l := [0, 3, 15]) rfl⟩
structure Big where
 Sign : Int
 Digits : (List Int)
 deriving DecidableEq, Inhabited
def rp_Big : Rp Big where
 k := 2
 R := fun F cs x => ∃ (a1 : Option Addr) (n1 : Nat) (c1 : Nat), cs = [.int .i64 x.Sign, .slice a1 n1 c1] ∧ SlR (Rp.int .i64) F a1 n1 c1 x.Digits
 len := by rintro F cs x ⟨a1, n1, c1, h, _⟩; simp [h]
 mono := by rintro F F' cs x hF ⟨a1, n1, c1, h, h0⟩; exact ⟨a1, n1, c1, h, h0.mono hF⟩
 one := by rintro F cs x ⟨a1, n1, c1, h, _⟩ u hu; subst h; simp at hu; rcases hu with rfl | rfl <;> rfl
theorem ze35 : c1c Tryz.prog 35 (.agg #[.int .i64 0, .slice none 0 0]) := fun _ => by kernel_rfl
theorem ent121 : Ent Tryz.prog 121 := fun _ _ => by kernel_rfl
theorem sz35 : a5f Tryz.prog 35 2 := fun _ => by kernel_rfl
theorem ag35 : a9y Tryz.prog 35 true := fun _ => by kernel_rfl
def a3k (n : Nat) (sign1 : Int) (l1 : (List Int)) : Option Big :=
 (a3l n l1).bind fun v1 =>
 bif (v1.length : Int) == 0 then
  some (⟨0, []⟩ : Big)
 else
  some (⟨sign1, v1⟩ : Big)
set_option maxHeartbeats 1000000 in
set_option maxRecDepth 1000000 in
theorem a4a (n : Nat) (sign1 : Int) (l1 : (List Int)) (r : Big) (hm : a3k n sign1 l1 = some r) {w : World} {F : Frz} (hs : Sat F w) {as1 : Option Addr} {ns1 : Nat} {cs1 : Nat} (hs1 : SlR (Rp.int .i64) F as1 ns1 cs1 l1) :
  Calls Tryz.prog 82 #[.int .i64 sign1, .slice as1 ns1 cs1] w fun e w' => ∃ v F' O', e = .returned v ∧ HS F w [] F' O' w' ∧ (∃ (a0_1 : Option Addr) (n0_1 : Nat) (c0_1 : Nat), v = .agg #[.int .i64 r.Sign, .slice a0_1 n0_1 c0_1] ∧ O' = [] ∧ SlR (Rp.int .i64) F' a0_1 n0_1 c0_1 r.Digits) := by
 unfold a3k at hm
 have h := HS.init hs
 refine a1a 14 Tryz.func82 rfl rfl rfl ?_
 refine a0f (a0a ?_)
 refine a1b ze35 rfl rfl rfl h ?_
 intro b1 wx1 hx1
 refine a0c (a0d (a0f (a0a (a0e rfl rfl rfl ?_))))
 obtain ⟨v1, hv1, hm⟩ := bind_some hm
 refine b2n ent121 rfl rfl rfl rfl (a6y _ _ _ hv1 hx1.sat hs1) ?_
 intro ns2 hles2 hvs2
 refine a0b rfl rfl rfl (a0c (a0d (a0f (a0f (a0a (a0e rfl rfl rfl ?_))))))
 refine a1u ((SlR.takeN hs1 hles2 hvs2).len) u28 rfl rfl rfl ?_
 refine a0u rfl rfl rfl rfl rfl ?_
 refine a0c (a0d ?_)
 rcases a0g hm with ⟨hb1, hm⟩ | ⟨hb1, hm⟩
 ·refine a0t 9 rfl hb1 ?_
  refine a0y rfl (a0f (a0a ?_))
  refine a2b (v := .agg #[.int .i64 0, .slice none 0 0]) rfl rfl rfl (fun _ => by kernel_rfl) ?_
  refine a0p sz35 rfl hx1 rfl rfl rfl rfl (i := 0) rfl rfl rfl rfl ?_
  intro wx2 hx2
  refine a0c (a0d (a1d (a0k ?_)))
  refine a3r rfl ag35 sz35 rfl hx2 rfl (i := 0) rfl ?_
  obtain rfl := Option.some.inj hm
  exact ⟨_, _, _, rfl, hx2.pick [] (by decide) rfl, none, 0, 0, rfl, rfl, SlR.nil _ _⟩
 ·refine a0t 9 rfl hb1 ?_
  refine a0s rfl (a1e (a0d (a0f (a0a (a0e rfl rfl rfl (a0e rfl rfl rfl ?_))))))
  refine a2b (v := .agg #[.int .i64 sign1, .slice as1 ns2 cs1]) rfl rfl rfl (fun _ => by kernel_rfl) ?_
  refine a0p sz35 rfl hx1 rfl rfl rfl rfl (i := 0) rfl rfl rfl rfl ?_
  intro wx3 hx3
  refine a0c (a0d (a1d ?_))
  refine a3r rfl ag35 sz35 rfl hx3 rfl (i := 0) rfl ?_
  obtain rfl := Option.some.inj hm
  exact ⟨_, _, _, rfl, hx3.pick [] (by decide) rfl, as1, ns2, cs1, rfl, rfl, ((SlR.takeN hs1 hles2 hvs2))⟩
theorem fa35_1 : a6n Tryz.prog 35 1 1 := fun _ _ _ => by kernel_rfl
theorem ag28 : a9y Tryz.prog 28 false := fun _ => by kernel_rfl
theorem fa35_0 : a6n Tryz.prog 35 0 0 := fun _ _ _ => by kernel_rfl
def a7f (n : Nat) (ax1 : Big) (kont1 : Option Bool) : Nat → Int → Option Bool
 | 0, _ => none
 | mx1 + 1, i1 =>
  bif decide (i1 < (ax1.Digits.length : Int)) then
   (ix ax1.Digits i1).bind fun ex2 =>
   (bif decide (ex2 < 0) then
    some true
   else
    some (decide (1048575 < ex2))).bind fun v3 =>
   bif v3 then
    some false
   else
    a7f n ax1 kont1 mx1 (iadd .i64 i1 1)
  else
   kont1
theorem b0z (n : Nat) (ax1 : Big) (kont1 : Option Bool) (mx1 : Nat) (i1 : Int) : a7f n ax1 kont1 (mx1 + 1) i1 =
  bif decide (i1 < (ax1.Digits.length : Int)) then
   (ix ax1.Digits i1).bind fun ex2 =>
   (bif decide (ex2 < 0) then
    some true
   else
    some (decide (1048575 < ex2))).bind fun v3 =>
   bif v3 then
    some false
   else
    a7f n ax1 kont1 mx1 (iadd .i64 i1 1)
  else
   kont1 := rfl
def a3p (n : Nat) (ax1 : Big) : Option Bool :=
 a7f n ax1 (
  bif (ax1.Digits.length : Int) == 0 then
   some (ax1.Sign == 0)
  else
   (bif ax1.Sign == 1 then
    some true
   else
    some (ax1.Sign == (-1))).bind fun v1 =>
   (bif v1 then
    (ix ax1.Digits (isub .i64 (ax1.Digits.length : Int) 1)).bind fun ex1 =>
    some (ex1 != 0)
   else
    some false).bind fun v2 =>
   some v2) n 0
set_option maxHeartbeats 1000000 in
set_option maxRecDepth 1000000 in
theorem a3f (n : Nat) (ax1 : Big) (r : Bool) (hm : a3p n ax1 = some r) {w : World} {F : Frz} (hs : Sat F w) {as1 : Option Addr} {ns1 : Nat} {cs1 : Nat} (hs1 : SlR (Rp.int .i64) F as1 ns1 cs1 ax1.Digits) :
  Calls Tryz.prog 44 #[.agg #[.int .i64 ax1.Sign, .slice as1 ns1 cs1]] w fun e w' => ∃ v F' O', e = .returned v ∧ HS F w [] F' O' w' ∧ (v = .bool r ∧ O' = []) := by
 unfold a3p at hm
 have h := HS.init hs
 refine a1a 45 Tryz.func44 rfl rfl rfl ?_
 refine a0f (a0a ?_)
 refine a2t rfl rfl rfl rfl h ?_
 intro b1 wx1 hx1
 refine a0b rfl rfl rfl (a0c (a0d (a0f (a0a ?_))))
 refine a0h fa35_1 rfl rfl rfl ?_
 refine a0r ag28 rfl rfl hx1 rfl (i := 0) rfl rfl ?_
 refine a1u hs1.len u28 rfl rfl rfl ?_
 refine a0b rfl rfl rfl (a0c (a0d (a0f (a0f (a0a ?_)))))
 refine a0h fa35_1 rfl rfl rfl ?_
 refine a0r ag28 rfl rfl hx1 rfl (i := 0) rfl rfl ?_
 refine a1u hs1.len u28 rfl rfl rfl ?_
 refine a0e rfl rfl rfl (a0c (a0d (a1g ?_)))
 intro a hax6
 obtain ⟨kont1, hkont1⟩ : ∃ kont1 : Option Bool, kont1 = (
       bif (ax1.Digits.length : Int) == 0 then
        some (ax1.Sign == 0)
       else
        (bif ax1.Sign == 1 then
         some true
        else
         some (ax1.Sign == (-1))).bind fun v1 =>
        (bif v1 then
         (ix ax1.Digits (isub .i64 (ax1.Digits.length : Int) 1)).bind fun ex1 =>
         some (ex1 != 0)
        else
         some false).bind fun v2 =>
        some v2) := ⟨_, rfl⟩
 replace hm : (fun m (s : Int) => a7f n ax1 kont1 m s) n 0 = some r := by rw [hkont1]; exact hm
 refine a5w (id := 0) (fun m (s : Int) => a7f n ax1 kont1 m s) (fun (y : Unit) => kont1) r (fun (s : Int) a w' => wx1 = w' ∧ Has 45 a [(1, .pointer (some ⟨b1, 0, none⟩)), (3, .int .i64 (ax1.Digits.length : Int)), (10, .slice as1 ns1 cs1), (11, .int .i64 (ax1.Digits.length : Int)), (12, .int .i64 s)]) (fun (y : Unit) a w' => wx1 = w' ∧ Has 45 a [(1, .pointer (some ⟨b1, 0, none⟩)), (3, .int .i64 (ax1.Digits.length : Int))]) (fun _ => rfl) ?_ ?_ hm ⟨rfl, hax6.cut (l := [1, 3, 10, 11, 12]) rfl⟩
 ·clear hm; rintro _u a wx2 hm ⟨rfl, hax1⟩
  rw [hkont1] at hm
  refine a2f (e := .exit 0) hax1 ?_
  refine a1k (a0d (a0f (a0f (a0a (a0e rfl rfl rfl ?_)))))
  refine a0u rfl rfl rfl rfl rfl ?_
  refine a0c (a0d ?_)
  rcases a0g hm with ⟨hb1, hm⟩ | ⟨hb1, hm⟩
  ·refine a0t 24 rfl hb1 ?_
   refine a0y rfl (a0f (a0a ?_))
   refine a0h fa35_0 rfl rfl rfl ?_
   refine a0r ag3 rfl rfl hx1 rfl (i := 0) rfl rfl ?_
   refine a0u rfl rfl rfl rfl rfl ?_
   refine a0b rfl rfl rfl (a0c (a0d (a1d (a0k ?_))))
   refine a1l rfl rfl ?_
   obtain rfl := Option.some.inj hm
   exact ⟨_, _, _, rfl, hx1.pick [] (by decide) rfl, rfl, rfl⟩
  ·refine a0t 24 rfl hb1 ?_
   refine a0s rfl (a1e (a0d (a0f (a0a ?_))))
   refine a0h fa35_0 rfl rfl rfl ?_
   refine a0r ag3 rfl rfl hx1 rfl (i := 0) rfl rfl ?_
   refine a0u rfl rfl rfl rfl rfl ?_
   refine a0e rfl rfl rfl ?_
   obtain ⟨v1, hb2, hm⟩ := bind_some hm
   refine a2r 4 (fun a w' => wx1 = w' ∧ Has 45 a [(1, .pointer (some ⟨b1, 0, none⟩)), (3, .int .i64 (ax1.Digits.length : Int)), (35, .bool v1)]) ?_ ?_
   ·rintro a wx3 ⟨rfl, hax2⟩
    refine a1f hax2 ?_
    refine a0e rfl rfl rfl ?_
    obtain ⟨v2, hb3, hm⟩ := bind_some hm
    refine a2r 8 (fun a w' => wx1 = w' ∧ Has 45 a [(44, .bool v2)]) ?_ ?_
    ·rintro a wx4 ⟨rfl, hax3⟩
     refine a1f hax3 ?_
     refine a0b rfl rfl rfl (a0c (a0d (a1d ?_)))
     refine a1l rfl rfl ?_
     obtain rfl := Option.some.inj hm
     exact ⟨_, _, _, rfl, hx1.pick [] (by decide) rfl, rfl, rfl⟩
    ·clear hm
     rcases a0g hb3 with ⟨hb4, hb3⟩ | ⟨hb4, hb3⟩
     ·refine a1j 36 rfl hb4 ?_
      refine a0h fa35_1 rfl rfl rfl ?_
      refine a0r ag28 rfl rfl hx1 rfl (i := 0) rfl rfl ?_
      refine a0e rfl rfl rfl ?_
      refine a0u rfl rfl rfl rfl rfl ?_
      obtain ⟨ex1, he1, hb3⟩ := bind_some hb3
      refine a2n (r := (Rp.int .i64)) u28 sz3 rfl rfl rfl rfl hs1 he1 ?_
      intro b2 o1 cs1 hf1 hr1
      have hc1 : cs1 = [.int .i64 ex1] := hr1
      subst hc1
      refine a2h (j := 0) ag3 rfl rfl hx1 hf1 rfl rfl ?_
      refine a0u rfl rfl rfl rfl rfl ?_
      refine a0q rfl rfl rfl rfl (a0c ?_)
      refine a0n (fun a ha => ?_)
      cases hb3
      exact ⟨rfl, ha.cut (l := [44]) rfl⟩
     ·refine a1j 36 rfl hb4 ?_
      refine a0z rfl (by decide) rfl (a0z rfl (by decide) rfl (a0z rfl (by decide) rfl (a0z rfl (by decide) rfl (a0z rfl (by decide) rfl (a0z rfl (by decide) rfl (a0z rfl (by decide) rfl (a0m rfl rfl rfl rfl (a0c ?_))))))))
      refine a0n (fun a ha => ?_)
      cases hb3
      exact ⟨rfl, ha.cut (l := [44]) rfl⟩
   ·clear hm
    rcases a0g hb2 with ⟨hb5, hb2⟩ | ⟨hb5, hb2⟩
    ·refine a1j 31 rfl hb5 ?_
     refine a0z rfl (by decide) rfl (a0z rfl (by decide) rfl (a0z rfl (by decide) rfl (a0q rfl rfl rfl rfl (a0c ?_))))
     refine a0n (fun a ha => ?_)
     cases hb2
     exact ⟨rfl, ha.cut (l := [1, 3, 35]) rfl⟩
    ·refine a1j 31 rfl hb5 ?_
     refine a0h fa35_0 rfl rfl rfl ?_
     refine a0r ag3 rfl rfl hx1 rfl (i := 0) rfl rfl ?_
     refine a0u rfl rfl rfl rfl rfl ?_
     refine a0m rfl rfl rfl rfl (a0c ?_)
     refine a0n (fun a ha => ?_)
     cases hb2
     exact ⟨rfl, ha.cut (l := [1, 3, 35]) rfl⟩
 ·clear hm hkont1; intro hk1 mx1 K ihx1
  rintro i1 a wx5 hm ⟨rfl, hax4⟩
  simp only [b0z] at hm
  refine a1i hax4 ?_
  refine a0f (a0a ?_)
  refine a0u rfl rfl rfl rfl rfl ?_
  refine a0c (a0d (a0f ?_))
  rcases a0g hm with ⟨hb6, hm⟩ | ⟨hb6, hm⟩
  ·refine a0t 13 rfl hb6 ?_
   refine a0y rfl (a1e (a0d (a0f (a1g (a0f (a0a ?_))))))
   obtain ⟨ex2, he2, hm⟩ := bind_some hm
   refine a2n (r := (Rp.int .i64)) u28 sz3 rfl rfl rfl rfl hs1 he2 ?_
   intro b3 o2 cs2 hf2 hr2
   have hc2 : cs2 = [.int .i64 ex2] := hr2
   subst hc2
   refine a2h (j := 0) ag3 rfl rfl hx1 hf2 rfl rfl ?_
   refine a0b rfl rfl rfl (a0c (a0d (a0f (a0a (a0e rfl rfl rfl ?_)))))
   refine a0u rfl rfl rfl rfl rfl ?_
   refine a0e rfl rfl rfl ?_
   obtain ⟨v3, hb7, hm⟩ := bind_some hm
   refine a2r 3 (fun a w' => wx1 = w' ∧ Has 45 a [(1, .pointer (some ⟨b1, 0, none⟩)), (3, .int .i64 (ax1.Digits.length : Int)), (10, .slice as1 ns1 cs1), (11, .int .i64 (ax1.Digits.length : Int)), (12, .int .i64 i1), (21, .bool v3)]) ?_ ?_
   ·rintro a wx6 ⟨rfl, hax5⟩
    refine a1f hax5 ?_
    refine a0c (a0d ?_)
    rcases a0g hm with ⟨hb8, hm⟩ | ⟨hb8, hm⟩
    ·refine a0t 21 rfl hb8 ?_
     refine a0y rfl (a0f (a0a (a0b rfl rfl rfl (a0c (a0d (a1d (a0x (a0k (a0k (a0x (a0k ?_)))))))))))
     refine a1l rfl rfl ?_
     obtain rfl := Option.some.inj hm
     exact ⟨_, _, _, rfl, hx1.pick [] (by decide) rfl, rfl, rfl⟩
    ·refine a0t 21 rfl hb8 ?_
     refine a0s rfl (a1e (a1m (a0d (a0a ?_))))
     refine a0u rfl rfl rfl rfl rfl ?_
     refine a0e rfl rfl rfl (a0c ?_)
     refine a0n (fun a ha => ihx1 (iadd .i64 i1 1) a _ hm ?_)
     exact ⟨rfl, ha.cut (l := [1, 3, 10, 11, 12]) rfl⟩
   ·clear hm
    rcases a0g hb7 with ⟨hb9, hb7⟩ | ⟨hb9, hb7⟩
    ·refine a1j 18 rfl hb9 ?_
     refine a0z rfl (by decide) rfl (a0z rfl (by decide) rfl (a0q rfl rfl rfl rfl (a0c ?_)))
     refine a0n (fun a ha => ?_)
     cases hb7
     exact ⟨rfl, ha.cut (l := [1, 3, 10, 11, 12, 21]) rfl⟩
    ·refine a1j 18 rfl hb9 ?_
     refine a0e rfl rfl rfl ?_
     refine a0u rfl rfl rfl rfl rfl ?_
     refine a0m rfl rfl rfl rfl (a0c ?_)
     refine a0n (fun a ha => ?_)
     cases hb7
     exact ⟨rfl, ha.cut (l := [1, 3, 10, 11, 12, 21]) rfl⟩
  ·refine a0t 13 rfl hb6 ?_
   refine a0s rfl (a3u (a0w (a0w ?_)))
   refine fun a ha => hk1 () a _ hm ?_
   exact ⟨rfl, ha.cut (l := [1, 3]) rfl⟩
def a8v (_n : Nat) (x1 : Int) : Option Bool :=
 some (x1 != x1)
set_option maxHeartbeats 1000000 in
set_option maxRecDepth 1000000 in
theorem b2h (n : Nat) (x1 : Int) (r : Bool) (hm : a8v n x1 = some r) {w : World}  :
  Calls Tryz.prog 124 #[.int .i64 x1] w fun e w' => e = .returned (.bool r) ∧ w' = w := by
 unfold a8v at hm
 refine a1a 6 Tryz.func124 rfl rfl rfl ?_
 refine a0f (a0a (a0b rfl rfl rfl (a0c (a0d (a0f (a0a (a0e rfl rfl rfl (a0e rfl rfl rfl ?_))))))))
 refine a0u rfl rfl rfl rfl rfl ?_
 refine a0b rfl rfl rfl (a0c (a0d (a1d ?_)))
 refine a1l rfl rfl ?_
 obtain rfl := Option.some.inj hm
 exact ⟨rfl, rfl⟩
theorem ent124 : Ent Tryz.prog 124 := fun _ _ => by kernel_rfl
def a4o (n : Nat) (x1 : Int) (y1 : Int) : Option Int :=
 (a8v n x1).bind fun v1 =>
 (a8v n y1).bind fun v2 =>
 bif v1 then
  bif v2 then
   some 0
  else
   some (-1)
 else
  bif v2 then
   some 1
  else
   bif decide (x1 < y1) then
    some (-1)
   else
    bif decide (y1 < x1) then
     some 1
    else
     some 0
set_option maxHeartbeats 1000000 in
set_option maxRecDepth 1000000 in
theorem a8t (n : Nat) (x1 : Int) (y1 : Int) (r : Int) (hm : a4o n x1 y1 = some r) {w : World}  :
  Calls Tryz.prog 84 #[.int .i64 x1, .int .i64 y1] w fun e w' => e = .returned (.int .i64 r) ∧ w' = w := by
 unfold a4o at hm
 refine a1a 20 Tryz.func84 rfl rfl rfl ?_
 refine a0f (a0a (a0b rfl rfl rfl (a0c (a0d (a0f (a0a (a0e rfl rfl rfl ?_)))))))
 obtain ⟨v1, hv1, hm⟩ := bind_some hm
 refine a3m ent124 rfl rfl rfl rfl (b2h _ _ _ hv1) ?_
 refine a0b rfl rfl rfl (a0c (a0d (a0f (a0a (a0e rfl rfl rfl ?_)))))
 obtain ⟨v2, hv2, hm⟩ := bind_some hm
 refine a3m ent124 rfl rfl rfl rfl (b2h _ _ _ hv2) ?_
 refine a0b rfl rfl rfl (a0c (a0d (a0f (a0f (a0a (a0e rfl rfl rfl (a0c (a0d ?_))))))))
 rcases a0g hm with ⟨hb1, hm⟩ | ⟨hb1, hm⟩
 ·refine a0t 11 rfl hb1 ?_
  refine a0y rfl (a0f (a0f (a0a (a0e rfl rfl rfl (a0c (a0d ?_))))))
  rcases a0g hm with ⟨hb2, hm⟩ | ⟨hb2, hm⟩
  ·refine a0t 12 rfl hb2 ?_
   refine a0y rfl (a0f (a0a (a0b rfl rfl rfl (a0c (a0d (a1d (a0k (a0k ?_))))))))
   refine a1l rfl rfl ?_
   obtain rfl := Option.some.inj hm
   exact ⟨rfl, rfl⟩
  ·refine a0t 12 rfl hb2 ?_
   refine a0s rfl (a1e (a0d (a0f (a0a (a0b rfl rfl rfl (a0c (a0d (a1d (a0k ?_)))))))))
   refine a1l rfl rfl ?_
   obtain rfl := Option.some.inj hm
   exact ⟨rfl, rfl⟩
 ·refine a0t 11 rfl hb1 ?_
  refine a0s rfl (a1e (a0d (a0f (a0f (a0a (a0e rfl rfl rfl (a0c (a0d ?_))))))))
  rcases a0g hm with ⟨hb3, hm⟩ | ⟨hb3, hm⟩
  ·refine a0t 13 rfl hb3 ?_
   refine a0y rfl (a0f (a0a (a0b rfl rfl rfl (a0c (a0d (a1d (a0k ?_)))))))
   refine a1l rfl rfl ?_
   obtain rfl := Option.some.inj hm
   exact ⟨rfl, rfl⟩
  ·refine a0t 13 rfl hb3 ?_
   refine a0s rfl (a1e (a0d (a0f (a0f (a0a (a0e rfl rfl rfl (a0e rfl rfl rfl ?_)))))))
   refine a0u rfl rfl rfl rfl rfl ?_
   refine a0c (a0d ?_)
   rcases a0g hm with ⟨hb4, hm⟩ | ⟨hb4, hm⟩
   ·refine a0t 16 rfl hb4 ?_
    refine a0y rfl (a0f (a0a (a0b rfl rfl rfl (a0c (a0d (a1d (a0k ?_)))))))
    refine a1l rfl rfl ?_
    obtain rfl := Option.some.inj hm
    exact ⟨rfl, rfl⟩
   ·refine a0t 16 rfl hb4 ?_
    refine a0s rfl (a1e (a0d (a0f (a0f (a0a (a0e rfl rfl rfl (a0e rfl rfl rfl ?_)))))))
    refine a0u rfl rfl rfl rfl rfl ?_
    refine a0c (a0d ?_)
    rcases a0g hm with ⟨hb5, hm⟩ | ⟨hb5, hm⟩
    ·refine a0t 19 rfl hb5 ?_
     refine a0y rfl (a0f (a0a (a0b rfl rfl rfl (a0c (a0d (a1d (a0k ?_)))))))
     refine a1l rfl rfl ?_
     obtain rfl := Option.some.inj hm
     exact ⟨rfl, rfl⟩
    ·refine a0t 19 rfl hb5 ?_
     refine a0s rfl (a1e (a0d (a0f (a0a (a0b rfl rfl rfl (a0c (a0d (a1d ?_))))))))
     refine a1l rfl rfl ?_
     obtain rfl := Option.some.inj hm
     exact ⟨rfl, rfl⟩
theorem ent84 : Ent Tryz.prog 84 := fun _ _ => by kernel_rfl
def a5t (n : Nat) (ax1 : (List Int)) (b1 : (List Int)) (kont1 : Option Int) : Nat → Int → Option Int
 | 0, _ => none
 | mx1 + 1, i1 =>
  bif decide (0 ≤ i1) then
   (ix ax1 i1).bind fun ex1 =>
   (ix b1 i1).bind fun ex2 =>
   bif ex1 != ex2 then
    (ix ax1 i1).bind fun ex3 =>
    (ix b1 i1).bind fun ex4 =>
    (a4o n ex3 ex4).bind fun v2 =>
    some v2
   else
    a5t n ax1 b1 kont1 mx1 (isub .i64 i1 1)
  else
   kont1
theorem a9w (n : Nat) (ax1 : (List Int)) (b1 : (List Int)) (kont1 : Option Int) (mx1 : Nat) (i1 : Int) : a5t n ax1 b1 kont1 (mx1 + 1) i1 =
  bif decide (0 ≤ i1) then
   (ix ax1 i1).bind fun ex1 =>
   (ix b1 i1).bind fun ex2 =>
   bif ex1 != ex2 then
    (ix ax1 i1).bind fun ex3 =>
    (ix b1 i1).bind fun ex4 =>
    (a4o n ex3 ex4).bind fun v2 =>
    some v2
   else
    a5t n ax1 b1 kont1 mx1 (isub .i64 i1 1)
  else
   kont1 := rfl
def a7e (n : Nat) (ax1 : (List Int)) (b1 : (List Int)) : Option Int :=
 bif (ax1.length : Int) != (b1.length : Int) then
  (a4o n (ax1.length : Int) (b1.length : Int)).bind fun v1 =>
  some v1
 else
  a5t n ax1 b1 (
   some 0) n (isub .i64 (ax1.length : Int) 1)
set_option maxHeartbeats 1000000 in
set_option maxRecDepth 1000000 in
theorem b1d (n : Nat) (ax1 : (List Int)) (b1 : (List Int)) (r : Int) (hm : a7e n ax1 b1 = some r) {w : World} {F : Frz} (hs : Sat F w) {as1 : Option Addr} {ns1 : Nat} {cs1 : Nat} {as2 : Option Addr} {ns2 : Nat} {cs2 : Nat} (hs1 : SlR (Rp.int .i64) F as1 ns1 cs1 ax1) (hs2 : SlR (Rp.int .i64) F as2 ns2 cs2 b1) :
  Calls Tryz.prog 85 #[.slice as1 ns1 cs1, .slice as2 ns2 cs2] w fun e w' => ∃ v F' O', e = .returned v ∧ HS F w [] F' O' w' ∧ (v = .int .i64 r ∧ O' = []) := by
 unfold a7e at hm
 have h := HS.init hs
 refine a1a 41 Tryz.func85 rfl rfl rfl ?_
 refine a0f (a0a (a0b rfl rfl rfl (a0c (a0d (a0f (a0f (a0a (a0e rfl rfl rfl ?_))))))))
 refine a1u hs1.len u28 rfl rfl rfl ?_
 refine a0e rfl rfl rfl ?_
 refine a1u hs2.len u28 rfl rfl rfl ?_
 refine a0u rfl rfl rfl rfl rfl ?_
 refine a0c (a0d ?_)
 rcases a0g hm with ⟨hb1, hm⟩ | ⟨hb1, hm⟩
 ·refine a0t 10 rfl hb1 ?_
  refine a0y rfl (a0f (a0a (a0e rfl rfl rfl ?_)))
  refine a1u hs1.len u28 rfl rfl rfl ?_
  refine a0e rfl rfl rfl ?_
  refine a1u hs2.len u28 rfl rfl rfl ?_
  obtain ⟨v1, hv1, hm⟩ := bind_some hm
  refine a3m ent84 rfl rfl rfl rfl (a8t _ _ _ _ hv1) ?_
  refine a0b rfl rfl rfl (a0c (a0d (a1d (a0k ?_))))
  refine a1l rfl rfl ?_
  obtain rfl := Option.some.inj hm
  exact ⟨_, _, _, rfl, h.pick [] (by decide) rfl, rfl, rfl⟩
 ·refine a0t 10 rfl hb1 ?_
  refine a0s rfl (a1e (a0d (a0f (a0f (a0a (a0e rfl rfl rfl ?_))))))
  refine a1u hs1.len u28 rfl rfl rfl ?_
  refine a0u rfl rfl rfl rfl rfl ?_
  refine a0b rfl rfl rfl (a0c (a0d (a1g ?_)))
  intro a hax3
  obtain ⟨kont1, hkont1⟩ : ∃ kont1 : Option Int, kont1 = (
       some 0) := ⟨_, rfl⟩
  replace hm : (fun m (s : Int) => a5t n ax1 b1 kont1 m s) n (isub .i64 (ax1.length : Int) 1) = some r := by rw [hkont1]; exact hm
  refine a5w (id := 0) (fun m (s : Int) => a5t n ax1 b1 kont1 m s) (fun (y : Unit) => kont1) r (fun (s : Int) a w' => ∃ (Fx1 : Frz), Frz.le F Fx1 ∧ HS F w [] Fx1 [] w' ∧ Has 41 a [(0, .slice as1 ns1 cs1), (1, .slice as2 ns2 cs2), (5, .int .i64 s)]) (fun (y : Unit) a w' => ∃ (Fx2 : Frz), Frz.le F Fx2 ∧ HS F w [] Fx2 [] w' ∧ Has 41 a []) (fun _ => rfl) ?_ ?_ hm ⟨_, Frz.refl _, h.pick [] (by decide) rfl, hax3.cut (l := [0, 1, 5]) rfl⟩
  ·clear hm; rintro _u a wx1 hm ⟨Fx2, hF2, hx2, hax1⟩
   rw [hkont1] at hm
   refine a2f (e := .exit 0) hax1 ?_
   refine a1k (a0d (a0f (a0a (a0b rfl rfl rfl (a0c (a0d (a1d ?_)))))))
   refine a1l rfl rfl ?_
   obtain rfl := Option.some.inj hm
   exact ⟨_, _, _, rfl, hx2.pick [] (by decide) rfl, rfl, rfl⟩
  ·clear hm hkont1; intro hk1 mx1 K ihx1
   rintro i1 a wx2 hm ⟨Fx1, hF1, hx1, hax2⟩
   simp only [a9w] at hm
   refine a1i hax2 ?_
   refine a0f (a0f (a0a (a0e rfl rfl rfl ?_)))
   refine a0u rfl rfl rfl rfl rfl ?_
   refine a0c (a0d ?_)
   rcases a0g hm with ⟨hb2, hm⟩ | ⟨hb2, hm⟩
   ·refine a0t 20 rfl hb2 ?_
    refine a0y rfl (a1e (a0d (a0f (a1g (a0f ?_)))))
    refine a4f (by kernel_rfl) (by kernel_rfl) hx1 ?_
    refine a1h rfl rfl rfl rfl (fun _ _ _ _ => a0e rfl rfl rfl (a0c (qq rfl))) ?_
    refine a1h rfl rfl rfl rfl (fun _ _ _ _ => a0e rfl rfl rfl (a0c (qq rfl))) ?_
    obtain ⟨ex1, he1, hm⟩ := bind_some hm
    obtain ⟨b2, o1, cs1, hf1, hr1, hrun1⟩ := a2s (P := Tryz.prog) (r := (Rp.int .i64)) u28 sz3 (hs1.mono hF1) he1
    have hc1 : cs1 = [.int .i64 ex1] := hr1
    subst hc1
    refine a3i rfl rfl rfl rfl hrun1 ?_
    refine a1h rfl rfl rfl rfl (fun _ _ hleq hq => a2h (j := 0) ag3 rfl rfl hq (hf1.mono hleq) rfl rfl (a0c (qq rfl))) ?_
    refine a1h rfl rfl rfl rfl (fun _ _ _ _ => a0e rfl rfl rfl (a0c (qq rfl))) ?_
    refine a1h rfl rfl rfl rfl (fun _ _ _ _ => a0e rfl rfl rfl (a0c (qq rfl))) ?_
    obtain ⟨ex2, he2, hm⟩ := bind_some hm
    obtain ⟨b3, o2, cs2, hf2, hr2, hrun2⟩ := a2s (P := Tryz.prog) (r := (Rp.int .i64)) u28 sz3 (hs2.mono hF1) he2
    have hc2 : cs2 = [.int .i64 ex2] := hr2
    subst hc2
    refine a3i rfl rfl rfl rfl hrun2 ?_
    refine a1h rfl rfl rfl rfl (fun _ _ hleq hq => a2h (j := 0) ag3 rfl rfl hq (hf2.mono hleq) rfl rfl (a0c (qq rfl))) ?_
    refine a1h rfl rfl rfl rfl (fun _ _ _ _ => a0u rfl rfl rfl rfl rfl (a0c (qq rfl))) ?_
    refine b2i ?_
    rintro wx3 ⟨Fx3, hF3, hx3⟩
    refine a0d ?_
    rcases a0g hm with ⟨hb3, hm⟩ | ⟨hb3, hm⟩
    ·refine a0t 31 rfl hb3 ?_
     refine a0y rfl (a0f ?_)
     refine a4f (by kernel_rfl) (by kernel_rfl) hx3 ?_
     refine a1h rfl rfl rfl rfl (fun _ _ _ _ => a0e rfl rfl rfl (a0c (qq rfl))) ?_
     refine a1h rfl rfl rfl rfl (fun _ _ _ _ => a0e rfl rfl rfl (a0c (qq rfl))) ?_
     obtain ⟨ex3, he3, hm⟩ := bind_some hm
     obtain ⟨b4, o3, cs3, hf3, hr3, hrun3⟩ := a2s (P := Tryz.prog) (r := (Rp.int .i64)) u28 sz3 ((hs1.mono hF1).mono hF3) he3
     have hc3 : cs3 = [.int .i64 ex3] := hr3
     subst hc3
     refine a3i rfl rfl rfl rfl hrun3 ?_
     refine a1h rfl rfl rfl rfl (fun _ _ hleq hq => a2h (j := 0) ag3 rfl rfl hq (hf3.mono hleq) rfl rfl (a0c (qq rfl))) ?_
     refine a1h rfl rfl rfl rfl (fun _ _ _ _ => a0e rfl rfl rfl (a0c (qq rfl))) ?_
     refine a1h rfl rfl rfl rfl (fun _ _ _ _ => a0e rfl rfl rfl (a0c (qq rfl))) ?_
     obtain ⟨ex4, he4, hm⟩ := bind_some hm
     obtain ⟨b5, o4, cs4, hf4, hr4, hrun4⟩ := a2s (P := Tryz.prog) (r := (Rp.int .i64)) u28 sz3 ((hs2.mono hF1).mono hF3) he4
     have hc4 : cs4 = [.int .i64 ex4] := hr4
     subst hc4
     refine a3i rfl rfl rfl rfl hrun4 ?_
     refine a1h rfl rfl rfl rfl (fun _ _ hleq hq => a2h (j := 0) ag3 rfl rfl hq (hf4.mono hleq) rfl rfl (a0c (qq rfl))) ?_
     obtain ⟨v2, hv2, hm⟩ := bind_some hm
     refine b0w ent84 rfl rfl rfl rfl (fun _ _ hleq hq => a8t _ _ _ _ hv2) ?_
     refine a1h rfl rfl rfl rfl (fun _ _ _ _ => a0b rfl rfl rfl (a0c (qq rfl))) ?_
     refine b2i ?_
     rintro wx4 ⟨Fx4, hF4, hx4⟩
     refine a0d (a1d (a0x (a0k (a0k (a0x (a0k ?_))))))
     refine a1l rfl rfl ?_
     obtain rfl := Option.some.inj hm
     exact ⟨_, _, _, rfl, hx4.pick [] (by decide) rfl, rfl, rfl⟩
    ·refine a0t 31 rfl hb3 ?_
     refine a0s rfl (a1e (a1m (a0d (a0a (a0e rfl rfl rfl ?_)))))
     refine a0u rfl rfl rfl rfl rfl ?_
     refine a0b rfl rfl rfl (a0c ?_)
     refine a0n (fun a ha => ihx1 (isub .i64 i1 1) a _ hm ?_)
     exact ⟨_, (hF1.trans hF3), hx3.pick [] (by decide) rfl, ha.cut (l := [0, 1, 5]) rfl⟩
   ·refine a0t 20 rfl hb2 ?_
    refine a0s rfl (a3u (a0w (a0w ?_)))
    refine fun a ha => hk1 () a _ hm ?_
    exact ⟨_, hF1, hx1.pick [] (by decide) rfl, ha.cut (l := []) rfl⟩
theorem ent44 : Ent Tryz.prog 44 := fun _ _ => by kernel_rfl
theorem ent85 : Ent Tryz.prog 85 := fun _ _ => by kernel_rfl
def b0k (n : Nat) (ax1 : Big) (b1 : Big) : Option Int :=
 (a3p n ax1).bind fun v1 =>
 (bif !v1 then
  some true
 else
  (a3p n b1).bind fun v5 =>
  some (!v5)).bind fun v2 =>
 bif v2 then
  some 0
 else
  bif ax1.Sign != b1.Sign then
   (a4o n ax1.Sign b1.Sign).bind fun v3 =>
   some v3
  else
   (a7e n ax1.Digits b1.Digits).bind fun v4 =>
   some (imul .i64 ax1.Sign v4)
set_option maxHeartbeats 1000000 in
set_option maxRecDepth 1000000 in
theorem b8o (n : Nat) (ax1 : Big) (b1 : Big) (r : Int) (hm : b0k n ax1 b1 = some r) {w : World} {F : Frz} (hs : Sat F w) {as1 : Option Addr} {ns1 : Nat} {cs1 : Nat} {as2 : Option Addr} {ns2 : Nat} {cs2 : Nat} (hs1 : SlR (Rp.int .i64) F as1 ns1 cs1 ax1.Digits) (hs2 : SlR (Rp.int .i64) F as2 ns2 cs2 b1.Digits) :
  Calls Tryz.prog 47 #[.agg #[.int .i64 ax1.Sign, .slice as1 ns1 cs1], .agg #[.int .i64 b1.Sign, .slice as2 ns2 cs2]] w fun e w' => ∃ v F' O', e = .returned v ∧ HS F w [] F' O' w' ∧ (v = .int .i64 r ∧ O' = []) := by
 unfold b0k at hm
 have h := HS.init hs
 refine a1a 31 Tryz.func47 rfl rfl rfl ?_
 refine a0f (a0a ?_)
 refine a2t rfl rfl rfl rfl h ?_
 intro b2 wx1 hx1
 refine a2t rfl rfl rfl rfl hx1 ?_
 intro b3 wx2 hx2
 refine a0b rfl rfl rfl (a0c (a0d (a0f (a0f (a0a ?_)))))
 refine a0l ag35 sz35 rfl rfl hx2 rfl (i := 1) rfl rfl ?_
 obtain ⟨v1, hv1, hm⟩ := bind_some hm
 refine a0i ent44 rfl rfl rfl rfl hx2 (a3f _ _ _ hv1 hx2.sat hs1) ?_
 rintro _ Fx1 _ wx3 hF1 hx3 ⟨rfl, rfl⟩
 refine a4g rfl rfl rfl (a0e rfl rfl rfl ?_)
 obtain ⟨v2, hb1, hm⟩ := bind_some hm
 refine a2r 4 (fun a w' => ∃ (Fx2 : Frz), Frz.le Fx1 Fx2 ∧ HS F w [] Fx2 [.box b3 35 [.int .i64 b1.Sign, .slice as2 ns2 cs2], .box b2 35 [.int .i64 ax1.Sign, .slice as1 ns1 cs1]] w' ∧ Has 31 a [(2, .pointer (some ⟨b2, 0, none⟩)), (3, .pointer (some ⟨b3, 0, none⟩)), (12, .bool v2)]) ?_ ?_
 ·rintro a wx4 ⟨Fx2, hF2, hx4, hax1⟩
  refine a1f hax1 ?_
  refine a0c (a0d ?_)
  rcases a0g hm with ⟨hb2, hm⟩ | ⟨hb2, hm⟩
  ·refine a0t 12 rfl hb2 ?_
   refine a0y rfl (a0f (a0a (a0b rfl rfl rfl (a0c (a0d (a1d (a0k ?_)))))))
   refine a1l rfl rfl ?_
   obtain rfl := Option.some.inj hm
   exact ⟨_, _, _, rfl, hx4.pick [] (by decide) rfl, rfl, rfl⟩
  ·refine a0t 12 rfl hb2 ?_
   refine a0s rfl (a1e (a0d (a0f (a0f (a0a ?_)))))
   refine a0h fa35_0 rfl rfl rfl ?_
   refine a0r ag3 rfl rfl hx4 rfl (i := 1) rfl rfl ?_
   refine a0h fa35_0 rfl rfl rfl ?_
   refine a0r ag3 rfl rfl hx4 rfl (i := 0) rfl rfl ?_
   refine a0u rfl rfl rfl rfl rfl ?_
   refine a0c (a0d ?_)
   rcases a0g hm with ⟨hb3, hm⟩ | ⟨hb3, hm⟩
   ·refine a0t 17 rfl hb3 ?_
    refine a0y rfl (a0f (a0a ?_))
    refine a0h fa35_0 rfl rfl rfl ?_
    refine a0r ag3 rfl rfl hx4 rfl (i := 1) rfl rfl ?_
    refine a0h fa35_0 rfl rfl rfl ?_
    refine a0r ag3 rfl rfl hx4 rfl (i := 0) rfl rfl ?_
    obtain ⟨v3, hv2, hm⟩ := bind_some hm
    refine a3m ent84 rfl rfl rfl rfl (a8t _ _ _ _ hv2) ?_
    refine a0b rfl rfl rfl (a0c (a0d (a1d (a0k ?_))))
    refine a1l rfl rfl ?_
    obtain rfl := Option.some.inj hm
    exact ⟨_, _, _, rfl, hx4.pick [] (by decide) rfl, rfl, rfl⟩
   ·refine a0t 17 rfl hb3 ?_
    refine a0s rfl (a1e (a0d (a0f ?_)))
    refine a4f (by kernel_rfl) (by kernel_rfl) hx4 ?_
    refine a1h rfl rfl rfl rfl (fun _ _ _ _ => a0h fa35_0 rfl rfl rfl (a0c (qq rfl))) ?_
    refine a1h rfl rfl rfl rfl (fun _ _ _ hq => a0r ag3 rfl rfl hq rfl (i := 1) rfl rfl (a0c (qq rfl))) ?_
    refine a1h rfl rfl rfl rfl (fun _ _ _ _ => a0h fa35_1 rfl rfl rfl (a0c (qq rfl))) ?_
    refine a1h rfl rfl rfl rfl (fun _ _ _ hq => a0r ag28 rfl rfl hq rfl (i := 1) rfl rfl (a0c (qq rfl))) ?_
    refine a1h rfl rfl rfl rfl (fun _ _ _ _ => a0h fa35_1 rfl rfl rfl (a0c (qq rfl))) ?_
    refine a1h rfl rfl rfl rfl (fun _ _ _ hq => a0r ag28 rfl rfl hq rfl (i := 0) rfl rfl (a0c (qq rfl))) ?_
    obtain ⟨v4, hv3, hm⟩ := bind_some hm
    refine b1r ent85 rfl rfl rfl rfl (fun _ _ hleq hq => b1d _ _ _ _ hv3 hq.sat (((hs1.mono hF1).mono hF2).mono hleq) (((hs2.mono hF1).mono hF2).mono hleq)) ?_
    refine a1h rfl rfl rfl rfl (fun _ _ _ _ => a0u rfl rfl rfl rfl rfl (a0c (qq rfl))) ?_
    refine a1h rfl rfl rfl rfl (fun _ _ _ _ => a0b rfl rfl rfl (a0c (qq rfl))) ?_
    refine b2i ?_
    rintro wx5 ⟨Fx3, hF3, hx5⟩
    refine a0d (a1d ?_)
    refine a1l rfl rfl ?_
    obtain rfl := Option.some.inj hm
    exact ⟨_, _, _, rfl, hx5.pick [] (by decide) rfl, rfl, rfl⟩
 ·clear hm
  rcases a0g hb1 with ⟨hb4, hb1⟩ | ⟨hb4, hb1⟩
  ·refine a1j 8 rfl hb4 ?_
   refine a0z rfl (by decide) rfl (a0z rfl (by decide) rfl (a0z rfl (by decide) rfl (a0q rfl rfl rfl rfl (a0c ?_))))
   refine a0n (fun a ha => ?_)
   cases hb1
   exact ⟨_, Frz.refl _, hx3.pick [0, 1] (by decide) rfl, ha.cut (l := [2, 3, 12]) rfl⟩
  ·refine a1j 8 rfl hb4 ?_
   refine a0l ag35 sz35 rfl rfl hx3 rfl (i := 0) rfl rfl ?_
   obtain ⟨v5, hv4, hb1⟩ := bind_some hb1
   refine a0i ent44 rfl rfl rfl rfl hx3 (a3f _ _ _ hv4 hx3.sat (hs2.mono hF1)) ?_
   rintro _ Fx4 _ wx6 hF4 hx6 ⟨rfl, rfl⟩
   refine a4g rfl rfl rfl (a0m rfl rfl rfl rfl (a0c ?_))
   refine a0n (fun a ha => ?_)
   cases hb1
   exact ⟨_, hF4, hx6.pick [0, 1] (by decide) rfl, ha.cut (l := [2, 3, 12]) rfl⟩
theorem ap28 : AppIs Tryz.prog 28 3 1 8 := AppIs.of (z := .int .i64 0) (by kernel_rfl) (by kernel_rfl) rfl (by decide) (by decide)
def a1s (_n : Nat) (s1 : (List Int)) : Option (List Int) := app 8 [] s1
set_option maxHeartbeats 1000000 in
theorem a1x (n : Nat) (s1 : (List Int)) (r : (List Int)) (hm : a1s n s1 = some r) {w : World} {F : Frz} (hs : Sat F w) {as1 : Option Addr} {ns1 : Nat} {cs1 : Nat} (hs1 : SlR (Rp.int .i64) F as1 ns1 cs1 s1) :
  Calls Tryz.prog 67 #[.slice as1 ns1 cs1] w fun e w' => ∃ v F' O', e = .returned v ∧ HS F w [] F' O' w' ∧ (∃ (a0_0 : Option Addr) (n0_0 : Nat) (c0_0 : Nat) (xs0_0 : List Value), v = .slice a0_0 n0_0 c0_0 ∧ O' = [.row 3 1 a0_0 n0_0 c0_0 xs0_0] ∧ RowN (Rp.int .i64) F' n0_0 xs0_0 r) := by
 unfold a1s at hm
 have h := HS.init hs
 refine a1a (args := [.slice as1 ns1 cs1]) 8 Tryz.func67 rfl rfl rfl ?_
 refine a0f (a0a (a0b rfl rfl rfl (a0c (a0d (a0f (a0f (a0a (a0e rfl rfl rfl ?_))))))))
 refine d1u u28 rfl rfl rfl ?_
 refine a0c (a0d ?_)
 cases as1 with
 | none =>
  have h0 : s1 = [] := by
   rcases hs1.2.2.2 with h0 | ⟨_, _, _, h0, _⟩
   ·exact h0
   ·cases h0
  subst h0
  simp only [app, List.length_nil, Nat.add_zero, Nat.zero_mul, Nat.zero_le, if_true, List.append_nil, Option.some.injEq] at hm
  subst hm
  refine a0y rfl (a0f (a0a (a0b rfl rfl rfl (a0c (a0d (a1d (a0k ?_)))))))
  refine a1l rfl rfl ?_
  exact ⟨_, _, _, rfl, h.nilRow 3 1, none, 0, 0, [], rfl, rfl, rfl, rfl⟩
 | some ad =>
  refine a0s rfl (a1e (a0d (a0f (a0a ?_))))
  refine a1q (e := 3) (cs := []) (q := 1) rfl rfl h rfl (fun _ => by kernel_rfl) rfl rfl ?_
  intro b1 w1 h1
  refine a0e rfl rfl rfl ?_
  refine b7b (r := (Rp.int .i64)) ap28 rfl rfl rfl h1 rfl rfl (i := 0) rfl (show RowN (Rp.int .i64) _ 0 [] [] from ⟨rfl, rfl⟩) hs1 hm ?_
  intro a2 c2 w2 xs2 h2 hr2
  refine a0b rfl rfl rfl (a0c (a0d (a1d ?_)))
  refine a1l rfl rfl ?_
  exact ⟨_, _, _, rfl, h2, a2, _, c2, xs2, rfl, rfl, hr2⟩
theorem ent67 : Ent Tryz.prog 67 := fun _ _ => by kernel_rfl
theorem ent82 : Ent Tryz.prog 82 := fun _ _ => by kernel_rfl
def b1a (n : Nat) (ax1 : Big) : Option Big :=
 (a3p n ax1).bind fun v1 =>
 bif !v1 then
  some (⟨0, []⟩ : Big)
 else
  (a1s n ax1.Digits).bind fun v2 =>
  (a3k n (IntKind.i64.wrap (0 - ax1.Sign)) v2).bind fun v3 =>
  some v3
set_option maxHeartbeats 1000000 in
set_option maxRecDepth 1000000 in
theorem a6k (n : Nat) (ax1 : Big) (r : Big) (hm : b1a n ax1 = some r) {w : World} {F : Frz} (hs : Sat F w) {as1 : Option Addr} {ns1 : Nat} {cs1 : Nat} (hs1 : SlR (Rp.int .i64) F as1 ns1 cs1 ax1.Digits) :
  Calls Tryz.prog 52 #[.agg #[.int .i64 ax1.Sign, .slice as1 ns1 cs1]] w fun e w' => ∃ v F' O', e = .returned v ∧ HS F w [] F' O' w' ∧ (∃ (a0_1 : Option Addr) (n0_1 : Nat) (c0_1 : Nat), v = .agg #[.int .i64 r.Sign, .slice a0_1 n0_1 c0_1] ∧ O' = [] ∧ SlR (Rp.int .i64) F' a0_1 n0_1 c0_1 r.Digits) := by
 unfold b1a at hm
 have h := HS.init hs
 refine a1a 14 Tryz.func52 rfl rfl rfl ?_
 refine a0f (a0a ?_)
 refine a2t rfl rfl rfl rfl h ?_
 intro b1 wx1 hx1
 refine a1b ze35 rfl rfl rfl hx1 ?_
 intro b2 wx2 hx2
 refine a0c (a0d (a0f (a0f (a0a ?_))))
 refine a0l ag35 sz35 rfl rfl hx2 rfl (i := 1) rfl rfl ?_
 obtain ⟨v1, hv1, hm⟩ := bind_some hm
 refine a0i ent44 rfl rfl rfl rfl hx2 (a3f _ _ _ hv1 hx2.sat hs1) ?_
 rintro _ Fx1 _ wx3 hF1 hx3 ⟨rfl, rfl⟩
 refine a4g rfl rfl rfl (a0c (a0d ?_))
 rcases a0g hm with ⟨hb1, hm⟩ | ⟨hb1, hm⟩
 ·refine a0t 5 rfl hb1 ?_
  refine a0y rfl (a0f (a0a ?_))
  refine a2b (v := .agg #[.int .i64 0, .slice none 0 0]) rfl rfl rfl (fun _ => by kernel_rfl) ?_
  refine a0p sz35 rfl hx3 rfl rfl rfl rfl (i := 0) rfl rfl rfl rfl ?_
  intro wx4 hx4
  refine a0c (a0d (a1d (a0k ?_)))
  refine a3r rfl ag35 sz35 rfl hx4 rfl (i := 0) rfl ?_
  obtain rfl := Option.some.inj hm
  exact ⟨_, _, _, rfl, hx4.pick [] (by decide) rfl, none, 0, 0, rfl, rfl, SlR.nil _ _⟩
 ·refine a0t 5 rfl hb1 ?_
  refine a0s rfl (a1e (a0d (a0f ?_)))
  refine a1w (SH Fx1 [.box b1 35 [.int .i64 ax1.Sign, .slice as1 ns1 cs1]]) 8 rfl (by kernel_rfl) hx3 ?_
  intro wx5 hx5
  refine d_tk 0 rfl (by kernel_rfl) rfl rfl rfl rfl (hx5.sh (Frz.refl _) [1] (by decide) rfl) (fun _ _ _ _ _ => a0h fa35_0 rfl rfl rfl (a0c (qq rfl))) ?_
  refine d_tk 1 rfl (by kernel_rfl) rfl rfl rfl rfl (hx5.sh (Frz.refl _) [1] (by decide) rfl) (fun _ _ _ _ hq => a0r ag3 rfl rfl hq rfl (i := 0) rfl rfl (a0c (qq rfl))) ?_
  refine d_tk 2 rfl (by kernel_rfl) rfl rfl rfl rfl (hx5.sh (Frz.refl _) [1] (by decide) rfl) (fun _ _ _ _ _ => c3x rfl rfl rfl (a0c (qq rfl))) ?_
  refine d_tk 3 rfl (by kernel_rfl) rfl rfl rfl rfl (hx5.sh (Frz.refl _) [1] (by decide) rfl) (fun _ _ _ _ _ => a0h fa35_1 rfl rfl rfl (a0c (qq rfl))) ?_
  refine d_tk 4 rfl (by kernel_rfl) rfl rfl rfl rfl (hx5.sh (Frz.refl _) [1] (by decide) rfl) (fun _ _ _ _ hq => a0r ag28 rfl rfl hq rfl (i := 0) rfl rfl (a0c (qq rfl))) ?_
  refine a0v 5 rfl (by kernel_rfl) ?_
  obtain ⟨v2, hv2, hm⟩ := bind_some hm
  refine a0i ent67 rfl rfl rfl rfl hx5 (a1x _ _ _ hv2 hx5.sat (hs1.mono hF1)) ?_
  rintro _ Fx2 _ wx6 hF2 hx6 ⟨as2, ns2, cs2, xss2, rfl, rfl, hs2⟩
  refine a0o (hx6.sh hF2 [2] (by decide) rfl) ?_
  refine a0v 6 rfl (by kernel_rfl) ?_
  obtain ⟨Fx3, hF3, hx7, hsx1⟩ := a1c hx6 (i := 0) rfl hs2
  obtain ⟨v3, hv3, hm⟩ := bind_some hm
  refine a0i ent82 rfl rfl rfl rfl hx7 (a4a _ _ _ _ hv3 hx7.sat hsx1) ?_
  rintro _ Fx4 _ wx7 hF4 hx8 ⟨as3, ns3, cs3, rfl, rfl, hs3⟩
  refine a0o (hx8.sh ((hF2.trans hF3).trans hF4) [1] (by decide) rfl) ?_
  refine a0v 7 rfl (by kernel_rfl) ?_
  refine a0p sz35 rfl hx8 rfl rfl rfl rfl (i := 0) rfl rfl rfl rfl ?_
  intro wx8 hx9
  refine a0o (hx9.sh ((hF2.trans hF3).trans hF4) [1] (by decide) rfl) ?_
  refine a2g (by kernel_rfl) ?_
  refine a0d (a1d ?_)
  refine a3r rfl ag35 sz35 rfl hx9 rfl (i := 0) rfl ?_
  obtain rfl := Option.some.inj hm
  exact ⟨_, _, _, rfl, hx9.pick [] (by decide) rfl, as3, ns3, cs3, rfl, rfl, hs3⟩
theorem zi3 : (Tryz.prog.info? 3).map (·.zero) = some (some (.int .i64 0)) := by kernel_rfl
def a8e (n : Nat) (ax2 : (List Int)) (b2 : (List Int)) (kont1 : Int → (List Int) → Option (List Int)) : Nat → Int → Int → (List Int) → Option (List Int)
 | 0, _, _, _ => none
 | mx1 + 1, carry1, i1, l2 =>
  bif decide (i1 < (ax2.length : Int)) then
   (ix ax2 i1).bind fun ex2 =>
   (bif decide (i1 < (b2.length : Int)) then
    (ix b2 i1).bind fun ex4 =>
    some (iadd .i64 (iadd .i64 carry1 ex2) ex4)
   else
    some (iadd .i64 carry1 ex2)).bind fun carry3 =>
   (ix l2 i1).bind fun _ =>
   (lset l2 i1 (iand .i64 carry3 1048575)).bind fun l5 =>
   (shr .i64 carry3 20).bind fun q1 =>
   a8e n ax2 b2 kont1 mx1 q1 (iadd .i64 i1 1) l5
  else
   kont1 carry1 l2
theorem b2j (n : Nat) (ax2 : (List Int)) (b2 : (List Int)) (kont1 : Int → (List Int) → Option (List Int)) (mx1 : Nat) (carry1 : Int) (i1 : Int) (l2 : List Int) : a8e n ax2 b2 kont1 (mx1 + 1) carry1 i1 l2 =
  bif decide (i1 < (ax2.length : Int)) then
   (ix ax2 i1).bind fun ex2 =>
   (bif decide (i1 < (b2.length : Int)) then
    (ix b2 i1).bind fun ex4 =>
    some (iadd .i64 (iadd .i64 carry1 ex2) ex4)
   else
    some (iadd .i64 carry1 ex2)).bind fun carry3 =>
   (ix l2 i1).bind fun _ =>
   (lset l2 i1 (iand .i64 carry3 1048575)).bind fun l5 =>
   (shr .i64 carry3 20).bind fun q1 =>
   a8e n ax2 b2 kont1 mx1 q1 (iadd .i64 i1 1) l5
  else
   kont1 carry1 l2 := rfl
def b4i (n : Nat) (ax1 : (List Int)) (b1 : (List Int)) : Option (List Int) :=
 (bif decide ((ax1.length : Int) < (b1.length : Int)) then
  some (b1, ax1)
 else
  some (ax1, b1)).bind fun (ax2, b2) =>
 (mks 8 0 (iadd .i64 (ax2.length : Int) 1)).bind fun l1 =>
 a8e n ax2 b2 (fun (carry2 : Int) (l3 : List Int) =>
  (ix l3 (ax2.length : Int)).bind fun _ =>
  (lset l3 (ax2.length : Int) carry2).bind fun l4 =>
  (a3l n l4).bind fun v1 =>
  some v1) n 0 0 l1
set_option maxHeartbeats 1000000 in
set_option maxRecDepth 1000000 in
theorem b8x (n : Nat) (ax1 : (List Int)) (b1 : (List Int)) (r : (List Int)) (hm : b4i n ax1 b1 = some r) {w : World} {F : Frz} (hs : Sat F w) {as1 : Option Addr} {ns1 : Nat} {cs1 : Nat} {as2 : Option Addr} {ns2 : Nat} {cs2 : Nat} (hs1 : SlR (Rp.int .i64) F as1 ns1 cs1 ax1) (hs2 : SlR (Rp.int .i64) F as2 ns2 cs2 b1) :
  Calls Tryz.prog 95 #[.slice as1 ns1 cs1, .slice as2 ns2 cs2] w fun e w' => ∃ v F' O', e = .returned v ∧ HS F w [] F' O' w' ∧ (∃ (a0_0 : Option Addr) (n0_0 : Nat) (c0_0 : Nat) (xs0_0 : List Value), v = .slice a0_0 n0_0 c0_0 ∧ O' = [.row 3 1 a0_0 n0_0 c0_0 xs0_0] ∧ RowN (Rp.int .i64) F' n0_0 xs0_0 r) := by
 unfold b4i at hm
 have h := HS.init hs
 refine a1a 55 Tryz.func95 rfl rfl rfl ?_
 refine a0f (a0a (a0b rfl rfl rfl (a0c (a0d (a0f (a0f (a0a (a0e rfl rfl rfl ?_))))))))
 refine a1u hs1.len u28 rfl rfl rfl ?_
 refine a0e rfl rfl rfl ?_
 refine a1u hs2.len u28 rfl rfl rfl ?_
 refine a0u rfl rfl rfl rfl rfl ?_
 refine a0c (a0d ?_)
 obtain ⟨⟨ax2, b2⟩, hb1, hm⟩ := bind_some hm
 refine a8f (fun a w' => ∃ (as3 : Option Addr) (ns3 : Nat) (cs3 : Nat) (as4 : Option Addr) (ns4 : Nat) (cs4 : Nat), w = w' ∧ (SlR (Rp.int .i64) F as3 ns3 cs3 ax2) ∧ (SlR (Rp.int .i64) F as4 ns4 cs4 b2) ∧ Has 55 a [(0, .slice as3 ns3 cs3), (1, .slice as4 ns4 cs4)]) ?_ ?_
 ·rintro a wx1 ⟨as3, ns3, cs3, as4, ns4, cs4, rfl, hs3, hs4, hax1⟩
  refine a1i hax1 ?_
  refine a0f (a0a (a0e rfl rfl rfl ?_))
  refine a1u hs3.len u28 rfl rfl rfl ?_
  refine a0u rfl rfl rfl rfl rfl ?_
  obtain ⟨l1, hl1, hm⟩ := bind_some hm
  refine b8u (r := (Rp.int .i64)) ap28 zi3 (fun _ => rfl) rfl rfl rfl h rfl rfl hl1 ?_
  intro b3 wx2 xs1 hx1 hr1
  refine a0b rfl rfl rfl (a0c (a0d (a0f (a0a (a0b rfl rfl rfl (a0c (a0d (a0f (a0f (a0a (a0e rfl rfl rfl ?_)))))))))))
  refine a1u hs3.len u28 rfl rfl rfl ?_
  refine a0e rfl rfl rfl (a0c (a0d (a1g ?_)))
  intro a hax7
  obtain ⟨kont1, hkont1⟩ : ∃ kont1 : Int → (List Int) → Option (List Int), kont1 = (fun (carry2 : Int) (l3 : List Int) =>
       (ix l3 (ax2.length : Int)).bind fun ex1 =>
       (lset l3 (ax2.length : Int) carry2).bind fun l4 =>
       (a3l n l4).bind fun v1 =>
       some v1) := ⟨_, rfl⟩
  replace hm : (fun m (s : Int × Int × List Int) => a8e n ax2 b2 kont1 m s.1 s.2.1 s.2.2) n (0, 0, l1) = some r := by rw [hkont1]; exact hm
  refine a5w (id := 0) (fun m (s : Int × Int × List Int) => a8e n ax2 b2 kont1 m s.1 s.2.1 s.2.2) (fun (y : Int × List Int) => kont1 y.1 y.2) r (fun (s : Int × Int × List Int) a w' => ∃ (Fx1 : Frz) (as5 : Option Addr) (ns5 : Nat) (cs5 : Nat) (xss5 : List Value), Frz.le F Fx1 ∧ HS F w [] Fx1 [.row 3 1 as5 ns5 cs5 xss5] w' ∧ (RowN (Rp.int .i64) Fx1 ns5 xss5 s.2.2) ∧ Has 55 a [(0, .slice as3 ns3 cs3), (1, .slice as4 ns4 cs4), (5, .slice as5 ns5 cs5), (6, .int .i64 s.1), (20, .slice as3 ns3 cs3), (21, .int .i64 (ax2.length : Int)), (22, .int .i64 s.2.1)]) (fun (y : Int × List Int) a w' => ∃ (Fx2 : Frz) (as6 : Option Addr) (ns6 : Nat) (cs6 : Nat) (xss6 : List Value), Frz.le F Fx2 ∧ HS F w [] Fx2 [.row 3 1 as6 ns6 cs6 xss6] w' ∧ (RowN (Rp.int .i64) Fx2 ns6 xss6 y.2) ∧ Has 55 a [(0, .slice as3 ns3 cs3), (5, .slice as6 ns6 cs6), (6, .int .i64 y.1)]) (fun _ => rfl) ?_ ?_ hm ⟨_, (some ⟨b3, 0, none⟩), ((iadd .i64 (ax2.length : Int) 1).toNat), ((iadd .i64 (ax2.length : Int) 1).toNat), xs1, Frz.refl _, hx1.pick [0] (by decide) rfl, hr1, hax7.cut (l := [0, 1, 5, 6, 20, 21, 22]) rfl⟩
  ·clear hm; rintro ⟨carry2, l3⟩ a wx3 hm ⟨Fx2, as6, ns6, cs6, xss6, hF2, hx3, hs6, hax2⟩
   rw [hkont1] at hm
   replace hm := hm
   refine a2f (e := .exit 0) hax2 ?_
   refine a1k (a0d (a0f (a0a (a0e rfl rfl rfl (a0e rfl rfl rfl ?_)))))
   refine a1u hs3.len u28 rfl rfl rfl ?_
   refine a0e rfl rfl rfl ?_
   obtain ⟨ex1, he1, hm⟩ := bind_some hm
   refine a5c (r := (Rp.int .i64)) u28 sz3 rfl rfl hx3 rfl rfl (p := 0) rfl rfl hs6 he1 ?_
   intro b4 o1 cs1 hax3 ho1 hr2 hp1
   have hc1 : cs1 = [.int .i64 ex1] := hr2
   subst hc1
   obtain ⟨l4, hl2, hm⟩ := bind_some hm
   refine a6x (r := (Rp.int .i64)) sz3 rfl hx3 rfl rfl rfl rfl rfl (p := 0) rfl rfl hax3 ho1 hs6 rfl rfl hl2 ?_
   intro wx4 xs2 hx4 hr3
   refine a0c (a0d (a0f (a0a (a0e rfl rfl rfl ?_))))
   obtain ⟨v1, hv1, hm⟩ := bind_some hm
   refine b2n ent121 rfl rfl rfl rfl (a6y _ _ _ hv1 (b0a _) (hx4.viewRow (p := 0) rfl rfl hr3)) ?_
   intro ns7 hles7 hvs7
   obtain ⟨hx5, hr4⟩ := hx4.cutN (p := 0) rfl hr3 hles7
   rw [← hvs7] at hr4
   refine a0b rfl rfl rfl (a0c (a0d (a1d ?_)))
   refine a1l rfl rfl ?_
   obtain rfl := Option.some.inj hm
   exact ⟨_, _, _, rfl, hx5.pick [0] (by decide) rfl, as6, ns7, cs6, (xs2.take (ns7 * ((Rp.int .i64)).k)), rfl, rfl, hr4⟩
  ·clear hm hkont1; intro hk1 mx1 K ihx1
   rintro ⟨carry1, i1, l2⟩ a wx5 hm ⟨Fx1, as5, ns5, cs5, xss5, hF1, hx2, hs5, hax4⟩
   simp only [b2j] at hm
   refine a1i hax4 ?_
   refine a0f (a0a ?_)
   refine a0u rfl rfl rfl rfl rfl ?_
   refine a0c (a0d (a0f ?_))
   rcases a0g hm with ⟨hb2, hm⟩ | ⟨hb2, hm⟩
   ·refine a0t 23 rfl hb2 ?_
    refine a0y rfl (a1e (a0d (a0f (a1g (a0f (a0a (a0e rfl rfl rfl ?_)))))))
    obtain ⟨ex2, he2, hm⟩ := bind_some hm
    refine a2n (r := (Rp.int .i64)) u28 sz3 rfl rfl rfl rfl (hs3.mono hF1) he2 ?_
    intro b5 o2 cs2 hf1 hr5
    have hc2 : cs2 = [.int .i64 ex2] := hr5
    subst hc2
    refine a2h (j := 0) ag3 rfl rfl hx2 hf1 rfl rfl ?_
    refine a0b rfl rfl rfl (a0b rfl rfl rfl (a0c (a0d (a0f (a0a (a0e rfl rfl rfl (a0e rfl rfl rfl ?_)))))))
    refine a0u rfl rfl rfl rfl rfl ?_
    refine a0b rfl rfl rfl (a0c (a0d (a0f (a0f (a0a (a0e rfl rfl rfl (a0e rfl rfl rfl ?_)))))))
    refine a1u hs4.len u28 rfl rfl rfl ?_
    refine a0u rfl rfl rfl rfl rfl ?_
    refine a0c (a0d ?_)
    obtain ⟨carry3, hb3, hm⟩ := bind_some hm
    refine a8f (fun a w' => wx5 = w' ∧ Has 55 a [(0, .slice as3 ns3 cs3), (1, .slice as4 ns4 cs4), (5, .slice as5 ns5 cs5), (6, .int .i64 carry3), (7, .int .i64 i1), (20, .slice as3 ns3 cs3), (21, .int .i64 (ax2.length : Int)), (22, .int .i64 i1)]) ?_ ?_
    ·rintro a wx6 ⟨rfl, hax5⟩
     refine a1i hax5 ?_
     refine a0f (a0a (a0e rfl rfl rfl (a0e rfl rfl rfl (a0e rfl rfl rfl ?_))))
     refine a0u rfl rfl rfl rfl rfl ?_
     obtain ⟨ex3, he3, hm⟩ := bind_some hm
     refine a5c (r := (Rp.int .i64)) u28 sz3 rfl rfl hx2 rfl rfl (p := 0) rfl rfl hs5 he3 ?_
     intro b6 o3 cs3 hax6 ho2 hr6 hp2
     have hc3 : cs3 = [.int .i64 ex3] := hr6
     subst hc3
     obtain ⟨l5, hl3, hm⟩ := bind_some hm
     refine a6x (r := (Rp.int .i64)) sz3 rfl hx2 rfl rfl rfl rfl rfl (p := 0) rfl rfl hax6 ho2 hs5 rfl rfl hl3 ?_
     intro wx7 xs3 hx6 hr7
     refine a0c (a0d (a0a (a0e rfl rfl rfl ?_)))
     obtain ⟨q1, hq1, hm⟩ := bind_some hm
     refine c4g rfl rfl rfl rfl hq1 ?_
     refine a0b rfl rfl rfl (a0c (a1m (a0d (a0a ?_))))
     refine a0u rfl rfl rfl rfl rfl ?_
     refine a0e rfl rfl rfl (a0c ?_)
     refine a0n (fun a ha => ihx1 (q1, (iadd .i64 i1 1), l5) a _ hm ?_)
     exact ⟨_, as5, ns5, cs5, xs3, hF1, hx6.pick [0] (by decide) rfl, hr7, ha.cut (l := [0, 1, 5, 6, 20, 21, 22]) rfl⟩
    ·clear hm
     rcases a0g hb3 with ⟨hb4, hb3⟩ | ⟨hb4, hb3⟩
     ·refine a0t 33 rfl hb4 ?_
      refine a0y rfl (a0a (a0e rfl rfl rfl (a0e rfl rfl rfl (a0e rfl rfl rfl ?_))))
      obtain ⟨ex4, he4, hb3⟩ := bind_some hb3
      refine a2n (r := (Rp.int .i64)) u28 sz3 rfl rfl rfl rfl (hs4.mono hF1) he4 ?_
      intro b7 o4 cs4 hf2 hr8
      have hc4 : cs4 = [.int .i64 ex4] := hr8
      subst hc4
      refine a2h (j := 0) ag3 rfl rfl hx2 hf2 rfl rfl ?_
      refine a0u rfl rfl rfl rfl rfl ?_
      refine a0b rfl rfl rfl (a0c ?_)
      refine a0n (fun a ha => ?_)
      cases hb3
      exact ⟨rfl, ha.cut (l := [0, 1, 5, 6, 7, 20, 21, 22]) rfl⟩
     ·refine a0t 33 rfl hb4 ?_
      refine a0s rfl (a1e ?_)
      refine a0n (fun a ha => ?_)
      cases hb3
      exact ⟨rfl, ha.cut (l := [0, 1, 5, 6, 7, 20, 21, 22]) rfl⟩
   ·refine a0t 23 rfl hb2 ?_
    refine a0s rfl (a3u (a0w (a0w ?_)))
    refine fun a ha => hk1 (carry1, l2) a _ hm ?_
    exact ⟨_, as5, ns5, cs5, xss5, hF1, hx2.pick [0] (by decide) rfl, hs5, ha.cut (l := [0, 5, 6]) rfl⟩
 ·clear hm
  rcases a0g hb1 with ⟨hb5, hb1⟩ | ⟨hb5, hb1⟩
  ·refine a0t 13 rfl hb5 ?_
   refine a0y rfl (a0a (a0e rfl rfl rfl (a0e rfl rfl rfl (a0b rfl rfl rfl (a0b rfl rfl rfl (a0c ?_))))))
   refine a0n (fun a ha => ?_)
   cases hb1
   exact ⟨as2, ns2, cs2, as1, ns1, cs1, rfl, hs2, hs1, ha.cut (l := [0, 1]) rfl⟩
  ·refine a0t 13 rfl hb5 ?_
   refine a0s rfl (a1e ?_)
   refine a0n (fun a ha => ?_)
   cases hb1
   exact ⟨as1, ns1, cs1, as2, ns2, cs2, rfl, hs1, hs2, ha.cut (l := [0, 1]) rfl⟩
def a9e (n : Nat) (b1 : (List Int)) (v1 : (List Int)) (kont1 : (List Int) → Option (List Int)) : Nat → Int → Int → (List Int) → Option (List Int)
 | 0, _, _, _ => none
 | mx1 + 1, borrow1, i1, l1 =>
  bif decide (i1 < (v1.length : Int)) then
   (ix l1 i1).bind fun ex1 =>
   (bif decide (i1 < (b1.length : Int)) then
    (ix b1 i1).bind fun ex3 =>
    some (isub .i64 (isub .i64 ex1 borrow1) ex3)
   else
    some (isub .i64 ex1 borrow1)).bind fun nx1 =>
   (shr .i64 nx1 20).bind fun q1 =>
   (ix l1 i1).bind fun _ =>
   (lset l1 i1 (iand .i64 nx1 1048575)).bind fun l3 =>
   a9e n b1 v1 kont1 mx1 (iand .i64 q1 1) (iadd .i64 i1 1) l3
  else
   kont1 l1
theorem b3b (n : Nat) (b1 : (List Int)) (v1 : (List Int)) (kont1 : (List Int) → Option (List Int)) (mx1 : Nat) (borrow1 : Int) (i1 : Int) (l1 : List Int) : a9e n b1 v1 kont1 (mx1 + 1) borrow1 i1 l1 =
  bif decide (i1 < (v1.length : Int)) then
   (ix l1 i1).bind fun ex1 =>
   (bif decide (i1 < (b1.length : Int)) then
    (ix b1 i1).bind fun ex3 =>
    some (isub .i64 (isub .i64 ex1 borrow1) ex3)
   else
    some (isub .i64 ex1 borrow1)).bind fun nx1 =>
   (shr .i64 nx1 20).bind fun q1 =>
   (ix l1 i1).bind fun _ =>
   (lset l1 i1 (iand .i64 nx1 1048575)).bind fun l3 =>
   a9e n b1 v1 kont1 mx1 (iand .i64 q1 1) (iadd .i64 i1 1) l3
  else
   kont1 l1 := rfl
def b2u (n : Nat) (ax1 : (List Int)) (b1 : (List Int)) : Option (List Int) :=
 (a1s n ax1).bind fun v1 =>
 a9e n b1 v1 (fun (l2 : List Int) =>
  (a3l n l2).bind fun v2 =>
  some v2) n 0 0 v1
set_option maxHeartbeats 1000000 in
set_option maxRecDepth 1000000 in
theorem b5n (n : Nat) (ax1 : (List Int)) (b1 : (List Int)) (r : (List Int)) (hm : b2u n ax1 b1 = some r) {w : World} {F : Frz} (hs : Sat F w) {as1 : Option Addr} {ns1 : Nat} {cs1 : Nat} {as2 : Option Addr} {ns2 : Nat} {cs2 : Nat} (hs1 : SlR (Rp.int .i64) F as1 ns1 cs1 ax1) (hs2 : SlR (Rp.int .i64) F as2 ns2 cs2 b1) :
  Calls Tryz.prog 96 #[.slice as1 ns1 cs1, .slice as2 ns2 cs2] w fun e w' => ∃ v F' O', e = .returned v ∧ HS F w [] F' O' w' ∧ (∃ (a0_0 : Option Addr) (n0_0 : Nat) (c0_0 : Nat) (xs0_0 : List Value), v = .slice a0_0 n0_0 c0_0 ∧ O' = [.row 3 1 a0_0 n0_0 c0_0 xs0_0] ∧ RowN (Rp.int .i64) F' n0_0 xs0_0 r) := by
 unfold b2u at hm
 have h := HS.init hs
 refine a1a 43 Tryz.func96 rfl rfl rfl ?_
 refine a0f (a0a (a0b rfl rfl rfl (a0c (a0d (a0f (a0a (a0e rfl rfl rfl ?_)))))))
 obtain ⟨v1, hv1, hm⟩ := bind_some hm
 refine a0i ent67 rfl rfl rfl rfl h (a1x _ _ _ hv1 h.sat hs1) ?_
 rintro _ Fx1 _ wx1 hF1 hx1 ⟨as3, ns3, cs3, xss3, rfl, rfl, hs3⟩
 refine a0b rfl rfl rfl (a0c (a0d (a0f (a0a (a0b rfl rfl rfl (a0c (a0d (a0f (a0f (a0a (a0e rfl rfl rfl ?_)))))))))))
 refine a1u hs3.len u28 rfl rfl rfl ?_
 refine a0e rfl rfl rfl (a0c (a0d (a1g ?_)))
 intro a hax6
 obtain ⟨kont1, hkont1⟩ : ∃ kont1 : (List Int) → Option (List Int), kont1 = (fun (l2 : List Int) =>
       (a3l n l2).bind fun v2 =>
       some v2) := ⟨_, rfl⟩
 replace hm : (fun m (s : Int × Int × List Int) => a9e n b1 v1 kont1 m s.1 s.2.1 s.2.2) n (0, 0, v1) = some r := by rw [hkont1]; exact hm
 refine a5w (id := 0) (fun m (s : Int × Int × List Int) => a9e n b1 v1 kont1 m s.1 s.2.1 s.2.2) (fun (y : List Int) => kont1 y) r (fun (s : Int × Int × List Int) a w' => ∃ (Fx2 : Frz) (as4 : Option Addr) (ns4 : Nat) (cs4 : Nat) (xss4 : List Value), Frz.le Fx1 Fx2 ∧ HS F w [] Fx2 [.row 3 1 as4 ns4 cs4 xss4] w' ∧ (RowN (Rp.int .i64) Fx2 ns4 xss4 s.2.2) ∧ Has 43 a [(1, .slice as2 ns2 cs2), (5, .slice as4 ns4 cs4), (6, .int .i64 s.1), (12, .int .i64 (v1.length : Int)), (13, .int .i64 s.2.1)]) (fun (y : List Int) a w' => ∃ (Fx3 : Frz) (as5 : Option Addr) (ns5 : Nat) (cs5 : Nat) (xss5 : List Value), Frz.le Fx1 Fx3 ∧ HS F w [] Fx3 [.row 3 1 as5 ns5 cs5 xss5] w' ∧ (RowN (Rp.int .i64) Fx3 ns5 xss5 y) ∧ Has 43 a [(5, .slice as5 ns5 cs5)]) (fun _ => rfl) ?_ ?_ hm ⟨_, as3, ns3, cs3, xss3, Frz.refl _, hx1.pick [0] (by decide) rfl, hs3, hax6.cut (l := [1, 5, 6, 12, 13]) rfl⟩
 ·clear hm; rintro l2 a wx2 hm ⟨Fx3, as5, ns5, cs5, xss5, hF3, hx3, hs5, hax1⟩
  rw [hkont1] at hm
  replace hm := hm
  refine a2f (e := .exit 0) hax1 ?_
  refine a1k (a0d (a0f (a0a (a0e rfl rfl rfl ?_))))
  obtain ⟨v2, hv2, hm⟩ := bind_some hm
  refine b2n ent121 rfl rfl rfl rfl (a6y _ _ _ hv2 (b0a _) (hx3.viewRow (p := 0) rfl rfl hs5)) ?_
  intro ns6 hles6 hvs6
  obtain ⟨hx4, hr1⟩ := hx3.cutN (p := 0) rfl hs5 hles6
  rw [← hvs6] at hr1
  refine a0b rfl rfl rfl (a0c (a0d (a1d ?_)))
  refine a1l rfl rfl ?_
  obtain rfl := Option.some.inj hm
  exact ⟨_, _, _, rfl, hx4.pick [0] (by decide) rfl, as5, ns6, cs5, (xss5.take (ns6 * ((Rp.int .i64)).k)), rfl, rfl, hr1⟩
 ·clear hm hkont1; intro hk1 mx1 K ihx1
  rintro ⟨borrow1, i1, l1⟩ a wx3 hm ⟨Fx2, as4, ns4, cs4, xss4, hF2, hx2, hs4, hax2⟩
  simp only [b3b] at hm
  refine a1i hax2 ?_
  refine a0f (a0a ?_)
  refine a0u rfl rfl rfl rfl rfl ?_
  refine a0c (a0d (a0f ?_))
  rcases a0g hm with ⟨hb1, hm⟩ | ⟨hb1, hm⟩
  ·refine a0t 14 rfl hb1 ?_
   refine a0y rfl (a1e (a0d (a0f (a1g (a0f (a0a (a0e rfl rfl rfl (a0b rfl rfl rfl (a0c (a0d (a0f (a0a (a0e rfl rfl rfl (a0e rfl rfl rfl ?_))))))))))))))
   obtain ⟨ex1, he1, hm⟩ := bind_some hm
   refine a5c (r := (Rp.int .i64)) u28 sz3 rfl rfl hx2 rfl rfl (p := 0) rfl rfl hs4 he1 ?_
   intro b2 o1 cs1 hax3 ho1 hr2 hp1
   have hc1 : cs1 = [.int .i64 ex1] := hr2
   subst hc1
   refine a4s (j := 0) ag3 rfl rfl hx2 rfl (p := 0) rfl rfl hax3 ho1 hp1 rfl ?_
   refine a0e rfl rfl rfl ?_
   refine a0u rfl rfl rfl rfl rfl ?_
   refine a0b rfl rfl rfl (a0c (a0d (a0f (a0f (a0a (a0e rfl rfl rfl (a0e rfl rfl rfl ?_)))))))
   refine a1u hs2.len u28 rfl rfl rfl ?_
   refine a0u rfl rfl rfl rfl rfl ?_
   refine a0c (a0d ?_)
   obtain ⟨nx1, hb2, hm⟩ := bind_some hm
   refine a8f (fun a w' => wx3 = w' ∧ Has 43 a [(1, .slice as2 ns2 cs2), (5, .slice as4 ns4 cs4), (7, .int .i64 i1), (8, .int .i64 nx1), (12, .int .i64 (v1.length : Int)), (13, .int .i64 i1)]) ?_ ?_
   ·rintro a wx4 ⟨rfl, hax4⟩
    refine a1i hax4 ?_
    refine a0f (a0a (a0e rfl rfl rfl ?_))
    obtain ⟨q1, hq1, hm⟩ := bind_some hm
    refine c4g rfl rfl rfl rfl hq1 ?_
    refine a0u rfl rfl rfl rfl rfl ?_
    refine a0b rfl rfl rfl (a0c (a0d (a0a (a0e rfl rfl rfl (a0e rfl rfl rfl (a0e rfl rfl rfl ?_))))))
    refine a0u rfl rfl rfl rfl rfl ?_
    obtain ⟨ex2, he2, hm⟩ := bind_some hm
    refine a5c (r := (Rp.int .i64)) u28 sz3 rfl rfl hx2 rfl rfl (p := 0) rfl rfl hs4 he2 ?_
    intro b3 o2 cs2 hax5 ho2 hr3 hp2
    have hc2 : cs2 = [.int .i64 ex2] := hr3
    subst hc2
    obtain ⟨l3, hl1, hm⟩ := bind_some hm
    refine a6x (r := (Rp.int .i64)) sz3 rfl hx2 rfl rfl rfl rfl rfl (p := 0) rfl rfl hax5 ho2 hs4 rfl rfl hl1 ?_
    intro wx5 xs1 hx5 hr4
    refine a0c (a1m (a0d (a0a ?_)))
    refine a0u rfl rfl rfl rfl rfl ?_
    refine a0e rfl rfl rfl (a0c ?_)
    refine a0n (fun a ha => ihx1 ((iand .i64 q1 1), (iadd .i64 i1 1), l3) a _ hm ?_)
    exact ⟨_, as4, ns4, cs4, xs1, hF2, hx5.pick [0] (by decide) rfl, hr4, ha.cut (l := [1, 5, 6, 12, 13]) rfl⟩
   ·clear hm
    rcases a0g hb2 with ⟨hb3, hb2⟩ | ⟨hb3, hb2⟩
    ·refine a0t 25 rfl hb3 ?_
     refine a0y rfl (a0a (a0e rfl rfl rfl (a0e rfl rfl rfl (a0e rfl rfl rfl ?_))))
     obtain ⟨ex3, he3, hb2⟩ := bind_some hb2
     refine a2n (r := (Rp.int .i64)) u28 sz3 rfl rfl rfl rfl ((hs2.mono hF1).mono hF2) he3 ?_
     intro b4 o3 cs3 hf1 hr5
     have hc3 : cs3 = [.int .i64 ex3] := hr5
     subst hc3
     refine a2h (j := 0) ag3 rfl rfl hx2 hf1 rfl rfl ?_
     refine a0u rfl rfl rfl rfl rfl ?_
     refine a0b rfl rfl rfl (a0c ?_)
     refine a0n (fun a ha => ?_)
     cases hb2
     exact ⟨rfl, ha.cut (l := [1, 5, 7, 8, 12, 13]) rfl⟩
    ·refine a0t 25 rfl hb3 ?_
     refine a0s rfl (a1e ?_)
     refine a0n (fun a ha => ?_)
     cases hb2
     exact ⟨rfl, ha.cut (l := [1, 5, 7, 8, 12, 13]) rfl⟩
  ·refine a0t 14 rfl hb1 ?_
   refine a0s rfl (a3u (a0w (a0w ?_)))
   refine fun a ha => hk1 l1 a _ hm ?_
   exact ⟨_, as4, ns4, cs4, xss4, hF2, hx2.pick [0] (by decide) rfl, hs4, ha.cut (l := [5]) rfl⟩
def a8g (n : Nat) (b1 : (List Int)) (i1 : Int) (ex1 : Int) (kont2 : Int → (List Int) → Option (List Int)) : Nat → Int → Int → (List Int) → Option (List Int)
 | 0, _, _, _ => none
 | mx2 + 1, carry1, i2, l4 =>
  bif decide (i2 < (b1.length : Int)) then
   (ix b1 i2).bind fun ex4 =>
   (ix l4 (iadd .i64 i1 i2)).bind fun ex5 =>
   (shr .i64 (iadd .i64 (iadd .i64 ex5 (imul .i64 ex1 ex4)) carry1) 20).bind fun q1 =>
   (ix l4 (iadd .i64 i1 i2)).bind fun _ =>
   (lset l4 (iadd .i64 i1 i2) (iand .i64 (iadd .i64 (iadd .i64 ex5 (imul .i64 ex1 ex4)) carry1) 1048575)).bind fun l7 =>
   a8g n b1 i1 ex1 kont2 mx2 q1 (iadd .i64 i2 1) l7
  else
   kont2 carry1 l4
theorem b3a (n : Nat) (b1 : (List Int)) (i1 : Int) (ex1 : Int) (kont2 : Int → (List Int) → Option (List Int)) (mx2 : Nat) (carry1 : Int) (i2 : Int) (l4 : List Int) : a8g n b1 i1 ex1 kont2 (mx2 + 1) carry1 i2 l4 =
  bif decide (i2 < (b1.length : Int)) then
   (ix b1 i2).bind fun ex4 =>
   (ix l4 (iadd .i64 i1 i2)).bind fun ex5 =>
   (shr .i64 (iadd .i64 (iadd .i64 ex5 (imul .i64 ex1 ex4)) carry1) 20).bind fun q1 =>
   (ix l4 (iadd .i64 i1 i2)).bind fun _ =>
   (lset l4 (iadd .i64 i1 i2) (iand .i64 (iadd .i64 (iadd .i64 ex5 (imul .i64 ex1 ex4)) carry1) 1048575)).bind fun l7 =>
   a8g n b1 i1 ex1 kont2 mx2 q1 (iadd .i64 i2 1) l7
  else
   kont2 carry1 l4 := rfl
def a7k (n : Nat) (ax1 : (List Int)) (b1 : (List Int)) (kont1 : (List Int) → Option (List Int)) : Nat → Int → (List Int) → Option (List Int)
 | 0, _, _ => none
 | mx1 + 1, i1, l2 =>
  bif decide (i1 < (ax1.length : Int)) then
   (ix ax1 i1).bind fun ex1 =>
   a8g n b1 i1 ex1 (fun (carry2 : Int) (l5 : List Int) =>
    (ix l5 (iadd .i64 i1 (b1.length : Int))).bind fun ex2 =>
    (ix l5 (iadd .i64 i1 (b1.length : Int))).bind fun _ =>
    (lset l5 (iadd .i64 i1 (b1.length : Int)) (iadd .i64 ex2 carry2)).bind fun l6 =>
    a7k n ax1 b1 kont1 mx1 (iadd .i64 i1 1) l6) n 0 0 l2
  else
   kont1 l2
theorem b2p (n : Nat) (ax1 : (List Int)) (b1 : (List Int)) (kont1 : (List Int) → Option (List Int)) (mx1 : Nat) (i1 : Int) (l2 : List Int) : a7k n ax1 b1 kont1 (mx1 + 1) i1 l2 =
  bif decide (i1 < (ax1.length : Int)) then
   (ix ax1 i1).bind fun ex1 =>
   a8g n b1 i1 ex1 (fun (carry2 : Int) (l5 : List Int) =>
    (ix l5 (iadd .i64 i1 (b1.length : Int))).bind fun ex2 =>
    (ix l5 (iadd .i64 i1 (b1.length : Int))).bind fun _ =>
    (lset l5 (iadd .i64 i1 (b1.length : Int)) (iadd .i64 ex2 carry2)).bind fun l6 =>
    a7k n ax1 b1 kont1 mx1 (iadd .i64 i1 1) l6) n 0 0 l2
  else
   kont1 l2 := rfl
def b1e (n : Nat) (ax1 : (List Int)) (b1 : (List Int)) : Option (List Int) :=
 (mks 8 0 (iadd .i64 (ax1.length : Int) (b1.length : Int))).bind fun l1 =>
 a7k n ax1 b1 (fun (l3 : List Int) =>
  (a3l n l3).bind fun v1 =>
  some v1) n 0 l1
set_option maxHeartbeats 1000000 in
set_option maxRecDepth 1000000 in
theorem b5h (n : Nat) (ax1 : (List Int)) (b1 : (List Int)) (r : (List Int)) (hm : b1e n ax1 b1 = some r) {w : World} {F : Frz} (hs : Sat F w) {as1 : Option Addr} {ns1 : Nat} {cs1 : Nat} {as2 : Option Addr} {ns2 : Nat} {cs2 : Nat} (hs1 : SlR (Rp.int .i64) F as1 ns1 cs1 ax1) (hs2 : SlR (Rp.int .i64) F as2 ns2 cs2 b1) :
  Calls Tryz.prog 122 #[.slice as1 ns1 cs1, .slice as2 ns2 cs2] w fun e w' => ∃ v F' O', e = .returned v ∧ HS F w [] F' O' w' ∧ (∃ (a0_0 : Option Addr) (n0_0 : Nat) (c0_0 : Nat) (xs0_0 : List Value), v = .slice a0_0 n0_0 c0_0 ∧ O' = [.row 3 1 a0_0 n0_0 c0_0 xs0_0] ∧ RowN (Rp.int .i64) F' n0_0 xs0_0 r) := by
 unfold b1e at hm
 have h := HS.init hs
 refine a1a 67 Tryz.func122 rfl rfl rfl ?_
 refine a0f (a0a (a0b rfl rfl rfl (a0c (a0d (a0f (a0a (a0e rfl rfl rfl ?_)))))))
 refine a1u hs1.len u28 rfl rfl rfl ?_
 refine a0e rfl rfl rfl ?_
 refine a1u hs2.len u28 rfl rfl rfl ?_
 refine a0u rfl rfl rfl rfl rfl ?_
 obtain ⟨l1, hl1, hm⟩ := bind_some hm
 refine b8u (r := (Rp.int .i64)) ap28 zi3 (fun _ => rfl) rfl rfl rfl h rfl rfl hl1 ?_
 intro b2 wx1 xs1 hx1 hr1
 refine a0b rfl rfl rfl (a0c (a0d (a0f (a0f (a0a (a0e rfl rfl rfl ?_))))))
 refine a1u hs1.len u28 rfl rfl rfl ?_
 refine a0e rfl rfl rfl (a0c (a0d (a1g ?_)))
 intro a hax10
 obtain ⟨kont1, hkont1⟩ : ∃ kont1 : (List Int) → Option (List Int), kont1 = (fun (l3 : List Int) =>
       (a3l n l3).bind fun v1 =>
       some v1) := ⟨_, rfl⟩
 replace hm : (fun m (s : Int × List Int) => a7k n ax1 b1 kont1 m s.1 s.2) n (0, l1) = some r := by rw [hkont1]; exact hm
 refine a5w (id := 0) (fun m (s : Int × List Int) => a7k n ax1 b1 kont1 m s.1 s.2) (fun (y : List Int) => kont1 y) r (fun (s : Int × List Int) a w' => ∃ (Fx1 : Frz) (as3 : Option Addr) (ns3 : Nat) (cs3 : Nat) (xss3 : List Value), Frz.le F Fx1 ∧ HS F w [] Fx1 [.row 3 1 as3 ns3 cs3 xss3] w' ∧ (RowN (Rp.int .i64) Fx1 ns3 xss3 s.2) ∧ Has 67 a [(1, .slice as2 ns2 cs2), (5, .slice as3 ns3 cs3), (18, .slice as1 ns1 cs1), (19, .int .i64 (ax1.length : Int)), (20, .int .i64 s.1)]) (fun (y : List Int) a w' => ∃ (Fx2 : Frz) (as4 : Option Addr) (ns4 : Nat) (cs4 : Nat) (xss4 : List Value), Frz.le F Fx2 ∧ HS F w [] Fx2 [.row 3 1 as4 ns4 cs4 xss4] w' ∧ (RowN (Rp.int .i64) Fx2 ns4 xss4 y) ∧ Has 67 a [(5, .slice as4 ns4 cs4)]) (fun _ => rfl) ?_ ?_ hm ⟨_, (some ⟨b2, 0, none⟩), ((iadd .i64 (ax1.length : Int) (b1.length : Int)).toNat), ((iadd .i64 (ax1.length : Int) (b1.length : Int)).toNat), xs1, Frz.refl _, hx1.pick [0] (by decide) rfl, hr1, hax10.cut (l := [1, 5, 18, 19, 20]) rfl⟩
 ·clear hm; rintro l3 a wx2 hm ⟨Fx2, as4, ns4, cs4, xss4, hF2, hx3, hs4, hax1⟩
  rw [hkont1] at hm
  replace hm := hm
  refine a2f (e := .exit 0) hax1 ?_
  refine a1k (a0d (a0f (a0a (a0e rfl rfl rfl ?_))))
  obtain ⟨v1, hv1, hm⟩ := bind_some hm
  refine b2n ent121 rfl rfl rfl rfl (a6y _ _ _ hv1 (b0a _) (hx3.viewRow (p := 0) rfl rfl hs4)) ?_
  intro ns5 hles5 hvs5
  obtain ⟨hx4, hr2⟩ := hx3.cutN (p := 0) rfl hs4 hles5
  rw [← hvs5] at hr2
  refine a0b rfl rfl rfl (a0c (a0d (a1d ?_)))
  refine a1l rfl rfl ?_
  obtain rfl := Option.some.inj hm
  exact ⟨_, _, _, rfl, hx4.pick [0] (by decide) rfl, as4, ns5, cs4, (xss4.take (ns5 * ((Rp.int .i64)).k)), rfl, rfl, hr2⟩
 ·clear hm hkont1; intro hk1 mx1 K ihx1
  rintro ⟨i1, l2⟩ a wx3 hm ⟨Fx1, as3, ns3, cs3, xss3, hF1, hx2, hs3, hax2⟩
  simp only [b2p] at hm
  refine a1i hax2 ?_
  refine a0f (a0a ?_)
  refine a0u rfl rfl rfl rfl rfl ?_
  refine a0c (a0d (a0f ?_))
  rcases a0g hm with ⟨hb1, hm⟩ | ⟨hb1, hm⟩
  ·refine a0t 21 rfl hb1 ?_
   refine a0y rfl (a1e (a0d (a0f (a1g (a0f (a0a (a0e rfl rfl rfl ?_)))))))
   obtain ⟨ex1, he1, hm⟩ := bind_some hm
   refine a2n (r := (Rp.int .i64)) u28 sz3 rfl rfl rfl rfl (hs1.mono hF1) he1 ?_
   intro b3 o1 cs1 hf1 hr3
   have hc1 : cs1 = [.int .i64 ex1] := hr3
   subst hc1
   refine a2h (j := 0) ag3 rfl rfl hx2 hf1 rfl rfl ?_
   refine a0b rfl rfl rfl (a0b rfl rfl rfl (a0c (a0d (a0f (a0a (a0b rfl rfl rfl (a0c (a0d (a0f (a0f (a0a (a0e rfl rfl rfl ?_))))))))))))
   refine a1u hs2.len u28 rfl rfl rfl ?_
   refine a0e rfl rfl rfl (a0c (a0d (a1g ?_)))
   intro a hax9
   obtain ⟨kont2, hkont2⟩ : ∃ kont2 : Int → (List Int) → Option (List Int), kont2 = (fun (carry2 : Int) (l5 : List Int) =>
       (ix l5 (iadd .i64 i1 (b1.length : Int))).bind fun ex2 =>
       (ix l5 (iadd .i64 i1 (b1.length : Int))).bind fun ex3 =>
       (lset l5 (iadd .i64 i1 (b1.length : Int)) (iadd .i64 ex2 carry2)).bind fun l6 =>
       a7k n ax1 b1 kont1 mx1 (iadd .i64 i1 1) l6) := ⟨_, rfl⟩
   replace hm : (fun m (s : Int × Int × List Int) => a8g n b1 i1 ex1 kont2 m s.1 s.2.1 s.2.2) n (0, 0, l2) = some r := by rw [hkont2]; exact hm
   refine a5w (id := 2) (fun m (s : Int × Int × List Int) => a8g n b1 i1 ex1 kont2 m s.1 s.2.1 s.2.2) (fun (y : Int × List Int) => kont2 y.1 y.2) r (fun (s : Int × Int × List Int) a w' => ∃ (Fx3 : Frz) (as6 : Option Addr) (ns6 : Nat) (cs6 : Nat) (xss6 : List Value), Frz.le Fx1 Fx3 ∧ HS F w [] Fx3 [.row 3 1 as6 ns6 cs6 xss6] w' ∧ (RowN (Rp.int .i64) Fx3 ns6 xss6 s.2.2) ∧ Has 67 a [(1, .slice as2 ns2 cs2), (5, .slice as6 ns6 cs6), (6, .int .i64 i1), (7, .int .i64 ex1), (8, .int .i64 s.1), (18, .slice as1 ns1 cs1), (19, .int .i64 (ax1.length : Int)), (20, .int .i64 i1), (25, .slice as2 ns2 cs2), (26, .int .i64 (b1.length : Int)), (27, .int .i64 s.2.1)]) (fun (y : Int × List Int) a w' => ∃ (Fx4 : Frz) (as7 : Option Addr) (ns7 : Nat) (cs7 : Nat) (xss7 : List Value), Frz.le Fx1 Fx4 ∧ HS F w [] Fx4 [.row 3 1 as7 ns7 cs7 xss7] w' ∧ (RowN (Rp.int .i64) Fx4 ns7 xss7 y.2) ∧ Has 67 a [(1, .slice as2 ns2 cs2), (5, .slice as7 ns7 cs7), (6, .int .i64 i1), (8, .int .i64 y.1), (18, .slice as1 ns1 cs1), (19, .int .i64 (ax1.length : Int)), (20, .int .i64 i1)]) (fun _ => rfl) ?_ ?_ hm ⟨_, as3, ns3, cs3, xss3, Frz.refl _, hx2.pick [0] (by decide) rfl, hs3, hax9.cut (l := [1, 5, 6, 7, 8, 18, 19, 20, 25, 26, 27]) rfl⟩
   ·clear hm; rintro ⟨carry2, l5⟩ a wx4 hm ⟨Fx4, as7, ns7, cs7, xss7, hF4, hx6, hs7, hax3⟩
    rw [hkont2] at hm
    replace hm := hm
    refine a2f (e := .exit 2) hax3 ?_
    refine a1k (a0d (a0a (a0e rfl rfl rfl (a0e rfl rfl rfl (a0e rfl rfl rfl ?_)))))
    refine a1u hs2.len u28 rfl rfl rfl ?_
    refine a0u rfl rfl rfl rfl rfl ?_
    obtain ⟨ex2, he2, hm⟩ := bind_some hm
    refine a5c (r := (Rp.int .i64)) u28 sz3 rfl rfl hx6 rfl rfl (p := 0) rfl rfl hs7 he2 ?_
    intro b4 o2 cs2 hax4 ho1 hr4 hp1
    have hc2 : cs2 = [.int .i64 ex2] := hr4
    subst hc2
    refine a4s (j := 0) ag3 rfl rfl hx6 rfl (p := 0) rfl rfl hax4 ho1 hp1 rfl ?_
    refine a0e rfl rfl rfl ?_
    refine a0u rfl rfl rfl rfl rfl ?_
    obtain ⟨ex3, he3, hm⟩ := bind_some hm
    refine a5c (r := (Rp.int .i64)) u28 sz3 rfl rfl hx6 rfl rfl (p := 0) rfl rfl hs7 he3 ?_
    intro b5 o3 cs3 hax5 ho2 hr5 hp2
    have hc3 : cs3 = [.int .i64 ex3] := hr5
    subst hc3
    obtain ⟨l6, hl2, hm⟩ := bind_some hm
    refine a6x (r := (Rp.int .i64)) sz3 rfl hx6 rfl rfl rfl rfl rfl (p := 0) rfl rfl hax5 ho2 hs7 rfl rfl hl2 ?_
    intro wx5 xs2 hx7 hr6
    refine a0c (a1m (a0d (a0a ?_)))
    refine a0u rfl rfl rfl rfl rfl ?_
    refine a0e rfl rfl rfl (a0c ?_)
    refine a0n (fun a ha => ihx1 ((iadd .i64 i1 1), l6) a _ hm ?_)
    exact ⟨_, as7, ns7, cs7, xs2, (hF1.trans hF4), hx7.pick [0] (by decide) rfl, hr6, ha.cut (l := [1, 5, 18, 19, 20]) rfl⟩
   ·clear hm hkont2; intro hk2 mx2 K ihx2
    rintro ⟨carry1, i2, l4⟩ a wx6 hm ⟨Fx3, as6, ns6, cs6, xss6, hF3, hx5, hs6, hax6⟩
    simp only [b3a] at hm
    refine a1i hax6 ?_
    refine a0f (a0a ?_)
    refine a0u rfl rfl rfl rfl rfl ?_
    refine a0c (a0d (a0f ?_))
    rcases a0g hm with ⟨hb2, hm⟩ | ⟨hb2, hm⟩
    ·refine a0t 28 rfl hb2 ?_
     refine a0y rfl (a1e (a0d (a0f (a1g (a0f (a0a (a0e rfl rfl rfl ?_)))))))
     obtain ⟨ex4, he4, hm⟩ := bind_some hm
     refine a2n (r := (Rp.int .i64)) u28 sz3 rfl rfl rfl rfl ((hs2.mono hF1).mono hF3) he4 ?_
     intro b6 o4 cs4 hf2 hr7
     have hc4 : cs4 = [.int .i64 ex4] := hr7
     subst hc4
     refine a2h (j := 0) ag3 rfl rfl hx5 hf2 rfl rfl ?_
     refine a0b rfl rfl rfl (a0b rfl rfl rfl (a0c (a0d (a0f (a0a (a0e rfl rfl rfl (a0e rfl rfl rfl (a0e rfl rfl rfl ?_))))))))
     refine a0u rfl rfl rfl rfl rfl ?_
     obtain ⟨ex5, he5, hm⟩ := bind_some hm
     refine a5c (r := (Rp.int .i64)) u28 sz3 rfl rfl hx5 rfl rfl (p := 0) rfl rfl hs6 he5 ?_
     intro b7 o5 cs5 hax7 ho3 hr8 hp3
     have hc5 : cs5 = [.int .i64 ex5] := hr8
     subst hc5
     refine a4s (j := 0) ag3 rfl rfl hx5 rfl (p := 0) rfl rfl hax7 ho3 hp3 rfl ?_
     refine a0e rfl rfl rfl (a0e rfl rfl rfl ?_)
     refine a0u rfl rfl rfl rfl rfl ?_
     refine a0u rfl rfl rfl rfl rfl ?_
     refine a0e rfl rfl rfl ?_
     refine a0u rfl rfl rfl rfl rfl ?_
     refine a0b rfl rfl rfl (a0c (a0d (a0a (a0e rfl rfl rfl (a0e rfl rfl rfl (a0e rfl rfl rfl ?_))))))
     refine a0u rfl rfl rfl rfl rfl ?_
     refine a0e rfl rfl rfl ?_
     refine a0u rfl rfl rfl rfl rfl ?_
     refine a0e rfl rfl rfl ?_
     obtain ⟨q1, hq1, hm⟩ := bind_some hm
     refine c4g rfl rfl rfl rfl hq1 ?_
     obtain ⟨ex6, he6, hm⟩ := bind_some hm
     refine a5c (r := (Rp.int .i64)) u28 sz3 rfl rfl hx5 rfl rfl (p := 0) rfl rfl hs6 he6 ?_
     intro b8 o6 cs6 hax8 ho4 hr9 hp4
     have hc6 : cs6 = [.int .i64 ex6] := hr9
     subst hc6
     obtain ⟨l7, hl3, hm⟩ := bind_some hm
     refine a6x (r := (Rp.int .i64)) sz3 rfl hx5 rfl rfl rfl rfl rfl (p := 0) rfl rfl hax8 ho4 hs6 rfl rfl hl3 ?_
     intro wx7 xs3 hx8 hr10
     refine a0b rfl rfl rfl (a0c (a1m (a0d (a0a ?_))))
     refine a0u rfl rfl rfl rfl rfl ?_
     refine a0e rfl rfl rfl (a0c ?_)
     refine a0n (fun a ha => ihx2 (q1, (iadd .i64 i2 1), l7) a _ hm ?_)
     exact ⟨_, as6, ns6, cs6, xs3, hF3, hx8.pick [0] (by decide) rfl, hr10, ha.cut (l := [1, 5, 6, 7, 8, 18, 19, 20, 25, 26, 27]) rfl⟩
    ·refine a0t 28 rfl hb2 ?_
     refine a0s rfl (a3u (a0w (a0w ?_)))
     refine fun a ha => hk2 (carry1, l4) a _ hm ?_
     exact ⟨_, as6, ns6, cs6, xss6, hF3, hx5.pick [0] (by decide) rfl, hs6, ha.cut (l := [1, 5, 6, 8, 18, 19, 20]) rfl⟩
  ·refine a0t 21 rfl hb1 ?_
   refine a0s rfl (a3u (a0w (a0w ?_)))
   refine fun a ha => hk1 l2 a _ hm ?_
   exact ⟨_, as3, ns3, cs3, xss3, hF1, hx2.pick [0] (by decide) rfl, hs3, ha.cut (l := [5]) rfl⟩
def a6v (n : Nat) (ax1 : (List Int)) (d1 : Int) (kont1 : Int → (List Int) → Option ((List Int) × Int)) : Nat → Int → Int → (List Int) → Option ((List Int) × Int)
 | 0, _, _, _ => none
 | mx1 + 1, rx1, i1, l2 =>
  bif decide (0 ≤ i1) then
   (shl .i64 rx1 20).bind fun q1 =>
   (ix ax1 i1).bind fun ex1 =>
   (quo .i64 (ior .i64 q1 ex1) d1).bind fun q2 =>
   (ix l2 i1).bind fun _ =>
   (lset l2 i1 q2).bind fun l4 =>
   (rem (ior .i64 q1 ex1) d1).bind fun q3 =>
   a6v n ax1 d1 kont1 mx1 q3 (isub .i64 i1 1) l4
  else
   kont1 rx1 l2
theorem b1b (n : Nat) (ax1 : (List Int)) (d1 : Int) (kont1 : Int → (List Int) → Option ((List Int) × Int)) (mx1 : Nat) (rx1 : Int) (i1 : Int) (l2 : List Int) : a6v n ax1 d1 kont1 (mx1 + 1) rx1 i1 l2 =
  bif decide (0 ≤ i1) then
   (shl .i64 rx1 20).bind fun q1 =>
   (ix ax1 i1).bind fun ex1 =>
   (quo .i64 (ior .i64 q1 ex1) d1).bind fun q2 =>
   (ix l2 i1).bind fun _ =>
   (lset l2 i1 q2).bind fun l4 =>
   (rem (ior .i64 q1 ex1) d1).bind fun q3 =>
   a6v n ax1 d1 kont1 mx1 q3 (isub .i64 i1 1) l4
  else
   kont1 rx1 l2 := rfl
def a7u (n : Nat) (ax1 : (List Int)) (d1 : Int) : Option ((List Int) × Int) :=
 (mks 8 0 (ax1.length : Int)).bind fun l1 =>
 a6v n ax1 d1 (fun (rx2 : Int) (l3 : List Int) =>
  (a3l n l3).bind fun v1 =>
  some (v1, rx2)) n 0 (isub .i64 (ax1.length : Int) 1) l1
set_option maxHeartbeats 1000000 in
set_option maxRecDepth 1000000 in
theorem b5z (n : Nat) (ax1 : (List Int)) (d1 : Int) (r : ((List Int) × Int)) (hm : a7u n ax1 d1 = some r) {w : World} {F : Frz} (hs : Sat F w) {as1 : Option Addr} {ns1 : Nat} {cs1 : Nat} (hs1 : SlR (Rp.int .i64) F as1 ns1 cs1 ax1) :
  Calls Tryz.prog 120 #[.slice as1 ns1 cs1, .int .i64 d1] w fun e w' => ∃ v F' O', e = .returned v ∧ HS F w [] F' O' w' ∧ (∃ (a0_0 : Option Addr) (n0_0 : Nat) (c0_0 : Nat) (xs0_0 : List Value), v = .tuple #[.slice a0_0 n0_0 c0_0, .int .i64 r.2] ∧ O' = [.row 3 1 a0_0 n0_0 c0_0 xs0_0] ∧ RowN (Rp.int .i64) F' n0_0 xs0_0 r.1) := by
 unfold a7u at hm
 have h := HS.init hs
 refine a1a 38 Tryz.func120 rfl rfl rfl ?_
 refine a0f (a0a (a0b rfl rfl rfl (a0b rfl rfl rfl (a0c (a0d (a0f (a0a (a0e rfl rfl rfl ?_))))))))
 refine a1u hs1.len u28 rfl rfl rfl ?_
 obtain ⟨l1, hl1, hm⟩ := bind_some hm
 refine b8u (r := (Rp.int .i64)) ap28 zi3 (fun _ => rfl) rfl rfl rfl h rfl rfl hl1 ?_
 intro b1 wx1 xs1 hx1 hr1
 refine a0b rfl rfl rfl (a0c (a0d (a0f (a0a (a0b rfl rfl rfl (a0c (a0d (a0f (a0f (a0a (a0e rfl rfl rfl ?_)))))))))))
 refine a1u hs1.len u28 rfl rfl rfl ?_
 refine a0u rfl rfl rfl rfl rfl ?_
 refine a0b rfl rfl rfl (a0c (a0d (a1g ?_)))
 intro a hax4
 obtain ⟨kont1, hkont1⟩ : ∃ kont1 : Int → (List Int) → Option ((List Int) × Int), kont1 = (fun (rx2 : Int) (l3 : List Int) =>
       (a3l n l3).bind fun v1 =>
       some (v1, rx2)) := ⟨_, rfl⟩
 replace hm : (fun m (s : Int × Int × List Int) => a6v n ax1 d1 kont1 m s.1 s.2.1 s.2.2) n (0, (isub .i64 (ax1.length : Int) 1), l1) = some r := by rw [hkont1]; exact hm
 refine a5w (id := 0) (fun m (s : Int × Int × List Int) => a6v n ax1 d1 kont1 m s.1 s.2.1 s.2.2) (fun (y : Int × List Int) => kont1 y.1 y.2) r (fun (s : Int × Int × List Int) a w' => ∃ (Fx1 : Frz) (as2 : Option Addr) (ns2 : Nat) (cs2 : Nat) (xss2 : List Value), Frz.le F Fx1 ∧ HS F w [] Fx1 [.row 3 1 as2 ns2 cs2 xss2] w' ∧ (RowN (Rp.int .i64) Fx1 ns2 xss2 s.2.2) ∧ Has 38 a [(0, .slice as1 ns1 cs1), (1, .int .i64 d1), (6, .slice as2 ns2 cs2), (7, .int .i64 s.1), (8, .int .i64 s.2.1)]) (fun (y : Int × List Int) a w' => ∃ (Fx2 : Frz) (as3 : Option Addr) (ns3 : Nat) (cs3 : Nat) (xss3 : List Value), Frz.le F Fx2 ∧ HS F w [] Fx2 [.row 3 1 as3 ns3 cs3 xss3] w' ∧ (RowN (Rp.int .i64) Fx2 ns3 xss3 y.2) ∧ Has 38 a [(6, .slice as3 ns3 cs3), (7, .int .i64 y.1)]) (fun _ => rfl) ?_ ?_ hm ⟨_, (some ⟨b1, 0, none⟩), ((ax1.length : Int).toNat), ((ax1.length : Int).toNat), xs1, Frz.refl _, hx1.pick [0] (by decide) rfl, hr1, hax4.cut (l := [0, 1, 6, 7, 8]) rfl⟩
 ·clear hm; rintro ⟨rx2, l3⟩ a wx2 hm ⟨Fx2, as3, ns3, cs3, xss3, hF2, hx3, hs3, hax1⟩
  rw [hkont1] at hm
  replace hm := hm
  refine a2f (e := .exit 0) hax1 ?_
  refine a1k (a0d (a0f (a0a (a0e rfl rfl rfl ?_))))
  obtain ⟨v1, hv1, hm⟩ := bind_some hm
  refine b2n ent121 rfl rfl rfl rfl (a6y _ _ _ hv1 (b0a _) (hx3.viewRow (p := 0) rfl rfl hs3)) ?_
  intro ns4 hles4 hvs4
  obtain ⟨hx4, hr2⟩ := hx3.cutN (p := 0) rfl hs3 hles4
  rw [← hvs4] at hr2
  refine a0e rfl rfl rfl (a0b rfl rfl rfl (a0b rfl rfl rfl (a0c (a0d (a1d ?_)))))
  refine a1v (vl := [.slice as3 ns4 cs3, .int .i64 rx2]) rfl ⟨a1z rfl, a1z rfl, trivial⟩ (by simp) ?_
  obtain rfl := Option.some.inj hm
  exact ⟨_, _, _, rfl, hx4.pick [0] (by decide) rfl, as3, ns4, cs3, (xss3.take (ns4 * ((Rp.int .i64)).k)), rfl, rfl, hr2⟩
 ·clear hm hkont1; intro hk1 mx1 K ihx1
  rintro ⟨rx1, i1, l2⟩ a wx3 hm ⟨Fx1, as2, ns2, cs2, xss2, hF1, hx2, hs2, hax2⟩
  simp only [b1b] at hm
  refine a1i hax2 ?_
  refine a0f (a0f (a0a (a0e rfl rfl rfl ?_)))
  refine a0u rfl rfl rfl rfl rfl ?_
  refine a0c (a0d ?_)
  rcases a0g hm with ⟨hb1, hm⟩ | ⟨hb1, hm⟩
  ·refine a0t 16 rfl hb1 ?_
   refine a0y rfl (a1e (a0d (a0f (a1g (a0f (a0a (a0e rfl rfl rfl ?_)))))))
   obtain ⟨q1, hq1, hm⟩ := bind_some hm
   refine c7x rfl rfl rfl rfl hq1 ?_
   refine a0e rfl rfl rfl (a0e rfl rfl rfl ?_)
   obtain ⟨ex1, he1, hm⟩ := bind_some hm
   refine a2n (r := (Rp.int .i64)) u28 sz3 rfl rfl rfl rfl (hs1.mono hF1) he1 ?_
   intro b2 o1 cs1 hf1 hr3
   have hc1 : cs1 = [.int .i64 ex1] := hr3
   subst hc1
   refine a2h (j := 0) ag3 rfl rfl hx2 hf1 rfl rfl ?_
   refine a0u rfl rfl rfl rfl rfl ?_
   refine a0b rfl rfl rfl (a0c (a0d (a0f (a0a (a0e rfl rfl rfl (a0e rfl rfl rfl (a0e rfl rfl rfl (a0e rfl rfl rfl ?_))))))))
   obtain ⟨q2, hq2, hm⟩ := bind_some hm
   refine c4e rfl rfl rfl rfl hq2 ?_
   obtain ⟨ex2, he2, hm⟩ := bind_some hm
   refine a5c (r := (Rp.int .i64)) u28 sz3 rfl rfl hx2 rfl rfl (p := 0) rfl rfl hs2 he2 ?_
   intro b3 o2 cs2 hax3 ho1 hr4 hp1
   have hc2 : cs2 = [.int .i64 ex2] := hr4
   subst hc2
   obtain ⟨l4, hl2, hm⟩ := bind_some hm
   refine a6x (r := (Rp.int .i64)) sz3 rfl hx2 rfl rfl rfl rfl rfl (p := 0) rfl rfl hax3 ho1 hs2 rfl rfl hl2 ?_
   intro wx4 xs2 hx5 hr5
   refine a0c (a0d (a0a (a0e rfl rfl rfl (a0e rfl rfl rfl ?_))))
   obtain ⟨q3, hq3, hm⟩ := bind_some hm
   refine c4z rfl rfl rfl rfl hq3 ?_
   refine a0b rfl rfl rfl (a0c (a1m (a0d (a0a (a0e rfl rfl rfl ?_)))))
   refine a0u rfl rfl rfl rfl rfl ?_
   refine a0b rfl rfl rfl (a0c ?_)
   refine a0n (fun a ha => ihx1 (q3, (isub .i64 i1 1), l4) a _ hm ?_)
   exact ⟨_, as2, ns2, cs2, xs2, hF1, hx5.pick [0] (by decide) rfl, hr5, ha.cut (l := [0, 1, 6, 7, 8]) rfl⟩
  ·refine a0t 16 rfl hb1 ?_
   refine a0s rfl (a3u (a0w (a0w ?_)))
   refine fun a ha => hk1 (rx1, l2) a _ hm ?_
   exact ⟨_, as2, ns2, cs2, xss2, hF1, hx2.pick [0] (by decide) rfl, hs2, ha.cut (l := [6, 7]) rfl⟩
def a4w (n : Nat) (v1 : (List Int)) (l2 : List Int) (kont1 : (List Int) → Option ((List Int) × Int)) : Nat → Int → Int → (List Int) → Option ((List Int) × Int)
 | 0, _, _, _ => none
 | mx1 + 1, carry1, i2, l3 =>
  bif decide (i2 < (l2.length : Int)) then
   (ix l3 i2).bind fun ex1 =>
   (bif decide (i2 < (v1.length : Int)) then
    (ix v1 i2).bind fun ex3 =>
    some (iadd .i64 (iadd .i64 carry1 ex1) ex3)
   else
    some (iadd .i64 carry1 ex1)).bind fun carry2 =>
   (ix l3 i2).bind fun _ =>
   (lset l3 i2 (iand .i64 carry2 1048575)).bind fun l5 =>
   (shr .i64 carry2 20).bind fun q1 =>
   a4w n v1 l2 kont1 mx1 q1 (iadd .i64 i2 1) l5
  else
   kont1 l3
theorem b0l (n : Nat) (v1 : (List Int)) (l2 : List Int) (kont1 : (List Int) → Option ((List Int) × Int)) (mx1 : Nat) (carry1 : Int) (i2 : Int) (l3 : List Int) : a4w n v1 l2 kont1 (mx1 + 1) carry1 i2 l3 =
  bif decide (i2 < (l2.length : Int)) then
   (ix l3 i2).bind fun ex1 =>
   (bif decide (i2 < (v1.length : Int)) then
    (ix v1 i2).bind fun ex3 =>
    some (iadd .i64 (iadd .i64 carry1 ex1) ex3)
   else
    some (iadd .i64 carry1 ex1)).bind fun carry2 =>
   (ix l3 i2).bind fun _ =>
   (lset l3 i2 (iand .i64 carry2 1048575)).bind fun l5 =>
   (shr .i64 carry2 20).bind fun q1 =>
   a4w n v1 l2 kont1 mx1 q1 (iadd .i64 i2 1) l5
  else
   kont1 l3 := rfl
def a6e (n : Nat) (u1 : (List Int)) (v1 : (List Int)) (guess1 : Int) (kont2 : Int → (List Int) → Option ((List Int) × Int)) : Nat → Int → Int → (List Int) → Option ((List Int) × Int)
 | 0, _, _, _ => none
 | mx2 + 1, borrow1, i1, l1 =>
  bif decide (i1 < (u1.length : Int)) then
   (ix l1 i1).bind fun ex4 =>
   (bif decide (i1 < (v1.length : Int)) then
    (ix v1 i1).bind fun ex6 =>
    some (isub .i64 (isub .i64 ex4 borrow1) (imul .i64 guess1 ex6))
   else
    some (isub .i64 ex4 borrow1)).bind fun nx1 =>
   (ix l1 i1).bind fun _ =>
   (lset l1 i1 (iand .i64 nx1 1048575)).bind fun l6 =>
   (shr .i64 nx1 20).bind fun q2 =>
   a6e n u1 v1 guess1 kont2 mx2 (IntKind.i64.wrap (0 - q2)) (iadd .i64 i1 1) l6
  else
   kont2 borrow1 l1
theorem b0n (n : Nat) (u1 : (List Int)) (v1 : (List Int)) (guess1 : Int) (kont2 : Int → (List Int) → Option ((List Int) × Int)) (mx2 : Nat) (borrow1 : Int) (i1 : Int) (l1 : List Int) : a6e n u1 v1 guess1 kont2 (mx2 + 1) borrow1 i1 l1 =
  bif decide (i1 < (u1.length : Int)) then
   (ix l1 i1).bind fun ex4 =>
   (bif decide (i1 < (v1.length : Int)) then
    (ix v1 i1).bind fun ex6 =>
    some (isub .i64 (isub .i64 ex4 borrow1) (imul .i64 guess1 ex6))
   else
    some (isub .i64 ex4 borrow1)).bind fun nx1 =>
   (ix l1 i1).bind fun _ =>
   (lset l1 i1 (iand .i64 nx1 1048575)).bind fun l6 =>
   (shr .i64 nx1 20).bind fun q2 =>
   a6e n u1 v1 guess1 kont2 mx2 (IntKind.i64.wrap (0 - q2)) (iadd .i64 i1 1) l6
  else
   kont2 borrow1 l1 := rfl
def a8n (n : Nat) (u1 : (List Int)) (v1 : (List Int)) (guess1 : Int) : Option ((List Int) × Int) :=
 a6e n u1 v1 guess1 (fun (borrow2 : Int) (l2 : List Int) =>
  bif borrow2 == 0 then
   some (l2, guess1)
  else
   a4w n v1 l2 (fun (l4 : List Int) =>
    some (l4, isub .i64 guess1 1)) n 0 0 l2) n 0 0 u1
set_option maxHeartbeats 1000000 in
set_option maxRecDepth 1000000 in
theorem b9n (n : Nat) (u1 : (List Int)) (v1 : (List Int)) (guess1 : Int) (r : ((List Int) × Int)) (hm : a8n n u1 v1 guess1 = some r) {w : World} {F : Frz} (hs : Sat F w) {au1 : Option Addr} {nu1 : Nat} {cu1 : Nat} {preu1 xsu1 postu1 : List Value} {as1 : Option Addr} {ns1 : Nat} {cs1 : Nat} (hbu1 : (OE.win 3 1 au1 nu1 cu1 preu1 xsu1 postu1).ok w) (hfu1 : ∀ b, (OE.win 3 1 au1 nu1 cu1 preu1 xsu1 postu1).blk = some b → F b = none) (hru1 : RowN (Rp.int .i64) F nu1 xsu1 u1) (hs1 : SlR (Rp.int .i64) F as1 ns1 cs1 v1) :
  Calls Tryz.prog 123 #[.slice au1 nu1 cu1, .slice as1 ns1 cs1, .int .i64 guess1] w fun e w' => ∃ v F' xs' O', e = .returned v ∧ HS F w (blks (OE.win 3 1 au1 nu1 cu1 preu1 xsu1 postu1)) F' (.win 3 1 au1 nu1 cu1 preu1 xs' postu1 :: O') w' ∧ (v = .int .i64 r.2 ∧ O' = [] ∧ RowN (Rp.int .i64) F' nu1 xs' r.1) := by
 unfold a8n at hm
 have h := HS.lendE hs hbu1 hfu1
 refine a1a 78 Tryz.func123 rfl rfl rfl ?_
 refine a0f (a0a (a0b rfl rfl rfl (a0c (a0d (a0f (a0a (a0b rfl rfl rfl (a0c (a0d (a0f (a0f (a0a (a0e rfl rfl rfl ?_)))))))))))))
 refine a1u hru1.len u28 rfl rfl rfl ?_
 refine a0e rfl rfl rfl (a0c (a0d (a1g ?_)))
 intro a hax12
 obtain ⟨kont2, hkont2⟩ : ∃ kont2 : Int → (List Int) → Option ((List Int) × Int), kont2 = (fun (borrow2 : Int) (l2 : List Int) =>
       bif borrow2 == 0 then
        some (l2, guess1)
       else
        a4w n v1 l2 (fun (l4 : List Int) =>
         some (l4, isub .i64 guess1 1)) n 0 0 l2) := ⟨_, rfl⟩
 replace hm : (fun m (s : Int × Int × List Int) => a6e n u1 v1 guess1 kont2 m s.1 s.2.1 s.2.2) n (0, 0, u1) = some r := by rw [hkont2]; exact hm
 refine a5w (id := 0) (fun m (s : Int × Int × List Int) => a6e n u1 v1 guess1 kont2 m s.1 s.2.1 s.2.2) (fun (y : Int × List Int) => kont2 y.1 y.2) r (fun (s : Int × Int × List Int) a w' => ∃ (Fx1 : Frz) (xss2 : List Value), Frz.le F Fx1 ∧ HS F w (blks (OE.win 3 1 au1 nu1 cu1 preu1 xsu1 postu1)) Fx1 [.win 3 1 au1 nu1 cu1 preu1 xss2 postu1] w' ∧ (RowN (Rp.int .i64) Fx1 nu1 xss2 s.2.2) ∧ Has 78 a [(0, .slice au1 nu1 cu1), (1, .slice as1 ns1 cs1), (2, .int .i64 guess1), (7, .int .i64 s.1), (13, .int .i64 (u1.length : Int)), (14, .int .i64 s.2.1)]) (fun (y : Int × List Int) a w' => ∃ (Fx2 : Frz) (xss3 : List Value), Frz.le F Fx2 ∧ HS F w (blks (OE.win 3 1 au1 nu1 cu1 preu1 xsu1 postu1)) Fx2 [.win 3 1 au1 nu1 cu1 preu1 xss3 postu1] w' ∧ (RowN (Rp.int .i64) Fx2 nu1 xss3 y.2) ∧ Has 78 a [(0, .slice au1 nu1 cu1), (1, .slice as1 ns1 cs1), (2, .int .i64 guess1), (7, .int .i64 y.1)]) (fun _ => rfl) ?_ ?_ hm ⟨_, xsu1, Frz.refl _, h.pick [0] (by decide) rfl, hru1, hax12.cut (l := [0, 1, 2, 7, 13, 14]) rfl⟩
 ·clear hm; rintro ⟨borrow2, l2⟩ a wx1 hm ⟨Fx2, xss3, hF2, hx2, hs3, hax1⟩
  rw [hkont2] at hm
  replace hm := hm
  refine a2f (e := .exit 0) hax1 ?_
  refine a1k (a0d (a0f (a0f (a0a (a0e rfl rfl rfl ?_)))))
  refine a0u rfl rfl rfl rfl rfl ?_
  refine a0c (a0d ?_)
  rcases a0g hm with ⟨hb1, hm⟩ | ⟨hb1, hm⟩
  ·refine a0t 45 rfl hb1 ?_
   refine a0y rfl (a0f (a0a (a0e rfl rfl rfl (a0b rfl rfl rfl (a0c (a0d (a1d (a0k ?_))))))))
   refine a1l rfl rfl ?_
   obtain rfl := Option.some.inj hm
   exact ⟨_, _, _, _, rfl, hx2.pick [0] (by decide) rfl, rfl, rfl, hs3⟩
  ·refine a0t 45 rfl hb1 ?_
   refine a0s rfl (a1e (a0d (a0f (a0a (a0b rfl rfl rfl (a0c (a0d (a0f (a0f (a0a (a0e rfl rfl rfl ?_)))))))))))
   refine a1u hs3.len u28 rfl rfl rfl ?_
   refine a0e rfl rfl rfl (a0c (a0d (a1g ?_)))
   intro a hax7
   obtain ⟨kont1, hkont1⟩ : ∃ kont1 : (List Int) → Option ((List Int) × Int), kont1 = (fun (l4 : List Int) =>
       some (l4, isub .i64 guess1 1)) := ⟨_, rfl⟩
   replace hm : (fun m (s : Int × Int × List Int) => a4w n v1 l2 kont1 m s.1 s.2.1 s.2.2) n (0, 0, l2) = some r := by rw [hkont1]; exact hm
   refine a5w (id := 2) (fun m (s : Int × Int × List Int) => a4w n v1 l2 kont1 m s.1 s.2.1 s.2.2) (fun (y : List Int) => kont1 y) r (fun (s : Int × Int × List Int) a w' => ∃ (Fx3 : Frz) (xss4 : List Value), Frz.le Fx2 Fx3 ∧ HS F w (blks (OE.win 3 1 au1 nu1 cu1 preu1 xsu1 postu1)) Fx3 [.win 3 1 au1 nu1 cu1 preu1 xss4 postu1] w' ∧ (RowN (Rp.int .i64) Fx3 nu1 xss4 s.2.2) ∧ Has 78 a [(0, .slice au1 nu1 cu1), (1, .slice as1 ns1 cs1), (2, .int .i64 guess1), (10, .int .i64 s.1), (48, .int .i64 (l2.length : Int)), (49, .int .i64 s.2.1)]) (fun (y : List Int) a w' => ∃ (Fx4 : Frz) (xss5 : List Value), Frz.le Fx2 Fx4 ∧ HS F w (blks (OE.win 3 1 au1 nu1 cu1 preu1 xsu1 postu1)) Fx4 [.win 3 1 au1 nu1 cu1 preu1 xss5 postu1] w' ∧ (RowN (Rp.int .i64) Fx4 nu1 xss5 y) ∧ Has 78 a [(2, .int .i64 guess1)]) (fun _ => rfl) ?_ ?_ hm ⟨_, xss3, Frz.refl _, hx2.pick [0] (by decide) rfl, hs3, hax7.cut (l := [0, 1, 2, 10, 48, 49]) rfl⟩
   ·clear hm; rintro l4 a wx2 hm ⟨Fx4, xss5, hF4, hx4, hs5, hax2⟩
    rw [hkont1] at hm
    replace hm := hm
    refine a2f (e := .exit 2) hax2 ?_
    refine a1k (a0d (a0f (a0a (a0e rfl rfl rfl ?_))))
    refine a0u rfl rfl rfl rfl rfl ?_
    refine a0b rfl rfl rfl (a0c (a0d (a1d ?_)))
    refine a1l rfl rfl ?_
    obtain rfl := Option.some.inj hm
    exact ⟨_, _, _, _, rfl, hx4.pick [0] (by decide) rfl, rfl, rfl, hs5⟩
   ·clear hm hkont1; intro hk1 mx1 K ihx1
    rintro ⟨carry1, i2, l3⟩ a wx3 hm ⟨Fx3, xss4, hF3, hx3, hs4, hax3⟩
    simp only [b0l] at hm
    refine a1i hax3 ?_
    refine a0f (a0a ?_)
    refine a0u rfl rfl rfl rfl rfl ?_
    refine a0c (a0d (a0f ?_))
    rcases a0g hm with ⟨hb2, hm⟩ | ⟨hb2, hm⟩
    ·refine a0t 50 rfl hb2 ?_
     refine a0y rfl (a1e (a0d (a0f (a1g (a0f (a0a (a0e rfl rfl rfl (a0b rfl rfl rfl (a0c (a0d (a0f (a0a (a0e rfl rfl rfl (a0e rfl rfl rfl (a0e rfl rfl rfl ?_)))))))))))))))
     obtain ⟨ex1, he1, hm⟩ := bind_some hm
     refine a5c (r := (Rp.int .i64)) u28 sz3 rfl rfl hx3 rfl rfl (p := 0) rfl rfl hs4 he1 ?_
     intro b1 o1 cs1 hax4 ho1 hr1 hp1
     have hc1 : cs1 = [.int .i64 ex1] := hr1
     subst hc1
     refine a4s (j := 0) ag3 rfl rfl hx3 rfl (p := 0) rfl rfl hax4 ho1 hp1 rfl ?_
     refine a0u rfl rfl rfl rfl rfl ?_
     refine a0b rfl rfl rfl (a0c (a0d (a0f (a0f (a0a (a0e rfl rfl rfl (a0e rfl rfl rfl ?_)))))))
     refine a1u hs1.len u28 rfl rfl rfl ?_
     refine a0u rfl rfl rfl rfl rfl ?_
     refine a0c (a0d ?_)
     obtain ⟨carry2, hb3, hm⟩ := bind_some hm
     refine a8f (fun a w' => wx3 = w' ∧ Has 78 a [(0, .slice au1 nu1 cu1), (1, .slice as1 ns1 cs1), (2, .int .i64 guess1), (10, .int .i64 carry2), (11, .int .i64 i2), (48, .int .i64 (l2.length : Int)), (49, .int .i64 i2)]) ?_ ?_
     ·rintro a wx4 ⟨rfl, hax5⟩
      refine a1i hax5 ?_
      refine a0f (a0a (a0e rfl rfl rfl (a0e rfl rfl rfl (a0e rfl rfl rfl ?_))))
      refine a0u rfl rfl rfl rfl rfl ?_
      obtain ⟨ex2, he2, hm⟩ := bind_some hm
      refine a5c (r := (Rp.int .i64)) u28 sz3 rfl rfl hx3 rfl rfl (p := 0) rfl rfl hs4 he2 ?_
      intro b2 o2 cs2 hax6 ho2 hr2 hp2
      have hc2 : cs2 = [.int .i64 ex2] := hr2
      subst hc2
      obtain ⟨l5, hl1, hm⟩ := bind_some hm
      refine a6x (r := (Rp.int .i64)) sz3 rfl hx3 rfl rfl rfl rfl rfl (p := 0) rfl rfl hax6 ho2 hs4 rfl rfl hl1 ?_
      intro wx5 xs1 hx5 hr3
      refine a0c (a0d (a0a (a0e rfl rfl rfl ?_)))
      obtain ⟨q1, hq1, hm⟩ := bind_some hm
      refine c4g rfl rfl rfl rfl hq1 ?_
      refine a0b rfl rfl rfl (a0c (a1m (a0d (a0a ?_))))
      refine a0u rfl rfl rfl rfl rfl ?_
      refine a0e rfl rfl rfl (a0c ?_)
      refine a0n (fun a ha => ihx1 (q1, (iadd .i64 i2 1), l5) a _ hm ?_)
      exact ⟨_, xs1, hF3, hx5.pick [0] (by decide) rfl, hr3, ha.cut (l := [0, 1, 2, 10, 48, 49]) rfl⟩
     ·clear hm
      rcases a0g hb3 with ⟨hb4, hb3⟩ | ⟨hb4, hb3⟩
      ·refine a0t 61 rfl hb4 ?_
       refine a0y rfl (a0a (a0e rfl rfl rfl (a0e rfl rfl rfl (a0e rfl rfl rfl ?_))))
       obtain ⟨ex3, he3, hb3⟩ := bind_some hb3
       refine a2n (r := (Rp.int .i64)) u28 sz3 rfl rfl rfl rfl ((hs1.mono hF2).mono hF3) he3 ?_
       intro b3 o3 cs3 hf1 hr4
       have hc3 : cs3 = [.int .i64 ex3] := hr4
       subst hc3
       refine a2h (j := 0) ag3 rfl rfl hx3 hf1 rfl rfl ?_
       refine a0u rfl rfl rfl rfl rfl ?_
       refine a0b rfl rfl rfl (a0c ?_)
       refine a0n (fun a ha => ?_)
       cases hb3
       exact ⟨rfl, ha.cut (l := [0, 1, 2, 10, 11, 48, 49]) rfl⟩
      ·refine a0t 61 rfl hb4 ?_
       refine a0s rfl (a1e ?_)
       refine a0n (fun a ha => ?_)
       cases hb3
       exact ⟨rfl, ha.cut (l := [0, 1, 2, 10, 11, 48, 49]) rfl⟩
    ·refine a0t 50 rfl hb2 ?_
     refine a0s rfl (a3u (a0w (a0w ?_)))
     refine fun a ha => hk1 l3 a _ hm ?_
     exact ⟨_, xss4, hF3, hx3.pick [0] (by decide) rfl, hs4, ha.cut (l := [2]) rfl⟩
 ·clear hm hkont2; intro hk2 mx2 K ihx2
  rintro ⟨borrow1, i1, l1⟩ a wx6 hm ⟨Fx1, xss2, hF1, hx1, hs2, hax8⟩
  simp only [b0n] at hm
  refine a1i hax8 ?_
  refine a0f (a0a ?_)
  refine a0u rfl rfl rfl rfl rfl ?_
  refine a0c (a0d (a0f ?_))
  rcases a0g hm with ⟨hb5, hm⟩ | ⟨hb5, hm⟩
  ·refine a0t 15 rfl hb5 ?_
   refine a0y rfl (a1e (a0d (a0f (a1g (a0f (a0a (a0e rfl rfl rfl (a0b rfl rfl rfl (a0c (a0d (a0f (a0a (a0e rfl rfl rfl (a0e rfl rfl rfl ?_))))))))))))))
   obtain ⟨ex4, he4, hm⟩ := bind_some hm
   refine a5c (r := (Rp.int .i64)) u28 sz3 rfl rfl hx1 rfl rfl (p := 0) rfl rfl hs2 he4 ?_
   intro b4 o4 cs4 hax9 ho3 hr5 hp3
   have hc4 : cs4 = [.int .i64 ex4] := hr5
   subst hc4
   refine a4s (j := 0) ag3 rfl rfl hx1 rfl (p := 0) rfl rfl hax9 ho3 hp3 rfl ?_
   refine a0e rfl rfl rfl ?_
   refine a0u rfl rfl rfl rfl rfl ?_
   refine a0b rfl rfl rfl (a0c (a0d (a0f (a0f (a0a (a0e rfl rfl rfl (a0e rfl rfl rfl ?_)))))))
   refine a1u hs1.len u28 rfl rfl rfl ?_
   refine a0u rfl rfl rfl rfl rfl ?_
   refine a0c (a0d ?_)
   obtain ⟨nx1, hb6, hm⟩ := bind_some hm
   refine a8f (fun a w' => wx6 = w' ∧ Has 78 a [(0, .slice au1 nu1 cu1), (1, .slice as1 ns1 cs1), (2, .int .i64 guess1), (8, .int .i64 i1), (9, .int .i64 nx1), (13, .int .i64 (u1.length : Int)), (14, .int .i64 i1)]) ?_ ?_
   ·rintro a wx7 ⟨rfl, hax10⟩
    refine a1i hax10 ?_
    refine a0f (a0a (a0e rfl rfl rfl (a0e rfl rfl rfl (a0e rfl rfl rfl ?_))))
    refine a0u rfl rfl rfl rfl rfl ?_
    obtain ⟨ex5, he5, hm⟩ := bind_some hm
    refine a5c (r := (Rp.int .i64)) u28 sz3 rfl rfl hx1 rfl rfl (p := 0) rfl rfl hs2 he5 ?_
    intro b5 o5 cs5 hax11 ho4 hr6 hp4
    have hc5 : cs5 = [.int .i64 ex5] := hr6
    subst hc5
    obtain ⟨l6, hl2, hm⟩ := bind_some hm
    refine a6x (r := (Rp.int .i64)) sz3 rfl hx1 rfl rfl rfl rfl rfl (p := 0) rfl rfl hax11 ho4 hs2 rfl rfl hl2 ?_
    intro wx8 xs2 hx6 hr7
    refine a0c (a0d (a0a (a0e rfl rfl rfl ?_)))
    obtain ⟨q2, hq2, hm⟩ := bind_some hm
    refine c4g rfl rfl rfl rfl hq2 ?_
    refine c3x rfl rfl rfl ?_
    refine a0b rfl rfl rfl (a0c (a1m (a0d (a0a ?_))))
    refine a0u rfl rfl rfl rfl rfl ?_
    refine a0e rfl rfl rfl (a0c ?_)
    refine a0n (fun a ha => ihx2 ((IntKind.i64.wrap (0 - q2)), (iadd .i64 i1 1), l6) a _ hm ?_)
    exact ⟨_, xs2, hF1, hx6.pick [0] (by decide) rfl, hr7, ha.cut (l := [0, 1, 2, 7, 13, 14]) rfl⟩
   ·clear hm
    rcases a0g hb6 with ⟨hb7, hb6⟩ | ⟨hb7, hb6⟩
    ·refine a0t 26 rfl hb7 ?_
     refine a0y rfl (a0a (a0e rfl rfl rfl (a0e rfl rfl rfl (a0e rfl rfl rfl (a0e rfl rfl rfl ?_)))))
     obtain ⟨ex6, he6, hb6⟩ := bind_some hb6
     refine a2n (r := (Rp.int .i64)) u28 sz3 rfl rfl rfl rfl (hs1.mono hF1) he6 ?_
     intro b6 o6 cs6 hf2 hr8
     have hc6 : cs6 = [.int .i64 ex6] := hr8
     subst hc6
     refine a2h (j := 0) ag3 rfl rfl hx1 hf2 rfl rfl ?_
     refine a0u rfl rfl rfl rfl rfl ?_
     refine a0u rfl rfl rfl rfl rfl ?_
     refine a0b rfl rfl rfl (a0c ?_)
     refine a0n (fun a ha => ?_)
     cases hb6
     exact ⟨rfl, ha.cut (l := [0, 1, 2, 8, 9, 13, 14]) rfl⟩
    ·refine a0t 26 rfl hb7 ?_
     refine a0s rfl (a1e ?_)
     refine a0n (fun a ha => ?_)
     cases hb6
     exact ⟨rfl, ha.cut (l := [0, 1, 2, 8, 9, 13, 14]) rfl⟩
  ·refine a0t 15 rfl hb5 ?_
   refine a0s rfl (a3u (a0w (a0w ?_)))
   refine fun a ha => hk2 (borrow1, l1) a _ hm ?_
   exact ⟨_, xss2, hF1, hx1.pick [0] (by decide) rfl, hs2, ha.cut (l := [0, 1, 2, 7]) rfl⟩
end Go.Proofs.YtknpjecpcmajiaaGreat.M

namespace Go.Proofs.YtknpjecpcmajiaaGreat.M
open Go Go.RowKit Rt
theorem ent120 : Ent Tryz.prog 120 := fun _ _ => by kernel_rfl
theorem ent122 : Ent Tryz.prog 122 := fun _ _ => by kernel_rfl
theorem ent123 : Ent Tryz.prog 123 := fun _ _ => by kernel_rfl
def a8m (n : Nat) (v6 : (List Int)) (i1 : Int) (l5 : List Int) (kont2 : Int → Option ((List Int) × (List Int))) : Nat → Int → Int → Option ((List Int) × (List Int))
 | 0, _, _ => none
 | mx2 + 1, guess1, rest1 =>
  (bif decide (1048576 ≤ guess1) then
   some true
  else
   (bif decide (rest1 < 1048576) then
    (ix v6 (isub .i64 (v6.length : Int) 2)).bind fun ex8 =>
    (shl .i64 rest1 20).bind fun q4 =>
    (ix l5 (isub .i64 (iadd .i64 i1 (v6.length : Int)) 2)).bind fun ex9 =>
    some (decide ((ior .i64 q4 ex9) < (imul .i64 guess1 ex8)))
   else
    some false).bind fun v12 =>
   some v12).bind fun v11 =>
  bif v11 then
   (ix v6 (isub .i64 (v6.length : Int) 1)).bind fun ex7 =>
   a8m n v6 i1 l5 kont2 mx2 (isub .i64 guess1 1) (iadd .i64 rest1 ex7)
  else
   kont2 guess1
theorem b0v (n : Nat) (v6 : (List Int)) (i1 : Int) (l5 : List Int) (kont2 : Int → Option ((List Int) × (List Int))) (mx2 : Nat) (guess1 : Int) (rest1 : Int) : a8m n v6 i1 l5 kont2 (mx2 + 1) guess1 rest1 =
  (bif decide (1048576 ≤ guess1) then
   some true
  else
   (bif decide (rest1 < 1048576) then
    (ix v6 (isub .i64 (v6.length : Int) 2)).bind fun ex8 =>
    (shl .i64 rest1 20).bind fun q4 =>
    (ix l5 (isub .i64 (iadd .i64 i1 (v6.length : Int)) 2)).bind fun ex9 =>
    some (decide ((ior .i64 q4 ex9) < (imul .i64 guess1 ex8)))
   else
    some false).bind fun v12 =>
   some v12).bind fun v11 =>
  bif v11 then
   (ix v6 (isub .i64 (v6.length : Int) 1)).bind fun ex7 =>
   a8m n v6 i1 l5 kont2 mx2 (isub .i64 guess1 1) (iadd .i64 rest1 ex7)
  else
   kont2 guess1 := rfl
def a7m (n : Nat) (v6 : (List Int)) (kont1 : (List Int) → (List Int) → Option ((List Int) × (List Int))) : Nat → Int → (List Int) → (List Int) → Option ((List Int) × (List Int))
 | 0, _, _, _ => none
 | mx1 + 1, i1, l4, l5 =>
  bif decide (0 ≤ i1) then
   (ix l5 (iadd .i64 i1 (v6.length : Int))).bind fun ex2 =>
   (shl .i64 ex2 20).bind fun q1 =>
   (ix l5 (isub .i64 (iadd .i64 i1 (v6.length : Int)) 1)).bind fun ex3 =>
   (ix v6 (isub .i64 (v6.length : Int) 1)).bind fun ex4 =>
   (quo .i64 (ior .i64 q1 ex3) ex4).bind fun q2 =>
   (ix v6 (isub .i64 (v6.length : Int) 1)).bind fun ex5 =>
   (rem (ior .i64 q1 ex3) ex5).bind fun q3 =>
   a8m n v6 i1 l5 (fun (guess2 : Int) =>
    (lsl l5 i1 (iadd .i64 (iadd .i64 i1 (v6.length : Int)) 1)).bind fun l8 =>
    (a8n n l8 v6 guess2).bind fun v10 =>
    (ix l4 i1).bind fun _ =>
    (lset l4 i1 v10.2).bind fun l9 =>
    a7m n v6 kont1 mx1 (isub .i64 i1 1) l9 (lput l5 i1 v10.1 (iadd .i64 (iadd .i64 i1 (v6.length : Int)) 1))) n q2 q3
  else
   kont1 l4 l5
theorem b2z (n : Nat) (v6 : (List Int)) (kont1 : (List Int) → (List Int) → Option ((List Int) × (List Int))) (mx1 : Nat) (i1 : Int) (l4 : List Int) (l5 : List Int) : a7m n v6 kont1 (mx1 + 1) i1 l4 l5 =
  bif decide (0 ≤ i1) then
   (ix l5 (iadd .i64 i1 (v6.length : Int))).bind fun ex2 =>
   (shl .i64 ex2 20).bind fun q1 =>
   (ix l5 (isub .i64 (iadd .i64 i1 (v6.length : Int)) 1)).bind fun ex3 =>
   (ix v6 (isub .i64 (v6.length : Int) 1)).bind fun ex4 =>
   (quo .i64 (ior .i64 q1 ex3) ex4).bind fun q2 =>
   (ix v6 (isub .i64 (v6.length : Int) 1)).bind fun ex5 =>
   (rem (ior .i64 q1 ex3) ex5).bind fun q3 =>
   a8m n v6 i1 l5 (fun (guess2 : Int) =>
    (lsl l5 i1 (iadd .i64 (iadd .i64 i1 (v6.length : Int)) 1)).bind fun l8 =>
    (a8n n l8 v6 guess2).bind fun v10 =>
    (ix l4 i1).bind fun _ =>
    (lset l4 i1 v10.2).bind fun l9 =>
    a7m n v6 kont1 mx1 (isub .i64 i1 1) l9 (lput l5 i1 v10.1 (iadd .i64 (iadd .i64 i1 (v6.length : Int)) 1))) n q2 q3
  else
   kont1 l4 l5 := rfl
def a8w (n : Nat) (b1 : (List Int)) (kont3 : Int → Option ((List Int) × (List Int))) : Nat → Int → Option ((List Int) × (List Int))
 | 0, _ => none
 | mx3 + 1, shift1 =>
  (ix b1 (isub .i64 (b1.length : Int) 1)).bind fun ex10 =>
  bif decide ((imul .i64 ex10 shift1) < 524288) then
   a8w n b1 kont3 mx3 (imul .i64 shift1 2)
  else
   kont3 shift1
theorem b0u (n : Nat) (b1 : (List Int)) (kont3 : Int → Option ((List Int) × (List Int))) (mx3 : Nat) (shift1 : Int) : a8w n b1 kont3 (mx3 + 1) shift1 =
  (ix b1 (isub .i64 (b1.length : Int) 1)).bind fun ex10 =>
  bif decide ((imul .i64 ex10 shift1) < 524288) then
   a8w n b1 kont3 mx3 (imul .i64 shift1 2)
  else
   kont3 shift1 := rfl
def b2v (n : Nat) (ax1 : (List Int)) (b1 : (List Int)) : Option ((List Int) × (List Int)) :=
 (a7e n ax1 b1).bind fun v1 =>
 bif decide (v1 < 0) then
  (a1s n ax1).bind fun v2 =>
  some ([], v2)
 else
  bif (b1.length : Int) == 1 then
   (ix b1 0).bind fun ex1 =>
   (a7u n ax1 ex1).bind fun v3 =>
   (a3l n [v3.2]).bind fun v4 =>
   some (v3.1, v4)
  else
   a8w n b1 (fun (shift2 : Int) =>
    (b1e n ax1 [shift2]).bind fun v5 =>
    (app 8 v5 [0]).bind fun l1 =>
    (b1e n b1 [shift2]).bind fun v6 =>
    (bif (l1.length : Int) == (ax1.length : Int) then
     (app 8 l1 [0]).bind fun l10 =>
     some l10
    else
     some l1).bind fun l2 =>
    (mks 8 0 (isub .i64 (l2.length : Int) (v6.length : Int))).bind fun l3 =>
    a7m n v6 (fun (l6 : List Int) (l7 : List Int) =>
     (a3l n l7).bind fun v7 =>
     (a7u n v7 shift2).bind fun v8 =>
     (a3l n l6).bind fun v9 =>
     some (v9, v8.1)) n (isub .i64 (l3.length : Int) 1) l3 l2) n 1
set_option maxHeartbeats 1000000 in
set_option maxRecDepth 1000000 in
theorem b8z (n : Nat) (ax1 : (List Int)) (b1 : (List Int)) (r : ((List Int) × (List Int))) (hm : b2v n ax1 b1 = some r) {w : World} {F : Frz} (hs : Sat F w) {as1 : Option Addr} {ns1 : Nat} {cs1 : Nat} {as2 : Option Addr} {ns2 : Nat} {cs2 : Nat} (hs1 : SlR (Rp.int .i64) F as1 ns1 cs1 ax1) (hs2 : SlR (Rp.int .i64) F as2 ns2 cs2 b1) :
  Calls Tryz.prog 81 #[.slice as1 ns1 cs1, .slice as2 ns2 cs2] w fun e w' => ∃ v F' O', e = .returned v ∧ HS F w [] F' O' w' ∧ (∃ (a0_0 : Option Addr) (n0_0 : Nat) (c0_0 : Nat) (a1_0 : Option Addr) (n1_0 : Nat) (c1_0 : Nat) (xs1_0 : List Value), v = .tuple #[.slice a0_0 n0_0 c0_0, .slice a1_0 n1_0 c1_0] ∧ O' = [.row 3 1 a1_0 n1_0 c1_0 xs1_0] ∧ SlR (Rp.int .i64) F' a0_0 n0_0 c0_0 r.1 ∧ RowN (Rp.int .i64) F' n1_0 xs1_0 r.2) := by
 unfold b2v at hm
 have h := HS.init hs
 refine a1a 170 Tryz.func81 rfl rfl rfl ?_
 refine a0f (a0a (a0b rfl rfl rfl (a0b rfl rfl rfl (a0c (a0d (a0f (a0f (a0a (a0e rfl rfl rfl (a0e rfl rfl rfl ?_))))))))))
 obtain ⟨v1, hv1, hm⟩ := bind_some hm
 refine a0i ent85 rfl rfl rfl rfl h (b1d _ _ _ _ hv1 h.sat hs1 hs2) ?_
 rintro _ Fx1 _ wx1 hF1 hx1 ⟨rfl, rfl⟩
 refine a0u rfl rfl rfl rfl rfl ?_
 refine a0c (a0d ?_)
 rcases a0g hm with ⟨hb1, hm⟩ | ⟨hb1, hm⟩
 ·refine a0t 22 rfl hb1 ?_
  refine a0y rfl (a0f (a0a (a0e rfl rfl rfl ?_)))
  obtain ⟨v2, hv2, hm⟩ := bind_some hm
  refine a0i ent67 rfl rfl rfl rfl hx1 (a1x _ _ _ hv2 hx1.sat (hs1.mono hF1)) ?_
  rintro _ Fx2 _ wx2 hF2 hx2 ⟨as3, ns3, cs3, xss3, rfl, rfl, hs3⟩
  refine a0b rfl rfl rfl (a0b rfl rfl rfl (a0c (a0d (a1d (a0k ?_)))))
  refine a1v (vl := [.slice none 0 0, .slice as3 ns3 cs3]) rfl ⟨a1z rfl, a1z rfl, trivial⟩ (by simp) ?_
  obtain rfl := Option.some.inj hm
  exact ⟨_, _, _, rfl, hx2.pick [0] (by decide) rfl, none, 0, 0, as3, ns3, cs3, xss3, rfl, rfl, SlR.nil _ _, hs3⟩
 ·refine a0t 22 rfl hb1 ?_
  refine a0s rfl (a1e (a0d (a0f (a0f (a0a (a0e rfl rfl rfl ?_))))))
  refine a1u hs2.len u28 rfl rfl rfl ?_
  refine a0u rfl rfl rfl rfl rfl ?_
  refine a0c (a0d ?_)
  rcases a0g hm with ⟨hb2, hm⟩ | ⟨hb2, hm⟩
  ·refine a0t 27 rfl hb2 ?_
   refine a0y rfl (a0f (a0a (a0e rfl rfl rfl (a0e rfl rfl rfl ?_))))
   obtain ⟨ex1, he1, hm⟩ := bind_some hm
   refine a2n (r := (Rp.int .i64)) u28 sz3 rfl rfl rfl rfl (hs2.mono hF1) he1 ?_
   intro b2 o1 cs1 hf1 hr1
   have hc1 : cs1 = [.int .i64 ex1] := hr1
   subst hc1
   refine a2h (j := 0) ag3 rfl rfl hx1 hf1 rfl rfl ?_
   obtain ⟨v3, hv3, hm⟩ := bind_some hm
   refine a0i ent120 rfl rfl rfl rfl hx1 (b5z _ _ _ _ hv3 hx1.sat (hs1.mono hF1)) ?_
   rintro _ Fx3 _ wx3 hF3 hx3 ⟨as4, ns4, cs4, xss4, rfl, rfl, hs4⟩
   refine a0e rfl rfl rfl (a0j rfl rfl rfl rfl (a0j rfl rfl rfl rfl (a0b rfl rfl rfl (a0b rfl rfl rfl (a0c (a0d (a0f (a0a (a0e rfl rfl rfl (a0e rfl rfl rfl ?_))))))))))
   refine a1q (e := 3) (cs := [.int .i64 v3.2]) (q := 1) rfl rfl hx3 rfl (fun _ => by kernel_rfl) rfl rfl ?_
   intro b3 wx4 hx4
   obtain ⟨v4, hv4, hm⟩ := bind_some hm
   refine b2n ent121 rfl rfl rfl rfl (a6y _ _ _ hv4 (b0a _) (hx4.viewRow (p := 0) rfl rfl ((show RowN (Rp.int .i64) Fx3 1 [.int .i64 v3.2] [v3.2] from ⟨rfl, ⟨_, _, rfl, rfl, (rfl : RowR (Rp.int .i64) _ [] [])⟩⟩)))) ?_
   intro ns5 hles5 hvs5
   obtain ⟨hx5, hr2⟩ := hx4.cutN (p := 0) rfl ((show RowN (Rp.int .i64) Fx3 1 [.int .i64 v3.2] [v3.2] from ⟨rfl, ⟨_, _, rfl, rfl, (rfl : RowR (Rp.int .i64) _ [] [])⟩⟩)) hles5
   rw [← hvs5] at hr2
   refine a0b rfl rfl rfl (a0b rfl rfl rfl (a0c (a0d (a1d (a0k ?_)))))
   obtain ⟨Fx4, hF4, hx6, hsx1⟩ := a1c hx5 (i := 1) rfl hs4
   refine a1v (vl := [.slice as4 ns4 cs4, .slice (some ⟨b3, 0, none⟩) ns5 1]) rfl ⟨a1z rfl, a1z rfl, trivial⟩ (by simp) ?_
   obtain rfl := Option.some.inj hm
   exact ⟨_, _, _, rfl, hx6.pick [0] (by decide) rfl, as4, ns4, cs4, (some ⟨b3, 0, none⟩), ns5, 1, ([.int .i64 v3.2].take (ns5 * ((Rp.int .i64)).k)), rfl, rfl, hsx1, (hr2.mono hF4)⟩
  ·refine a0t 27 rfl hb2 ?_
   refine a0s rfl (a1e (a0d (a0f (a0a (a0b rfl rfl rfl (a0c (a0d (a0f (a1g ?_)))))))))
   intro a hax16
   obtain ⟨kont3, hkont3⟩ : ∃ kont3 : Int → Option ((List Int) × (List Int)), kont3 = (fun (shift2 : Int) =>
       (b1e n ax1 [shift2]).bind fun v5 =>
       (app 8 v5 [0]).bind fun l1 =>
       (b1e n b1 [shift2]).bind fun v6 =>
       (bif (l1.length : Int) == (ax1.length : Int) then
        (app 8 l1 [0]).bind fun l10 =>
        some l10
       else
        some l1).bind fun l2 =>
       (mks 8 0 (isub .i64 (l2.length : Int) (v6.length : Int))).bind fun l3 =>
       a7m n v6 (fun (l6 : List Int) (l7 : List Int) =>
        (a3l n l7).bind fun v7 =>
        (a7u n v7 shift2).bind fun v8 =>
        (a3l n l6).bind fun v9 =>
        some (v9, v8.1)) n (isub .i64 (l3.length : Int) 1) l3 l2) := ⟨_, rfl⟩
   replace hm : (fun m (s : Int) => a8w n b1 kont3 m s) n 1 = some r := by rw [hkont3]; exact hm
   refine a5w (id := 0) (fun m (s : Int) => a8w n b1 kont3 m s) (fun (y : Int) => kont3 y) r (fun (s : Int) a w' => wx1 = w' ∧ Has 170 a [(0, .slice as1 ns1 cs1), (1, .slice as2 ns2 cs2), (8, .int .i64 s)]) (fun (y : Int) a w' => wx1 = w' ∧ Has 170 a [(0, .slice as1 ns1 cs1), (1, .slice as2 ns2 cs2), (8, .int .i64 y)]) (fun _ => rfl) ?_ ?_ hm ⟨rfl, hax16.cut (l := [0, 1, 8]) rfl⟩
   ·clear hm; rintro shift2 a wx5 hm ⟨rfl, hax1⟩
    rw [hkont3] at hm
    replace hm := hm
    refine a2f (e := .exit 0) hax1 ?_
    refine a1k (a0d (a0f (a0a (a0e rfl rfl rfl (a0e rfl rfl rfl ?_)))))
    refine a1q (e := 3) (cs := [.int .i64 shift2]) (q := 1) rfl rfl hx1 rfl (fun _ => by kernel_rfl) rfl rfl ?_
    intro b4 wx6 hx7
    obtain ⟨Fx5, hF5, hx8, hsx2⟩ := a1c hx7 (i := 0) rfl ((show RowN (Rp.int .i64) Fx1 1 [.int .i64 shift2] [shift2] from ⟨rfl, ⟨_, _, rfl, rfl, (rfl : RowR (Rp.int .i64) _ [] [])⟩⟩))
    obtain ⟨v5, hv5, hm⟩ := bind_some hm
    refine a0i ent122 rfl rfl rfl rfl hx8 (b5h _ _ _ _ hv5 hx8.sat ((hs1.mono hF1).mono hF5) hsx2) ?_
    rintro _ Fx6 _ wx7 hF6 hx9 ⟨as6, ns6, cs6, xss6, rfl, rfl, hs6⟩
    refine a1q (e := 3) (cs := [.int .i64 0]) (q := 1) rfl rfl hx9 rfl (fun _ => by kernel_rfl) rfl rfl ?_
    intro b5 wx8 hx10
    obtain ⟨l1, hr3, hm⟩ := bind_some hm
    refine a9n (r := (Rp.int .i64)) ap28 rfl rfl hx10 rfl rfl (i := 1) (j := 0) rfl rfl hs6 ((show RowN (Rp.int .i64) Fx6 1 [.int .i64 0] [0] from ⟨rfl, ⟨_, _, rfl, rfl, (rfl : RowR (Rp.int .i64) _ [] [])⟩⟩)) hr3 ?_
    intro as7 cs7 wx9 hx11 hs7
    refine a0e rfl rfl rfl (a0e rfl rfl rfl ?_)
    refine a1q (e := 3) (cs := [.int .i64 shift2]) (q := 1) rfl rfl hx11 rfl (fun _ => by kernel_rfl) rfl rfl ?_
    intro b6 wx10 hx12
    obtain ⟨Fx7, hF7, hx13, hsx3⟩ := a1c hx12 (i := 0) rfl ((show RowN (Rp.int .i64) Fx6 1 [.int .i64 shift2] [shift2] from ⟨rfl, ⟨_, _, rfl, rfl, (rfl : RowR (Rp.int .i64) _ [] [])⟩⟩))
    have hG1 := ((hF1.trans hF5).trans hF6).trans hF7
    obtain ⟨v6, hv6, hm⟩ := bind_some hm
    refine a0i ent122 rfl rfl rfl rfl hx13 (b5h _ _ _ _ hv6 hx13.sat (hs2.mono hG1) hsx3) ?_
    rintro _ Fx8 _ wx11 hF8 hx14 ⟨as8, ns8, cs8, xss8, rfl, rfl, hs8⟩
    refine a0b rfl rfl rfl (a0b rfl rfl rfl (a0c (a0d (a0f (a0f (a0a (a0e rfl rfl rfl ?_)))))))
    refine a1u hs7.len u28 rfl rfl rfl ?_
    refine a0e rfl rfl rfl ?_
    refine a1u hs1.len u28 rfl rfl rfl ?_
    refine a0u rfl rfl rfl rfl rfl ?_
    refine a0c (a0d ?_)
    obtain ⟨l2, hb3, hm⟩ := bind_some hm
    refine a8f (fun a w' => ∃ (Fx9 : Frz) (as9 : Option Addr) (ns9 : Nat) (cs9 : Nat) (xss9 : List Value), Frz.le Fx8 Fx9 ∧ HS F w [] Fx9 [.row 3 1 as8 ns8 cs8 xss8, .row 3 1 (some ⟨b5, 0, none⟩) 1 1 [.int .i64 0], .row 3 1 as9 ns9 cs9 xss9] w' ∧ (RowN (Rp.int .i64) Fx9 ns9 xss9 l2) ∧ Has 170 a [(8, .int .i64 shift2), (9, .slice as9 ns9 cs9), (10, .slice as8 ns8 cs8)]) ?_ ?_
    ·rintro a wx12 ⟨Fx9, as9, ns9, cs9, xss9, hF9, hx15, hs9, hax2⟩
     refine a1i hax2 ?_
     refine a0f (a0a (a0e rfl rfl rfl ?_))
     refine a1u hs8.len u28 rfl rfl rfl ?_
     refine a0b rfl rfl rfl (a0c (a0d (a0f (a0a (a0e rfl rfl rfl ?_)))))
     refine a1u hs9.len u28 rfl rfl rfl ?_
     refine a0e rfl rfl rfl ?_
     refine a0u rfl rfl rfl rfl rfl ?_
     obtain ⟨l3, hl1, hm⟩ := bind_some hm
     refine b8u (r := (Rp.int .i64)) ap28 zi3 (fun _ => rfl) rfl rfl rfl hx15 rfl rfl hl1 ?_
     intro b7 wx13 xs1 hx16 hr4
     refine a0b rfl rfl rfl (a0c (a0d (a0f (a0f (a0a (a0e rfl rfl rfl ?_))))))
     refine a1u hr4.len u28 rfl rfl rfl ?_
     refine a0u rfl rfl rfl rfl rfl ?_
     refine a0b rfl rfl rfl (a0c (a0d (a1g ?_)))
     obtain ⟨Fx10, hF10, hx17, hsx4⟩ := a1c hx16 (i := 1) rfl (hs8.mono hF9)
     intro a hax14
     obtain ⟨kont1, hkont1⟩ : ∃ kont1 : (List Int) → (List Int) → Option ((List Int) × (List Int)), kont1 = (fun (l6 : List Int) (l7 : List Int) =>
       (a3l n l7).bind fun v7 =>
       (a7u n v7 shift2).bind fun v8 =>
       (a3l n l6).bind fun v9 =>
       some (v9, v8.1)) := ⟨_, rfl⟩
     replace hm : (fun m (s : Int × List Int × List Int) => a7m n v6 kont1 m s.1 s.2.1 s.2.2) n ((isub .i64 (l3.length : Int) 1), l3, l2) = some r := by rw [hkont1]; exact hm
     refine a5w (id := 2) (fun m (s : Int × List Int × List Int) => a7m n v6 kont1 m s.1 s.2.1 s.2.2) (fun (y : List Int × List Int) => kont1 y.1 y.2) r (fun (s : Int × List Int × List Int) a w' => ∃ (Fx11 : Frz) (as10 : Option Addr) (ns10 : Nat) (cs10 : Nat) (xss10 : List Value) (as11 : Option Addr) (ns11 : Nat) (cs11 : Nat) (xss11 : List Value), Frz.le Fx10 Fx11 ∧ HS F w [] Fx11 [.row 3 1 as10 ns10 cs10 xss10, .row 3 1 as11 ns11 cs11 xss11] w' ∧ (RowN (Rp.int .i64) Fx11 ns10 xss10 s.2.1) ∧ (RowN (Rp.int .i64) Fx11 ns11 xss11 s.2.2) ∧ Has 170 a [(8, .int .i64 shift2), (9, .slice as11 ns11 cs11), (10, .slice as8 ns8 cs8), (11, .int .i64 (v6.length : Int)), (12, .slice as10 ns10 cs10), (13, .int .i64 s.1)]) (fun (y : List Int × List Int) a w' => ∃ (Fx12 : Frz) (as12 : Option Addr) (ns12 : Nat) (cs12 : Nat) (xss12 : List Value) (as13 : Option Addr) (ns13 : Nat) (cs13 : Nat) (xss13 : List Value), Frz.le Fx10 Fx12 ∧ HS F w [] Fx12 [.row 3 1 as12 ns12 cs12 xss12, .row 3 1 as13 ns13 cs13 xss13] w' ∧ (RowN (Rp.int .i64) Fx12 ns12 xss12 y.1) ∧ (RowN (Rp.int .i64) Fx12 ns13 xss13 y.2) ∧ Has 170 a [(8, .int .i64 shift2), (9, .slice as13 ns13 cs13), (12, .slice as12 ns12 cs12)]) (fun _ => rfl) ?_ ?_ hm ⟨_, (some ⟨b7, 0, none⟩), ((isub .i64 (l2.length : Int) (v6.length : Int)).toNat), ((isub .i64 (l2.length : Int) (v6.length : Int)).toNat), xs1, as9, ns9, cs9, xss9, Frz.refl _, hx17.pick [0, 2] (by decide) rfl, (hr4.mono hF10), (hs9.mono hF10), hax14.cut (l := [8, 9, 10, 11, 12, 13]) rfl⟩
     ·clear hm; rintro ⟨l6, l7⟩ a wx14 hm ⟨Fx12, as12, ns12, cs12, xss12, as13, ns13, cs13, xss13, hF12, hx19, hs12, hs13, hax3⟩
      rw [hkont1] at hm
      replace hm := hm
      refine a2f (e := .exit 2) hax3 ?_
      refine a1k (a0d (a0f (a0a (a0e rfl rfl rfl ?_))))
      obtain ⟨v7, hv7, hm⟩ := bind_some hm
      refine b2n ent121 rfl rfl rfl rfl (a6y _ _ _ hv7 (b0a _) (hx19.viewRow (p := 1) rfl rfl hs13)) ?_
      intro ns14 hles14 hvs14
      obtain ⟨hx20, hr5⟩ := hx19.cutN (p := 1) rfl hs13 hles14
      rw [← hvs14] at hr5
      refine a0e rfl rfl rfl ?_
      obtain ⟨Fx13, hF13, hx21, hsx5⟩ := a1c hx20 (i := 1) rfl hr5
      obtain ⟨v8, hv8, hm⟩ := bind_some hm
      refine a0i ent120 rfl rfl rfl rfl hx21 (b5z _ _ _ _ hv8 hx21.sat hsx5) ?_
      rintro _ Fx14 _ wx15 hF14 hx22 ⟨as15, ns15, cs15, xss15, rfl, rfl, hs15⟩
      refine a0e rfl rfl rfl (a0j rfl rfl rfl rfl (a0j rfl rfl rfl rfl (a0b rfl rfl rfl (a0b rfl rfl rfl (a0c (a0d (a0f (a0a (a0e rfl rfl rfl ?_)))))))))
      obtain ⟨v9, hv9, hm⟩ := bind_some hm
      refine b2n ent121 rfl rfl rfl rfl (a6y _ _ _ hv9 (b0a _) (hx22.viewRow (p := 1) rfl rfl ((hs12.mono hF13).mono hF14))) ?_
      intro ns16 hles16 hvs16
      obtain ⟨hx23, hr6⟩ := hx22.cutN (p := 1) rfl ((hs12.mono hF13).mono hF14) hles16
      rw [← hvs16] at hr6
      refine a0e rfl rfl rfl (a0b rfl rfl rfl (a0b rfl rfl rfl (a0c (a0d (a1d ?_)))))
      obtain ⟨Fx15, hF15, hx24, hsx6⟩ := a1c hx23 (i := 1) rfl hr6
      refine a1v (vl := [.slice as12 ns16 cs12, .slice as15 ns15 cs15]) rfl ⟨a1z rfl, a1z rfl, trivial⟩ (by simp) ?_
      obtain rfl := Option.some.inj hm
      exact ⟨_, _, _, rfl, hx24.pick [0] (by decide) rfl, as12, ns16, cs12, as15, ns15, cs15, xss15, rfl, rfl, hsx6, (hs15.mono hF15)⟩
     ·clear hm hkont1; intro hk1 mx1 K ihx1
      rintro ⟨i1, l4, l5⟩ a wx16 hm ⟨Fx11, as10, ns10, cs10, xss10, as11, ns11, cs11, xss11, hF11, hx18, hs10, hs11, hax4⟩
      simp only [b2z] at hm
      refine a1i hax4 ?_
      refine a0f (a0f (a0a (a0e rfl rfl rfl ?_)))
      refine a0u rfl rfl rfl rfl rfl ?_
      refine a0c (a0d ?_)
      rcases a0g hm with ⟨hb4, hm⟩ | ⟨hb4, hm⟩
      ·refine a0t 80 rfl hb4 ?_
       refine a0y rfl (a1e (a0d (a0f (a1g (a0f ?_)))))
       refine a4f (by kernel_rfl) (by kernel_rfl) hx18 ?_
       refine a1h rfl rfl rfl rfl (fun _ _ _ _ => a0e rfl rfl rfl (a0c (qq rfl))) ?_
       refine a1h rfl rfl rfl rfl (fun _ _ _ _ => a0e rfl rfl rfl (a0c (qq rfl))) ?_
       refine a1h rfl rfl rfl rfl (fun _ _ _ _ => a0e rfl rfl rfl (a0c (qq rfl))) ?_
       refine a1h rfl rfl rfl rfl (fun _ _ _ _ => a0u rfl rfl rfl rfl rfl (a0c (qq rfl))) ?_
       obtain ⟨ex2, he2, hm⟩ := bind_some hm
       obtain ⟨b8, o2, cs2, hax5, ho1, hr7, hp1, hrun1⟩ := a3y (P := Tryz.prog) (r := (Rp.int .i64)) u28 sz3 hx18 (p := 1) rfl rfl hs11 he2
       have hc2 : cs2 = [.int .i64 ex2] := hr7
       subst hc2
       refine a3i rfl rfl rfl rfl hrun1 ?_
       refine a1h rfl rfl rfl rfl (fun _ _ _ hq => a4s (j := 0) ag3 rfl rfl hq rfl (p := 1) rfl rfl hax5 ho1 hp1 rfl (a0c (qq rfl))) ?_
       obtain ⟨q1, hq1, hm⟩ := bind_some hm
       refine a1h rfl rfl rfl rfl (fun _ _ _ _ => c7x rfl rfl rfl rfl hq1 (a0c (qq rfl))) ?_
       refine a1h rfl rfl rfl rfl (fun _ _ _ _ => a0e rfl rfl rfl (a0c (qq rfl))) ?_
       refine a1h rfl rfl rfl rfl (fun _ _ _ _ => a0e rfl rfl rfl (a0c (qq rfl))) ?_
       refine a1h rfl rfl rfl rfl (fun _ _ _ _ => a0e rfl rfl rfl (a0c (qq rfl))) ?_
       refine a1h rfl rfl rfl rfl (fun _ _ _ _ => a0u rfl rfl rfl rfl rfl (a0c (qq rfl))) ?_
       refine a1h rfl rfl rfl rfl (fun _ _ _ _ => a0u rfl rfl rfl rfl rfl (a0c (qq rfl))) ?_
       obtain ⟨ex3, he3, hm⟩ := bind_some hm
       obtain ⟨b9, o3, cs3, hax6, ho2, hr8, hp2, hrun2⟩ := a3y (P := Tryz.prog) (r := (Rp.int .i64)) u28 sz3 hx18 (p := 1) rfl rfl hs11 he3
       have hc3 : cs3 = [.int .i64 ex3] := hr8
       subst hc3
       refine a3i rfl rfl rfl rfl hrun2 ?_
       refine a1h rfl rfl rfl rfl (fun _ _ _ hq => a4s (j := 0) ag3 rfl rfl hq rfl (p := 1) rfl rfl hax6 ho2 hp2 rfl (a0c (qq rfl))) ?_
       refine a1h rfl rfl rfl rfl (fun _ _ _ _ => a0u rfl rfl rfl rfl rfl (a0c (qq rfl))) ?_
       refine a1h rfl rfl rfl rfl (fun _ _ _ _ => a0b rfl rfl rfl (a0c (qq rfl))) ?_
       refine b2i ?_
       rintro wx17 ⟨Fx16, hF16, hx25⟩
       refine a0d (a0f ?_)
       refine a4f (by kernel_rfl) (by kernel_rfl) hx25 ?_
       refine a1h rfl rfl rfl rfl (fun _ _ _ _ => a0e rfl rfl rfl (a0c (qq rfl))) ?_
       refine a1h rfl rfl rfl rfl (fun _ _ _ _ => a0e rfl rfl rfl (a0c (qq rfl))) ?_
       refine a1h rfl rfl rfl rfl (fun _ _ _ _ => a0e rfl rfl rfl (a0c (qq rfl))) ?_
       refine a1h rfl rfl rfl rfl (fun _ _ _ _ => a0u rfl rfl rfl rfl rfl (a0c (qq rfl))) ?_
       obtain ⟨ex4, he4, hm⟩ := bind_some hm
       obtain ⟨b10, o4, cs4, hf2, hr9, hrun3⟩ := a2s (P := Tryz.prog) (r := (Rp.int .i64)) u28 sz3 ((hsx4.mono hF11).mono hF16) he4
       have hc4 : cs4 = [.int .i64 ex4] := hr9
       subst hc4
       refine a3i rfl rfl rfl rfl hrun3 ?_
       refine a1h rfl rfl rfl rfl (fun _ _ hleq hq => a2h (j := 0) ag3 rfl rfl hq (hf2.mono hleq) rfl rfl (a0c (qq rfl))) ?_
       obtain ⟨q2, hq2, hm⟩ := bind_some hm
       refine a1h rfl rfl rfl rfl (fun _ _ _ _ => c4e rfl rfl rfl rfl hq2 (a0c (qq rfl))) ?_
       refine a1h rfl rfl rfl rfl (fun _ _ _ _ => a0e rfl rfl rfl (a0c (qq rfl))) ?_
       refine a1h rfl rfl rfl rfl (fun _ _ _ _ => a0e rfl rfl rfl (a0c (qq rfl))) ?_
       refine a1h rfl rfl rfl rfl (fun _ _ _ _ => a0e rfl rfl rfl (a0c (qq rfl))) ?_
       refine a1h rfl rfl rfl rfl (fun _ _ _ _ => a0u rfl rfl rfl rfl rfl (a0c (qq rfl))) ?_
       obtain ⟨ex5, he5, hm⟩ := bind_some hm
       obtain ⟨b11, o5, cs5, hf3, hr10, hrun4⟩ := a2s (P := Tryz.prog) (r := (Rp.int .i64)) u28 sz3 ((hsx4.mono hF11).mono hF16) he5
       have hc5 : cs5 = [.int .i64 ex5] := hr10
       subst hc5
       refine a3i rfl rfl rfl rfl hrun4 ?_
       refine a1h rfl rfl rfl rfl (fun _ _ hleq hq => a2h (j := 0) ag3 rfl rfl hq (hf3.mono hleq) rfl rfl (a0c (qq rfl))) ?_
       obtain ⟨q3, hq3, hm⟩ := bind_some hm
       refine a1h rfl rfl rfl rfl (fun _ _ _ _ => c4z rfl rfl rfl rfl hq3 (a0c (qq rfl))) ?_
       refine a1h rfl rfl rfl rfl (fun _ _ _ _ => a0b rfl rfl rfl (a0c (qq rfl))) ?_
       refine a1h rfl rfl rfl rfl (fun _ _ _ _ => a0b rfl rfl rfl (a0c (qq rfl))) ?_
       refine b2i ?_
       rintro wx18 ⟨Fx17, hF17, hx26⟩
       refine a0d (a0f (a1g ?_))
       intro a hax13
       obtain ⟨kont2, hkont2⟩ : ∃ kont2 : Int → Option ((List Int) × (List Int)), kont2 = (fun (guess2 : Int) =>
       (lsl l5 i1 (iadd .i64 (iadd .i64 i1 (v6.length : Int)) 1)).bind fun l8 =>
       (a8n n l8 v6 guess2).bind fun v10 =>
       (ix l4 i1).bind fun ex6 =>
       (lset l4 i1 v10.2).bind fun l9 =>
       a7m n v6 kont1 mx1 (isub .i64 i1 1) l9 (lput l5 i1 v10.1 (iadd .i64 (iadd .i64 i1 (v6.length : Int)) 1))) := ⟨_, rfl⟩
       replace hm : (fun m (s : Int × Int) => a8m n v6 i1 l5 kont2 m s.1 s.2) n (q2, q3) = some r := by rw [hkont2]; exact hm
       refine a5w (id := 4) (fun m (s : Int × Int) => a8m n v6 i1 l5 kont2 m s.1 s.2) (fun (y : Int) => kont2 y) r (fun (s : Int × Int) a w' => ∃ (Fx18 : Frz), Frz.le Fx17 Fx18 ∧ HS F w [] Fx18 [.row 3 1 as10 ns10 cs10 xss10, .row 3 1 as11 ns11 cs11 xss11] w' ∧ Has 170 a [(8, .int .i64 shift2), (9, .slice as11 ns11 cs11), (10, .slice as8 ns8 cs8), (11, .int .i64 (v6.length : Int)), (12, .slice as10 ns10 cs10), (13, .int .i64 i1), (15, .int .i64 s.1), (16, .int .i64 s.2)]) (fun (y : Int) a w' => ∃ (Fx19 : Frz), Frz.le Fx17 Fx19 ∧ HS F w [] Fx19 [.row 3 1 as10 ns10 cs10 xss10, .row 3 1 as11 ns11 cs11 xss11] w' ∧ Has 170 a [(8, .int .i64 shift2), (9, .slice as11 ns11 cs11), (10, .slice as8 ns8 cs8), (11, .int .i64 (v6.length : Int)), (12, .slice as10 ns10 cs10), (13, .int .i64 i1), (15, .int .i64 y)]) (fun _ => rfl) ?_ ?_ hm ⟨_, Frz.refl _, hx26.pick [0, 1] (by decide) rfl, hax13.cut (l := [8, 9, 10, 11, 12, 13, 15, 16]) rfl⟩
       ·clear hm; rintro guess2 a wx19 hm ⟨Fx19, hF19, hx28, hax7⟩
        rw [hkont2] at hm
        replace hm := hm
        refine a2f (e := .exit 4) hax7 ?_
        refine a1k (a0d (a0a (a0e rfl rfl rfl (a0e rfl rfl rfl (a0e rfl rfl rfl (a0e rfl rfl rfl (a0e rfl rfl rfl (a0e rfl rfl rfl ?_))))))))
        refine a0u rfl rfl rfl rfl rfl ?_
        refine a0u rfl rfl rfl rfl rfl ?_
        obtain ⟨l8, hc6, hm⟩ := bind_some hm
        refine c8o u28 (r := (Rp.int .i64)) sz3 rfl rfl hx28 rfl rfl rfl (p := 1) rfl rfl (((hs11.mono hF16).mono hF17).mono hF19) hc6 ?_
        intro as17 ns17 cs17 hs17
        refine a0e rfl rfl rfl (a0e rfl rfl rfl ?_)
        have hG2 := ((hF11.trans hF16).trans hF17).trans hF19
        obtain ⟨v10, hv10, hm⟩ := bind_some hm
        refine c9l (r := (Rp.int .i64)) ent123 rfl rfl rfl rfl hx28 (p := 1) rfl rfl (((hs11.mono hF16).mono hF17).mono hF19) hs17 (fun pre1 mid1 post1 hw1 hwf1 hwr1 => b9n _ _ _ _ _ hv10 hx28.sat hw1 hwf1 (by rw [show l8 = _ from (b3m hc6).2.2.2]; exact hwr1) (hsx4.mono hG2)) ?_
        rintro _ Fx20 _ _ wx20 xs2 hF20 hx29 hxx1 ⟨rfl, rfl, hr11⟩
        obtain ⟨ex6, he6, hm⟩ := bind_some hm
        refine a5c (r := (Rp.int .i64)) u28 sz3 rfl rfl hx29 rfl rfl (p := 0) rfl rfl ((((hs10.mono hF16).mono hF17).mono hF19).mono hF20) he6 ?_
        intro b12 o6 cs6 hax8 ho3 hr12 hp3
        have hc7 : cs6 = [.int .i64 ex6] := hr12
        subst hc7
        obtain ⟨l9, hl2, hm⟩ := bind_some hm
        refine a6x (r := (Rp.int .i64)) sz3 rfl hx29 rfl rfl rfl rfl rfl (p := 0) rfl rfl hax8 ho3 ((((hs10.mono hF16).mono hF17).mono hF19).mono hF20) rfl rfl hl2 ?_
        intro wx21 xs3 hx30 hr13
        refine a0c (a1m (a0d (a0a (a0e rfl rfl rfl ?_))))
        refine a0u rfl rfl rfl rfl rfl ?_
        refine a0b rfl rfl rfl (a0c ?_)
        refine a0n (fun a ha => ihx1 ((isub .i64 i1 1), l9, (lput l5 i1 v10.1 (iadd .i64 (iadd .i64 i1 (v6.length : Int)) 1))) a _ hm ?_)
        exact ⟨_, as10, ns10, cs10, xs3, as11, ns11, cs11, xs2, ((((hF11.trans hF16).trans hF17).trans hF19).trans hF20), hx30.pick [0, 1] (by decide) rfl, hr13, ((hxx1 _ hr11)), ha.cut (l := [8, 9, 10, 11, 12, 13]) rfl⟩
       ·clear hm hkont2; intro hk2 mx2 K ihx2
        rintro ⟨guess1, rest1⟩ a wx22 hm ⟨Fx18, hF18, hx27, hax9⟩
        simp only [b0v] at hm
        refine a1i hax9 ?_
        refine a0f (a0f ?_)
        refine a4f (by kernel_rfl) (by kernel_rfl) hx27 ?_
        refine a1h rfl rfl rfl rfl (fun _ _ _ _ => a0e rfl rfl rfl (a0c (qq rfl))) ?_
        refine a1h rfl rfl rfl rfl (fun _ _ _ _ => a0u rfl rfl rfl rfl rfl (a0c (qq rfl))) ?_
        refine a1h rfl rfl rfl rfl (fun _ _ _ _ => a0e rfl rfl rfl (a0c (qq rfl))) ?_
        obtain ⟨v11, hb5, hm⟩ := bind_some hm
        refine c4i 23 (fun a => Has 170 a [(8, .int .i64 shift2), (9, .slice as11 ns11 cs11), (10, .slice as8 ns8 cs8), (11, .int .i64 (v6.length : Int)), (12, .slice as10 ns10 cs10), (13, .int .i64 i1), (15, .int .i64 guess1), (16, .int .i64 rest1), (137, .bool v11)]) ?_ ?_
        ·intro a hax10
         refine b3j hax10 ?_
         refine b2i ?_
         rintro wx24 ⟨Fx21, hF21, hx31⟩
         refine a0d ?_
         rcases a0g hm with ⟨hb6, hm⟩ | ⟨hb6, hm⟩
         ·refine a0t 137 rfl hb6 ?_
          refine a0y rfl (a1e (a0d (a1g (a0f (a0a (a0e rfl rfl rfl ?_))))))
          refine a0u rfl rfl rfl rfl rfl ?_
          refine a0b rfl rfl rfl (a0c (a0d (a0a (a0e rfl rfl rfl (a0e rfl rfl rfl (a0e rfl rfl rfl ?_))))))
          refine a0u rfl rfl rfl rfl rfl ?_
          obtain ⟨ex7, he7, hm⟩ := bind_some hm
          refine a2n (r := (Rp.int .i64)) u28 sz3 rfl rfl rfl rfl (((((hsx4.mono hF11).mono hF16).mono hF17).mono hF18).mono hF21) he7 ?_
          intro b13 o7 cs7 hf4 hr14
          have hc8 : cs7 = [.int .i64 ex7] := hr14
          subst hc8
          refine a2h (j := 0) ag3 rfl rfl hx31 hf4 rfl rfl ?_
          refine a0u rfl rfl rfl rfl rfl ?_
          refine a0b rfl rfl rfl (a0c (a1m ?_))
          refine a0n (fun a ha => ihx2 ((isub .i64 guess1 1), (iadd .i64 rest1 ex7)) a _ hm ?_)
          exact ⟨_, (hF18.trans hF21), hx31.pick [0, 1] (by decide) rfl, ha.cut (l := [8, 9, 10, 11, 12, 13, 15, 16]) rfl⟩
         ·refine a0t 137 rfl hb6 ?_
          refine a0s rfl (a3u (a0w (a0w ?_)))
          refine fun a ha => hk2 guess1 a _ hm ?_
          exact ⟨_, (hF18.trans hF21), hx31.pick [0, 1] (by decide) rfl, ha.cut (l := [8, 9, 10, 11, 12, 13, 15]) rfl⟩
        ·clear hm
         rcases a0g hb5 with ⟨hb7, hb5⟩ | ⟨hb7, hb5⟩
         ·refine b6e 114 rfl hb7 ?_
          refine a3v rfl rfl rfl (a3v rfl rfl rfl (a3v rfl rfl rfl (a3v rfl rfl rfl (a3v rfl rfl rfl (a3v rfl rfl rfl (a3v rfl rfl rfl (a3v rfl rfl rfl (a3v rfl rfl rfl (a3v rfl rfl rfl (a3v rfl rfl rfl (a3v rfl rfl rfl (a3v rfl rfl rfl (a3v rfl rfl rfl (a3v rfl rfl rfl (a3v rfl rfl rfl (a3v rfl rfl rfl (a3v rfl rfl rfl (a3v rfl rfl rfl (a3v rfl rfl rfl (a3v rfl rfl rfl (a3v rfl rfl rfl ?_)))))))))))))))))))))
          refine a1h rfl rfl rfl rfl (fun _ _ _ _ => a0q rfl rfl rfl rfl (a0c (qq rfl))) ?_
          refine b6j (fun a ha => ?_)
          cases hb5
          exact ha.cut (l := [8, 9, 10, 11, 12, 13, 15, 16, 137]) rfl
         ·refine b6e 114 rfl hb7 ?_
          refine a1h rfl rfl rfl rfl (fun _ _ _ _ => a0e rfl rfl rfl (a0c (qq rfl))) ?_
          refine a1h rfl rfl rfl rfl (fun _ _ _ _ => a0u rfl rfl rfl rfl rfl (a0c (qq rfl))) ?_
          refine a1h rfl rfl rfl rfl (fun _ _ _ _ => a0e rfl rfl rfl (a0c (qq rfl))) ?_
          obtain ⟨v12, hb8, hb5⟩ := bind_some hb5
          refine c4i 19 (fun a => Has 170 a [(8, .int .i64 shift2), (9, .slice as11 ns11 cs11), (10, .slice as8 ns8 cs8), (11, .int .i64 (v6.length : Int)), (12, .slice as10 ns10 cs10), (13, .int .i64 i1), (15, .int .i64 guess1), (16, .int .i64 rest1), (114, .bool false), (136, .bool v12)]) ?_ ?_
          ·intro a hax11
           refine b3j hax11 ?_
           refine a1h rfl rfl rfl rfl (fun _ _ _ _ => a0m rfl rfl rfl rfl (a0c (qq rfl))) ?_
           refine b6j (fun a ha => ?_)
           cases hb5
           exact ha.cut (l := [8, 9, 10, 11, 12, 13, 15, 16, 137]) rfl
          ·clear hb5
           rcases a0g hb8 with ⟨hb9, hb8⟩ | ⟨hb9, hb8⟩
           ·refine b6e 117 rfl hb9 ?_
            refine a1h rfl rfl rfl rfl (fun _ _ _ _ => a0e rfl rfl rfl (a0c (qq rfl))) ?_
            refine a1h rfl rfl rfl rfl (fun _ _ _ _ => a0e rfl rfl rfl (a0c (qq rfl))) ?_
            refine a1h rfl rfl rfl rfl (fun _ _ _ _ => a0e rfl rfl rfl (a0c (qq rfl))) ?_
            refine a1h rfl rfl rfl rfl (fun _ _ _ _ => a0u rfl rfl rfl rfl rfl (a0c (qq rfl))) ?_
            obtain ⟨ex8, he8, hb8⟩ := bind_some hb8
            obtain ⟨b14, o8, cs8, hf5, hr15, hrun5⟩ := a2s (P := Tryz.prog) (r := (Rp.int .i64)) u28 sz3 ((((hsx4.mono hF11).mono hF16).mono hF17).mono hF18) he8
            have hc9 : cs8 = [.int .i64 ex8] := hr15
            subst hc9
            refine a3i rfl rfl rfl rfl hrun5 ?_
            refine a1h rfl rfl rfl rfl (fun _ _ hleq hq => a2h (j := 0) ag3 rfl rfl hq (hf5.mono hleq) rfl rfl (a0c (qq rfl))) ?_
            refine a1h rfl rfl rfl rfl (fun _ _ _ _ => a0u rfl rfl rfl rfl rfl (a0c (qq rfl))) ?_
            refine a1h rfl rfl rfl rfl (fun _ _ _ _ => a0e rfl rfl rfl (a0c (qq rfl))) ?_
            obtain ⟨q4, hq4, hb8⟩ := bind_some hb8
            refine a1h rfl rfl rfl rfl (fun _ _ _ _ => c7x rfl rfl rfl rfl hq4 (a0c (qq rfl))) ?_
            refine a1h rfl rfl rfl rfl (fun _ _ _ _ => a0e rfl rfl rfl (a0c (qq rfl))) ?_
            refine a1h rfl rfl rfl rfl (fun _ _ _ _ => a0e rfl rfl rfl (a0c (qq rfl))) ?_
            refine a1h rfl rfl rfl rfl (fun _ _ _ _ => a0e rfl rfl rfl (a0c (qq rfl))) ?_
            refine a1h rfl rfl rfl rfl (fun _ _ _ _ => a0u rfl rfl rfl rfl rfl (a0c (qq rfl))) ?_
            refine a1h rfl rfl rfl rfl (fun _ _ _ _ => a0u rfl rfl rfl rfl rfl (a0c (qq rfl))) ?_
            obtain ⟨ex9, he9, hb8⟩ := bind_some hb8
            obtain ⟨b15, o9, cs9, hax12, ho4, hr16, hp4, hrun6⟩ := a3y (P := Tryz.prog) (r := (Rp.int .i64)) u28 sz3 hx27 (p := 1) rfl rfl (((hs11.mono hF16).mono hF17).mono hF18) he9
            have hc10 : cs9 = [.int .i64 ex9] := hr16
            subst hc10
            refine a3i rfl rfl rfl rfl hrun6 ?_
            refine a1h rfl rfl rfl rfl (fun _ _ _ hq => a4s (j := 0) ag3 rfl rfl hq rfl (p := 1) rfl rfl hax12 ho4 hp4 rfl (a0c (qq rfl))) ?_
            refine a1h rfl rfl rfl rfl (fun _ _ _ _ => a0u rfl rfl rfl rfl rfl (a0c (qq rfl))) ?_
            refine a1h rfl rfl rfl rfl (fun _ _ _ _ => a0u rfl rfl rfl rfl rfl (a0c (qq rfl))) ?_
            refine a1h rfl rfl rfl rfl (fun _ _ _ _ => a0q rfl rfl rfl rfl (a0c (qq rfl))) ?_
            refine b6j (fun a ha => ?_)
            cases hb8
            exact ha.cut (l := [8, 9, 10, 11, 12, 13, 15, 16, 114, 136]) rfl
           ·refine b6e 117 rfl hb9 ?_
            refine a3v rfl rfl rfl (a3v rfl rfl rfl (a3v rfl rfl rfl (a3v rfl rfl rfl (a3v rfl rfl rfl (a3v rfl rfl rfl (a3v rfl rfl rfl (a3v rfl rfl rfl (a3v rfl rfl rfl (a3v rfl rfl rfl (a3v rfl rfl rfl (a3v rfl rfl rfl (a3v rfl rfl rfl (a3v rfl rfl rfl (a3v rfl rfl rfl (a3v rfl rfl rfl (a3v rfl rfl rfl (a3v rfl rfl rfl ?_)))))))))))))))))
            refine a1h rfl rfl rfl rfl (fun _ _ _ _ => a0m rfl rfl rfl rfl (a0c (qq rfl))) ?_
            refine b6j (fun a ha => ?_)
            cases hb8
            exact ha.cut (l := [8, 9, 10, 11, 12, 13, 15, 16, 114, 136]) rfl
      ·refine a0t 80 rfl hb4 ?_
       refine a0s rfl (a3u (a0w (a0w ?_)))
       refine fun a ha => hk1 (l4, l5) a _ hm ?_
       exact ⟨_, as10, ns10, cs10, xss10, as11, ns11, cs11, xss11, hF11, hx18.pick [0, 1] (by decide) rfl, hs10, hs11, ha.cut (l := [8, 9, 12]) rfl⟩
    ·clear hm
     rcases a0g hb3 with ⟨hb10, hb3⟩ | ⟨hb10, hb3⟩
     ·refine a0t 65 rfl hb10 ?_
      refine a0y rfl (a0a (a0e rfl rfl rfl ?_))
      refine a1q (e := 3) (cs := [.int .i64 0]) (q := 1) rfl rfl hx14 rfl (fun _ => by kernel_rfl) rfl rfl ?_
      intro b16 wx26 hx32
      obtain ⟨l10, hr17, hb3⟩ := bind_some hb3
      refine a9n (r := (Rp.int .i64)) ap28 rfl rfl hx32 rfl rfl (i := 3) (j := 0) rfl rfl ((hs7.mono hF7).mono hF8) ((show RowN (Rp.int .i64) Fx8 1 [.int .i64 0] [0] from ⟨rfl, ⟨_, _, rfl, rfl, (rfl : RowR (Rp.int .i64) _ [] [])⟩⟩)) hr17 ?_
      intro as18 cs18 wx27 hx33 hs18
      refine a0b rfl rfl rfl (a0c ?_)
      refine a0n (fun a ha => ?_)
      cases hb3
      exact ⟨_, as18, ((ns6 + 1) + 1), cs18, ((xss6 ++ [.int .i64 0]) ++ [.int .i64 0]), Frz.refl _, hx33.pick [1, 2, 3] (by decide) rfl, hs18, ha.cut (l := [8, 9, 10]) rfl⟩
     ·refine a0t 65 rfl hb10 ?_
      refine a0s rfl (a1e ?_)
      refine a0n (fun a ha => ?_)
      cases hb3
      exact ⟨_, as7, (ns6 + 1), cs7, (xss6 ++ [.int .i64 0]), Frz.refl _, hx14.pick [0, 1, 2] (by decide) rfl, ((hs7.mono hF7).mono hF8), ha.cut (l := [8, 9, 10]) rfl⟩
   ·clear hm hkont3; intro hk3 mx3 K ihx3
    rintro shift1 a wx28 hm ⟨rfl, hax15⟩
    simp only [b0u] at hm
    refine a1i hax15 ?_
    refine a0f (a0f (a0a (a0e rfl rfl rfl (a0e rfl rfl rfl ?_))))
    refine a1u hs2.len u28 rfl rfl rfl ?_
    refine a0u rfl rfl rfl rfl rfl ?_
    obtain ⟨ex10, he10, hm⟩ := bind_some hm
    refine a2n (r := (Rp.int .i64)) u28 sz3 rfl rfl rfl rfl (hs2.mono hF1) he10 ?_
    intro b17 o10 cs10 hf6 hr18
    have hc11 : cs10 = [.int .i64 ex10] := hr18
    subst hc11
    refine a2h (j := 0) ag3 rfl rfl hx1 hf6 rfl rfl ?_
    refine a0e rfl rfl rfl ?_
    refine a0u rfl rfl rfl rfl rfl ?_
    refine a0u rfl rfl rfl rfl rfl ?_
    refine a0c (a0d ?_)
    rcases a0g hm with ⟨hb11, hm⟩ | ⟨hb11, hm⟩
    ·refine a0t 48 rfl hb11 ?_
     refine a0y rfl (a1e (a0d (a1g (a0a (a0e rfl rfl rfl ?_)))))
     refine a0u rfl rfl rfl rfl rfl ?_
     refine a0b rfl rfl rfl (a0c (a1m ?_))
     refine a0n (fun a ha => ihx3 (imul .i64 shift1 2) a _ hm ?_)
     exact ⟨rfl, ha.cut (l := [0, 1, 8]) rfl⟩
    ·refine a0t 48 rfl hb11 ?_
     refine a0s rfl (a3u (a0w (a0w ?_)))
     refine fun a ha => hk3 shift1 a _ hm ?_
     exact ⟨rfl, ha.cut (l := [0, 1, 8]) rfl⟩
def a4v (_n : Nat) (right1 : Bool) (c1 : Big) : Option (Big × Int) :=
 bif !right1 then
  some ((⟨0, []⟩ : Big), 1)
 else
  some (c1, 0)
set_option maxHeartbeats 1000000 in
set_option maxRecDepth 1000000 in
theorem a5g (n : Nat) (right1 : Bool) (c1 : Big) (r : (Big × Int)) (hm : a4v n right1 c1 = some r) {w : World} {F : Frz} (hs : Sat F w) {as1 : Option Addr} {ns1 : Nat} {cs1 : Nat} (hs1 : SlR (Rp.int .i64) F as1 ns1 cs1 c1.Digits) :
  Calls Tryz.prog 80 #[.bool right1, .agg #[.int .i64 c1.Sign, .slice as1 ns1 cs1]] w fun e w' => ∃ v F' O', e = .returned v ∧ HS F w [] F' O' w' ∧ (∃ (a0_1 : Option Addr) (n0_1 : Nat) (c0_1 : Nat), v = .tuple #[.agg #[.int .i64 r.1.Sign, .slice a0_1 n0_1 c0_1], .int .i64 r.2] ∧ O' = [] ∧ SlR (Rp.int .i64) F' a0_1 n0_1 c0_1 r.1.Digits) := by
 unfold a4v at hm
 have h := HS.init hs
 refine a1a 10 Tryz.func80 rfl rfl rfl ?_
 refine a0f (a0a ?_)
 refine a2t rfl rfl rfl rfl h ?_
 intro b1 wx1 hx1
 refine a1b ze35 rfl rfl rfl hx1 ?_
 intro b2 wx2 hx2
 refine a0b rfl rfl rfl (a0c (a0d (a0f (a0f (a0a (a0e rfl rfl rfl (a4g rfl rfl rfl (a0c (a0d ?_)))))))))
 rcases a0g hm with ⟨hb1, hm⟩ | ⟨hb1, hm⟩
 ·refine a0t 7 rfl hb1 ?_
  refine a0y rfl (a0f (a0a ?_))
  refine a2b (v := .agg #[.int .i64 0, .slice none 0 0]) rfl rfl rfl (fun _ => by kernel_rfl) ?_
  refine a0p sz35 rfl hx2 rfl rfl rfl rfl (i := 0) rfl rfl rfl rfl ?_
  intro wx3 hx3
  refine a0b rfl rfl rfl (a0c (a0d (a1d (a0k ?_))))
  refine a1v (vl := [.agg #[.int .i64 0, .slice none 0 0], .int .i64 1]) rfl ⟨a2p ag35 sz35 rfl hx3 rfl (i := 0) rfl, a1z rfl, trivial⟩ (by simp) ?_
  obtain rfl := Option.some.inj hm
  exact ⟨_, _, _, rfl, hx3.pick [] (by decide) rfl, none, 0, 0, rfl, rfl, SlR.nil _ _⟩
 ·refine a0t 7 rfl hb1 ?_
  refine a0s rfl (a1e (a0d (a0f (a0a ?_))))
  refine a0l ag35 sz35 rfl rfl hx2 rfl (i := 1) rfl rfl ?_
  refine a0p sz35 rfl hx2 rfl rfl rfl rfl (i := 0) rfl rfl rfl rfl ?_
  intro wx4 hx4
  refine a0b rfl rfl rfl (a0c (a0d (a1d ?_)))
  refine a1v (vl := [.agg #[.int .i64 c1.Sign, .slice as1 ns1 cs1], .int .i64 0]) rfl ⟨a2p ag35 sz35 rfl hx4 rfl (i := 0) rfl, a1z rfl, trivial⟩ (by simp) ?_
  obtain rfl := Option.some.inj hm
  exact ⟨_, _, _, rfl, hx4.pick [] (by decide) rfl, as1, ns1, cs1, rfl, rfl, hs1⟩
def a7p (n : Nat) (vals1 : (List Int)) (kont1 : Option Int) : Nat → Int → Option Int
 | 0, _ => none
 | mx1 + 1, i1 =>
  bif decide (i1 < (vals1.length : Int)) then
   (ix vals1 i1).bind fun ex1 =>
   bif ex1 != 0 then
    some ex1
   else
    a7p n vals1 kont1 mx1 (iadd .i64 i1 1)
  else
   kont1
theorem a8s (n : Nat) (vals1 : (List Int)) (kont1 : Option Int) (mx1 : Nat) (i1 : Int) : a7p n vals1 kont1 (mx1 + 1) i1 =
  bif decide (i1 < (vals1.length : Int)) then
   (ix vals1 i1).bind fun ex1 =>
   bif ex1 != 0 then
    some ex1
   else
    a7p n vals1 kont1 mx1 (iadd .i64 i1 1)
  else
   kont1 := rfl
def b1f (n : Nat) (vals1 : (List Int)) : Option Int :=
 a7p n vals1 (
  some 0) n 0
set_option maxHeartbeats 1000000 in
set_option maxRecDepth 1000000 in
theorem b9q (n : Nat) (vals1 : (List Int)) (r : Int) (hm : b1f n vals1 = some r) {w : World} {F : Frz} (hs : Sat F w) {as1 : Option Addr} {ns1 : Nat} {cs1 : Nat} (hs1 : SlR (Rp.int .i64) F as1 ns1 cs1 vals1) :
  Calls Tryz.prog 94 #[.slice as1 ns1 cs1] w fun e w' => e = .returned (.int .i64 r) ∧ w' = w := by
 unfold b1f at hm
 have h := HS.init hs
 refine a1a 18 Tryz.func94 rfl rfl rfl ?_
 refine a0f (a0a (a0b rfl rfl rfl (a0c (a0d (a0f (a0a (a0b rfl rfl rfl (a0c (a0d (a0f (a0f (a0a (a0e rfl rfl rfl ?_)))))))))))))
 refine a1u hs1.len u28 rfl rfl rfl ?_
 refine a0e rfl rfl rfl (a0c (a0d (a1g ?_)))
 intro a hax3
 obtain ⟨kont1, hkont1⟩ : ∃ kont1 : Option Int, kont1 = (
       some 0) := ⟨_, rfl⟩
 replace hm : (fun m (s : Int) => a7p n vals1 kont1 m s) n 0 = some r := by rw [hkont1]; exact hm
 refine a5w (id := 0) (fun m (s : Int) => a7p n vals1 kont1 m s) (fun (y : Unit) => kont1) r (fun (s : Int) a w' => w = w' ∧ Has 18 a [(3, .int .i64 0), (6, .slice as1 ns1 cs1), (7, .int .i64 (vals1.length : Int)), (8, .int .i64 s)]) (fun (y : Unit) a w' => w = w' ∧ Has 18 a [(3, .int .i64 0)]) (fun _ => rfl) ?_ ?_ hm ⟨rfl, hax3.cut (l := [3, 6, 7, 8]) rfl⟩
 ·clear hm; rintro _u a wx1 hm ⟨rfl, hax1⟩
  rw [hkont1] at hm
  refine a2f (e := .exit 0) hax1 ?_
  refine a1k (a0d (a0f (a0a (a0e rfl rfl rfl (a0b rfl rfl rfl (a0c (a0d (a1d ?_))))))))
  refine a1l rfl rfl ?_
  obtain rfl := Option.some.inj hm
  exact ⟨rfl, rfl⟩
 ·clear hm hkont1; intro hk1 mx1 K ihx1
  rintro i1 a wx2 hm ⟨rfl, hax2⟩
  simp only [a8s] at hm
  refine a1i hax2 ?_
  refine a0f (a0a ?_)
  refine a0u rfl rfl rfl rfl rfl ?_
  refine a0c (a0d (a0f ?_))
  rcases a0g hm with ⟨hb1, hm⟩ | ⟨hb1, hm⟩
  ·refine a0t 9 rfl hb1 ?_
   refine a0y rfl (a1e (a0d (a0f (a1g (a0f (a0a ?_))))))
   obtain ⟨ex1, he1, hm⟩ := bind_some hm
   refine a2n (r := (Rp.int .i64)) u28 sz3 rfl rfl rfl rfl hs1 he1 ?_
   intro b1 o1 cs1 hf1 hr1
   have hc1 : cs1 = [.int .i64 ex1] := hr1
   subst hc1
   refine a2h (j := 0) ag3 rfl rfl h hf1 rfl rfl ?_
   refine a0b rfl rfl rfl (a0c (a0d (a0f (a0a (a0e rfl rfl rfl (a0e rfl rfl rfl ?_))))))
   refine a0u rfl rfl rfl rfl rfl ?_
   refine a0c (a0d ?_)
   rcases a0g hm with ⟨hb2, hm⟩ | ⟨hb2, hm⟩
   ·refine a0t 14 rfl hb2 ?_
    refine a0y rfl (a0f (a0a (a0e rfl rfl rfl (a0b rfl rfl rfl (a0c (a0d (a1d (a0x (a0k (a0k (a0x (a0k ?_))))))))))))
    refine a1l rfl rfl ?_
    obtain rfl := Option.some.inj hm
    exact ⟨rfl, rfl⟩
   ·refine a0t 14 rfl hb2 ?_
    refine a0s rfl (a1e (a1m (a0d (a0a ?_))))
    refine a0u rfl rfl rfl rfl rfl ?_
    refine a0e rfl rfl rfl (a0c ?_)
    refine a0n (fun a ha => ihx1 (iadd .i64 i1 1) a _ hm ?_)
    exact ⟨rfl, ha.cut (l := [3, 6, 7, 8]) rfl⟩
  ·refine a0t 9 rfl hb1 ?_
   refine a0s rfl (a3u (a0w (a0w ?_)))
   refine fun a ha => hk1 () a _ hm ?_
   exact ⟨rfl, ha.cut (l := [3]) rfl⟩
theorem ent80 : Ent Tryz.prog 80 := fun _ _ => by kernel_rfl
theorem ent94 : Ent Tryz.prog 94 := fun _ _ => by kernel_rfl
theorem ent95 : Ent Tryz.prog 95 := fun _ _ => by kernel_rfl
theorem ent96 : Ent Tryz.prog 96 := fun _ _ => by kernel_rfl
def b7r (n : Nat) (ax1 : Big) (b1 : Big) : Option (Big × Int) :=
 (a3p n ax1).bind fun v1 =>
 (bif !v1 then
  some true
 else
  (a3p n b1).bind fun v15 =>
  some (!v15)).bind fun v2 =>
 bif v2 then
  (a4v n false (⟨0, []⟩ : Big)).bind fun v3 =>
  some (v3.1, v3.2)
 else
  bif decide (0 ≤ (imul .i64 ax1.Sign b1.Sign)) then
   (b1f n [ax1.Sign, b1.Sign]).bind fun v4 =>
   (b4i n ax1.Digits b1.Digits).bind fun v5 =>
   (a3k n v4 v5).bind fun v6 =>
   (a4v n true v6).bind fun v7 =>
   some (v7.1, v7.2)
  else
   (a7e n ax1.Digits b1.Digits).bind fun v8 =>
   bif decide (v8 < 0) then
    (b2u n b1.Digits ax1.Digits).bind fun v9 =>
    (a3k n b1.Sign v9).bind fun v10 =>
    (a4v n true v10).bind fun v11 =>
    some (v11.1, v11.2)
   else
    (b2u n ax1.Digits b1.Digits).bind fun v12 =>
    (a3k n ax1.Sign v12).bind fun v13 =>
    (a4v n true v13).bind fun v14 =>
    some (v14.1, v14.2)
set_option maxHeartbeats 1000000 in
set_option maxRecDepth 1000000 in
theorem b3k (n : Nat) (ax1 : Big) (b1 : Big) (r : (Big × Int)) (hm : b7r n ax1 b1 = some r) {w : World} {F : Frz} (hs : Sat F w) {as1 : Option Addr} {ns1 : Nat} {cs1 : Nat} {as2 : Option Addr} {ns2 : Nat} {cs2 : Nat} (hs1 : SlR (Rp.int .i64) F as1 ns1 cs1 ax1.Digits) (hs2 : SlR (Rp.int .i64) F as2 ns2 cs2 b1.Digits) :
  Calls Tryz.prog 54 #[.agg #[.int .i64 ax1.Sign, .slice as1 ns1 cs1], .agg #[.int .i64 b1.Sign, .slice as2 ns2 cs2]] w fun e w' => ∃ v F' O', e = .returned v ∧ HS F w [] F' O' w' ∧ (∃ (a0_1 : Option Addr) (n0_1 : Nat) (c0_1 : Nat), v = .tuple #[.agg #[.int .i64 r.1.Sign, .slice a0_1 n0_1 c0_1], .int .i64 r.2] ∧ O' = [] ∧ SlR (Rp.int .i64) F' a0_1 n0_1 c0_1 r.1.Digits) := by
 unfold b7r at hm
 have h := HS.init hs
 refine a1a 69 Tryz.func54 rfl rfl rfl ?_
 refine a0f (a0a ?_)
 refine a2t rfl rfl rfl rfl h ?_
 intro b2 wx1 hx1
 refine a2t rfl rfl rfl rfl hx1 ?_
 intro b3 wx2 hx2
 refine a1b ze35 rfl rfl rfl hx2 ?_
 intro b4 wx3 hx3
 refine a0b rfl rfl rfl (a0c (a0d (a0f (a0f (a0a ?_)))))
 refine a0l ag35 sz35 rfl rfl hx3 rfl (i := 2) rfl rfl ?_
 obtain ⟨v1, hv1, hm⟩ := bind_some hm
 refine a0i ent44 rfl rfl rfl rfl hx3 (a3f _ _ _ hv1 hx3.sat hs1) ?_
 rintro _ Fx1 _ wx4 hF1 hx4 ⟨rfl, rfl⟩
 refine a4g rfl rfl rfl (a0e rfl rfl rfl ?_)
 obtain ⟨v2, hb1, hm⟩ := bind_some hm
 refine a2r 4 (fun a w' => ∃ (Fx2 : Frz), Frz.le Fx1 Fx2 ∧ HS F w [] Fx2 [.box b4 35 [.int .i64 0, .slice none 0 0], .box b3 35 [.int .i64 b1.Sign, .slice as2 ns2 cs2], .box b2 35 [.int .i64 ax1.Sign, .slice as1 ns1 cs1]] w' ∧ Has 69 a [(2, .pointer (some ⟨b2, 0, none⟩)), (3, .pointer (some ⟨b3, 0, none⟩)), (4, .pointer (some ⟨b4, 0, none⟩)), (13, .bool v2)]) ?_ ?_
 ·rintro a wx5 ⟨Fx2, hF2, hx5, hax1⟩
  refine a1f hax1 ?_
  refine a0c (a0d ?_)
  rcases a0g hm with ⟨hb2, hm⟩ | ⟨hb2, hm⟩
  ·refine a0t 13 rfl hb2 ?_
   refine a0y rfl (a0f (a0a ?_))
   refine a2b (v := .agg #[.int .i64 0, .slice none 0 0]) rfl rfl rfl (fun _ => by kernel_rfl) ?_
   obtain ⟨v3, hv2, hm⟩ := bind_some hm
   refine a0i ent80 rfl rfl rfl rfl hx5 (a5g _ _ _ _ hv2 hx5.sat (SlR.nil _ _)) ?_
   rintro _ Fx3 _ wx6 hF3 hx6 ⟨as3, ns3, cs3, rfl, rfl, hs3⟩
   refine a0j rfl rfl rfl rfl (a0j rfl rfl rfl rfl ?_)
   refine a0p sz35 rfl hx6 rfl rfl rfl rfl (i := 0) rfl rfl rfl rfl ?_
   intro wx7 hx7
   refine a0b rfl rfl rfl (a0c (a0d (a1d (a0k ?_))))
   refine a1v (vl := [.agg #[.int .i64 v3.1.Sign, .slice as3 ns3 cs3], .int .i64 v3.2]) rfl ⟨a2p ag35 sz35 rfl hx7 rfl (i := 0) rfl, a1z rfl, trivial⟩ (by simp) ?_
   obtain rfl := Option.some.inj hm
   exact ⟨_, _, _, rfl, hx7.pick [] (by decide) rfl, as3, ns3, cs3, rfl, rfl, hs3⟩
  ·refine a0t 13 rfl hb2 ?_
   refine a0s rfl (a1e (a0d (a0f (a1g (a0f (a0a ?_))))))
   refine a0h fa35_0 rfl rfl rfl ?_
   refine a0r ag3 rfl rfl hx5 rfl (i := 2) rfl rfl ?_
   refine a0h fa35_0 rfl rfl rfl ?_
   refine a0r ag3 rfl rfl hx5 rfl (i := 1) rfl rfl ?_
   refine a0u rfl rfl rfl rfl rfl ?_
   refine a0u rfl rfl rfl rfl rfl ?_
   refine a0b rfl rfl rfl (a0c (a0d ?_))
   rcases a0g hm with ⟨hb3, hm⟩ | ⟨hb3, hm⟩
   ·refine a0t 18 rfl hb3 ?_
    refine a0y rfl (a0f ?_)
    refine a1w (SH Fx2 [.box b3 35 [.int .i64 b1.Sign, .slice as2 ns2 cs2], .box b2 35 [.int .i64 ax1.Sign, .slice as1 ns1 cs1]]) 17 rfl (by kernel_rfl) hx5 ?_
    intro wx8 hx8
    refine d_tk 0 rfl (by kernel_rfl) rfl rfl rfl rfl (hx8.sh (Frz.refl _) [1, 2] (by decide) rfl) (fun _ _ _ _ _ => a0h fa35_0 rfl rfl rfl (a0c (qq rfl))) ?_
    refine d_tk 1 rfl (by kernel_rfl) rfl rfl rfl rfl (hx8.sh (Frz.refl _) [1, 2] (by decide) rfl) (fun _ _ _ _ hq => a0r ag3 rfl rfl hq rfl (i := 1) rfl rfl (a0c (qq rfl))) ?_
    refine d_tk 2 rfl (by kernel_rfl) rfl rfl rfl rfl (hx8.sh (Frz.refl _) [1, 2] (by decide) rfl) (fun _ _ _ _ _ => a0h fa35_0 rfl rfl rfl (a0c (qq rfl))) ?_
    refine d_tk 3 rfl (by kernel_rfl) rfl rfl rfl rfl (hx8.sh (Frz.refl _) [1, 2] (by decide) rfl) (fun _ _ _ _ hq => a0r ag3 rfl rfl hq rfl (i := 0) rfl rfl (a0c (qq rfl))) ?_
    refine d_tk 6 rfl (by kernel_rfl) rfl rfl rfl rfl (hx8.sh (Frz.refl _) [1, 2] (by decide) rfl) (fun _ _ _ _ _ => a0h fa35_1 rfl rfl rfl (a0c (qq rfl))) ?_
    refine d_tk 7 rfl (by kernel_rfl) rfl rfl rfl rfl (hx8.sh (Frz.refl _) [1, 2] (by decide) rfl) (fun _ _ _ _ hq => a0r ag28 rfl rfl hq rfl (i := 1) rfl rfl (a0c (qq rfl))) ?_
    refine d_tk 8 rfl (by kernel_rfl) rfl rfl rfl rfl (hx8.sh (Frz.refl _) [1, 2] (by decide) rfl) (fun _ _ _ _ _ => a0h fa35_1 rfl rfl rfl (a0c (qq rfl))) ?_
    refine d_tk 9 rfl (by kernel_rfl) rfl rfl rfl rfl (hx8.sh (Frz.refl _) [1, 2] (by decide) rfl) (fun _ _ _ _ hq => a0r ag28 rfl rfl hq rfl (i := 0) rfl rfl (a0c (qq rfl))) ?_
    refine a0v 4 rfl (by kernel_rfl) ?_
    refine a1q (e := 3) (cs := [.int .i64 ax1.Sign, .int .i64 b1.Sign]) (q := 1) rfl rfl hx8 rfl (fun _ => by kernel_rfl) rfl rfl ?_
    intro b5 wx9 hx9
    refine a0o (hx9.sh (Frz.refl _) [2, 3] (by decide) rfl) ?_
    refine a0v 5 rfl (by kernel_rfl) ?_
    obtain ⟨v4, hv3, hm⟩ := bind_some hm
    refine a3m ent94 rfl rfl rfl rfl (b9q _ _ _ hv3 (b0a _) (hx9.viewRow (p := 0) rfl rfl ((show RowN (Rp.int .i64) Fx2 2 [.int .i64 ax1.Sign, .int .i64 b1.Sign] [ax1.Sign, b1.Sign] from ⟨rfl, ⟨_, _, rfl, rfl, ⟨_, _, rfl, rfl, (rfl : RowR (Rp.int .i64) _ [] [])⟩⟩⟩)))) ?_
    refine a0o (hx9.sh (Frz.refl _) [2, 3] (by decide) rfl) ?_
    refine a0v 10 rfl (by kernel_rfl) ?_
    obtain ⟨v5, hv4, hm⟩ := bind_some hm
    refine a0i ent95 rfl rfl rfl rfl hx9 (b8x _ _ _ _ hv4 hx9.sat ((hs1.mono hF1).mono hF2) ((hs2.mono hF1).mono hF2)) ?_
    rintro _ Fx4 _ wx10 hF4 hx10 ⟨as4, ns4, cs4, xss4, rfl, rfl, hs4⟩
    refine a0o (hx10.sh hF4 [3, 4] (by decide) rfl) ?_
    refine a0v 11 rfl (by kernel_rfl) ?_
    obtain ⟨Fx5, hF5, hx11, hsx1⟩ := a1c hx10 (i := 0) rfl hs4
    obtain ⟨v6, hv5, hm⟩ := bind_some hm
    refine a0i ent82 rfl rfl rfl rfl hx11 (a4a _ _ _ _ hv5 hx11.sat hsx1) ?_
    rintro _ Fx6 _ wx11 hF6 hx12 ⟨as5, ns5, cs5, rfl, rfl, hs5⟩
    refine a0o (hx12.sh ((hF4.trans hF5).trans hF6) [2, 3] (by decide) rfl) ?_
    refine a0v 12 rfl (by kernel_rfl) ?_
    obtain ⟨v7, hv6, hm⟩ := bind_some hm
    refine a0i ent80 rfl rfl rfl rfl hx12 (a5g _ _ _ _ hv6 hx12.sat hs5) ?_
    rintro _ Fx7 _ wx12 hF7 hx13 ⟨as6, ns6, cs6, rfl, rfl, hs6⟩
    refine a0o (hx13.sh (((hF4.trans hF5).trans hF6).trans hF7) [2, 3] (by decide) rfl) ?_
    refine d_tk 13 rfl (by kernel_rfl) rfl rfl rfl rfl (hx13.sh (((hF4.trans hF5).trans hF6).trans hF7) [2, 3] (by decide) rfl) (fun _ _ _ _ _ => a0j rfl rfl rfl rfl (a0c (qq rfl))) ?_
    refine d_tk 14 rfl (by kernel_rfl) rfl rfl rfl rfl (hx13.sh (((hF4.trans hF5).trans hF6).trans hF7) [2, 3] (by decide) rfl) (fun _ _ _ _ _ => a0j rfl rfl rfl rfl (a0c (qq rfl))) ?_
    refine a0v 15 rfl (by kernel_rfl) ?_
    refine a0p sz35 rfl hx13 rfl rfl rfl rfl (i := 1) rfl rfl rfl rfl ?_
    intro wx13 hx14
    refine a0o (hx14.sh (((hF4.trans hF5).trans hF6).trans hF7) [2, 3] (by decide) rfl) ?_
    refine d_tk 16 rfl (by kernel_rfl) rfl rfl rfl rfl (hx14.sh (((hF4.trans hF5).trans hF6).trans hF7) [2, 3] (by decide) rfl) (fun _ _ _ _ _ => a0b rfl rfl rfl (a0c (qq rfl))) ?_
    refine a2g (by kernel_rfl) ?_
    refine a0d (a1d (a0x (a0k ?_)))
    refine a1v (vl := [.agg #[.int .i64 v7.1.Sign, .slice as6 ns6 cs6], .int .i64 v7.2]) rfl ⟨a2p ag35 sz35 rfl hx14 rfl (i := 1) rfl, a1z rfl, trivial⟩ (by simp) ?_
    obtain rfl := Option.some.inj hm
    exact ⟨_, _, _, rfl, hx14.pick [] (by decide) rfl, as6, ns6, cs6, rfl, rfl, hs6⟩
   ·refine a0t 18 rfl hb3 ?_
    refine a0s rfl (a0f (a0a ?_))
    refine a0h fa35_1 rfl rfl rfl ?_
    refine a0r ag28 rfl rfl hx5 rfl (i := 2) rfl rfl ?_
    refine a0h fa35_1 rfl rfl rfl ?_
    refine a0r ag28 rfl rfl hx5 rfl (i := 1) rfl rfl ?_
    obtain ⟨v8, hv7, hm⟩ := bind_some hm
    refine a0i ent85 rfl rfl rfl rfl hx5 (b1d _ _ _ _ hv7 hx5.sat ((hs1.mono hF1).mono hF2) ((hs2.mono hF1).mono hF2)) ?_
    rintro _ Fx8 _ wx14 hF8 hx15 ⟨rfl, rfl⟩
    refine a0u rfl rfl rfl rfl rfl ?_
    refine a0b rfl rfl rfl (a0c (a0d ?_))
    rcases a0g hm with ⟨hb4, hm⟩ | ⟨hb4, hm⟩
    ·refine a0t 40 rfl hb4 ?_
     refine a0y rfl (a0f ?_)
     refine a1w (SH Fx8 [.box b3 35 [.int .i64 b1.Sign, .slice as2 ns2 cs2], .box b2 35 [.int .i64 ax1.Sign, .slice as1 ns1 cs1]]) 13 rfl (by kernel_rfl) hx15 ?_
     intro wx15 hx16
     refine d_tk 0 rfl (by kernel_rfl) rfl rfl rfl rfl (hx16.sh (Frz.refl _) [1, 2] (by decide) rfl) (fun _ _ _ _ _ => a0h fa35_0 rfl rfl rfl (a0c (qq rfl))) ?_
     refine d_tk 1 rfl (by kernel_rfl) rfl rfl rfl rfl (hx16.sh (Frz.refl _) [1, 2] (by decide) rfl) (fun _ _ _ _ hq => a0r ag3 rfl rfl hq rfl (i := 0) rfl rfl (a0c (qq rfl))) ?_
     refine d_tk 2 rfl (by kernel_rfl) rfl rfl rfl rfl (hx16.sh (Frz.refl _) [1, 2] (by decide) rfl) (fun _ _ _ _ _ => a0h fa35_1 rfl rfl rfl (a0c (qq rfl))) ?_
     refine d_tk 3 rfl (by kernel_rfl) rfl rfl rfl rfl (hx16.sh (Frz.refl _) [1, 2] (by decide) rfl) (fun _ _ _ _ hq => a0r ag28 rfl rfl hq rfl (i := 0) rfl rfl (a0c (qq rfl))) ?_
     refine d_tk 4 rfl (by kernel_rfl) rfl rfl rfl rfl (hx16.sh (Frz.refl _) [1, 2] (by decide) rfl) (fun _ _ _ _ _ => a0h fa35_1 rfl rfl rfl (a0c (qq rfl))) ?_
     refine d_tk 5 rfl (by kernel_rfl) rfl rfl rfl rfl (hx16.sh (Frz.refl _) [1, 2] (by decide) rfl) (fun _ _ _ _ hq => a0r ag28 rfl rfl hq rfl (i := 1) rfl rfl (a0c (qq rfl))) ?_
     refine a0v 6 rfl (by kernel_rfl) ?_
     obtain ⟨v9, hv8, hm⟩ := bind_some hm
     refine a0i ent96 rfl rfl rfl rfl hx16 (b5n _ _ _ _ hv8 hx16.sat (((hs2.mono hF1).mono hF2).mono hF8) (((hs1.mono hF1).mono hF2).mono hF8)) ?_
     rintro _ Fx9 _ wx16 hF9 hx17 ⟨as7, ns7, cs7, xss7, rfl, rfl, hs7⟩
     refine a0o (hx17.sh hF9 [2, 3] (by decide) rfl) ?_
     refine a0v 7 rfl (by kernel_rfl) ?_
     obtain ⟨Fx10, hF10, hx18, hsx2⟩ := a1c hx17 (i := 0) rfl hs7
     obtain ⟨v10, hv9, hm⟩ := bind_some hm
     refine a0i ent82 rfl rfl rfl rfl hx18 (a4a _ _ _ _ hv9 hx18.sat hsx2) ?_
     rintro _ Fx11 _ wx17 hF11 hx19 ⟨as8, ns8, cs8, rfl, rfl, hs8⟩
     refine a0o (hx19.sh ((hF9.trans hF10).trans hF11) [1, 2] (by decide) rfl) ?_
     refine a0v 8 rfl (by kernel_rfl) ?_
     obtain ⟨v11, hv10, hm⟩ := bind_some hm
     refine a0i ent80 rfl rfl rfl rfl hx19 (a5g _ _ _ _ hv10 hx19.sat hs8) ?_
     rintro _ Fx12 _ wx18 hF12 hx20 ⟨as9, ns9, cs9, rfl, rfl, hs9⟩
     refine a0o (hx20.sh (((hF9.trans hF10).trans hF11).trans hF12) [1, 2] (by decide) rfl) ?_
     refine d_tk 9 rfl (by kernel_rfl) rfl rfl rfl rfl (hx20.sh (((hF9.trans hF10).trans hF11).trans hF12) [1, 2] (by decide) rfl) (fun _ _ _ _ _ => a0j rfl rfl rfl rfl (a0c (qq rfl))) ?_
     refine d_tk 10 rfl (by kernel_rfl) rfl rfl rfl rfl (hx20.sh (((hF9.trans hF10).trans hF11).trans hF12) [1, 2] (by decide) rfl) (fun _ _ _ _ _ => a0j rfl rfl rfl rfl (a0c (qq rfl))) ?_
     refine a0v 11 rfl (by kernel_rfl) ?_
     refine a0p sz35 rfl hx20 rfl rfl rfl rfl (i := 0) rfl rfl rfl rfl ?_
     intro wx19 hx21
     refine a0o (hx21.sh (((hF9.trans hF10).trans hF11).trans hF12) [1, 2] (by decide) rfl) ?_
     refine d_tk 12 rfl (by kernel_rfl) rfl rfl rfl rfl (hx21.sh (((hF9.trans hF10).trans hF11).trans hF12) [1, 2] (by decide) rfl) (fun _ _ _ _ _ => a0b rfl rfl rfl (a0c (qq rfl))) ?_
     refine a2g (by kernel_rfl) ?_
     refine a0d (a1d (a0x (a0k ?_)))
     refine a1v (vl := [.agg #[.int .i64 v11.1.Sign, .slice as9 ns9 cs9], .int .i64 v11.2]) rfl ⟨a2p ag35 sz35 rfl hx21 rfl (i := 0) rfl, a1z rfl, trivial⟩ (by simp) ?_
     obtain rfl := Option.some.inj hm
     exact ⟨_, _, _, rfl, hx21.pick [] (by decide) rfl, as9, ns9, cs9, rfl, rfl, hs9⟩
    ·refine a0t 40 rfl hb4 ?_
     refine a0s rfl (a1e (a1m (a0d (a0f ?_))))
     refine a1w (SH Fx8 [.box b3 35 [.int .i64 b1.Sign, .slice as2 ns2 cs2], .box b2 35 [.int .i64 ax1.Sign, .slice as1 ns1 cs1]]) 13 rfl (by kernel_rfl) hx15 ?_
     intro wx20 hx22
     refine d_tk 0 rfl (by kernel_rfl) rfl rfl rfl rfl (hx22.sh (Frz.refl _) [1, 2] (by decide) rfl) (fun _ _ _ _ _ => a0h fa35_0 rfl rfl rfl (a0c (qq rfl))) ?_
     refine d_tk 1 rfl (by kernel_rfl) rfl rfl rfl rfl (hx22.sh (Frz.refl _) [1, 2] (by decide) rfl) (fun _ _ _ _ hq => a0r ag3 rfl rfl hq rfl (i := 1) rfl rfl (a0c (qq rfl))) ?_
     refine d_tk 2 rfl (by kernel_rfl) rfl rfl rfl rfl (hx22.sh (Frz.refl _) [1, 2] (by decide) rfl) (fun _ _ _ _ _ => a0h fa35_1 rfl rfl rfl (a0c (qq rfl))) ?_
     refine d_tk 3 rfl (by kernel_rfl) rfl rfl rfl rfl (hx22.sh (Frz.refl _) [1, 2] (by decide) rfl) (fun _ _ _ _ hq => a0r ag28 rfl rfl hq rfl (i := 1) rfl rfl (a0c (qq rfl))) ?_
     refine d_tk 4 rfl (by kernel_rfl) rfl rfl rfl rfl (hx22.sh (Frz.refl _) [1, 2] (by decide) rfl) (fun _ _ _ _ _ => a0h fa35_1 rfl rfl rfl (a0c (qq rfl))) ?_
     refine d_tk 5 rfl (by kernel_rfl) rfl rfl rfl rfl (hx22.sh (Frz.refl _) [1, 2] (by decide) rfl) (fun _ _ _ _ hq => a0r ag28 rfl rfl hq rfl (i := 0) rfl rfl (a0c (qq rfl))) ?_
     refine a0v 6 rfl (by kernel_rfl) ?_
     obtain ⟨v12, hv11, hm⟩ := bind_some hm
     refine a0i ent96 rfl rfl rfl rfl hx22 (b5n _ _ _ _ hv11 hx22.sat (((hs1.mono hF1).mono hF2).mono hF8) (((hs2.mono hF1).mono hF2).mono hF8)) ?_
     rintro _ Fx13 _ wx21 hF13 hx23 ⟨as10, ns10, cs10, xss10, rfl, rfl, hs10⟩
     refine a0o (hx23.sh hF13 [2, 3] (by decide) rfl) ?_
     refine a0v 7 rfl (by kernel_rfl) ?_
     obtain ⟨Fx14, hF14, hx24, hsx3⟩ := a1c hx23 (i := 0) rfl hs10
     obtain ⟨v13, hv12, hm⟩ := bind_some hm
     refine a0i ent82 rfl rfl rfl rfl hx24 (a4a _ _ _ _ hv12 hx24.sat hsx3) ?_
     rintro _ Fx15 _ wx22 hF15 hx25 ⟨as11, ns11, cs11, rfl, rfl, hs11⟩
     refine a0o (hx25.sh ((hF13.trans hF14).trans hF15) [1, 2] (by decide) rfl) ?_
     refine a0v 8 rfl (by kernel_rfl) ?_
     obtain ⟨v14, hv13, hm⟩ := bind_some hm
     refine a0i ent80 rfl rfl rfl rfl hx25 (a5g _ _ _ _ hv13 hx25.sat hs11) ?_
     rintro _ Fx16 _ wx23 hF16 hx26 ⟨as12, ns12, cs12, rfl, rfl, hs12⟩
     refine a0o (hx26.sh (((hF13.trans hF14).trans hF15).trans hF16) [1, 2] (by decide) rfl) ?_
     refine d_tk 9 rfl (by kernel_rfl) rfl rfl rfl rfl (hx26.sh (((hF13.trans hF14).trans hF15).trans hF16) [1, 2] (by decide) rfl) (fun _ _ _ _ _ => a0j rfl rfl rfl rfl (a0c (qq rfl))) ?_
     refine d_tk 10 rfl (by kernel_rfl) rfl rfl rfl rfl (hx26.sh (((hF13.trans hF14).trans hF15).trans hF16) [1, 2] (by decide) rfl) (fun _ _ _ _ _ => a0j rfl rfl rfl rfl (a0c (qq rfl))) ?_
     refine a0v 11 rfl (by kernel_rfl) ?_
     refine a0p sz35 rfl hx26 rfl rfl rfl rfl (i := 0) rfl rfl rfl rfl ?_
     intro wx24 hx27
     refine a0o (hx27.sh (((hF13.trans hF14).trans hF15).trans hF16) [1, 2] (by decide) rfl) ?_
     refine d_tk 12 rfl (by kernel_rfl) rfl rfl rfl rfl (hx27.sh (((hF13.trans hF14).trans hF15).trans hF16) [1, 2] (by decide) rfl) (fun _ _ _ _ _ => a0b rfl rfl rfl (a0c (qq rfl))) ?_
     refine a2g (by kernel_rfl) ?_
     refine a0d (a1d ?_)
     refine a1v (vl := [.agg #[.int .i64 v14.1.Sign, .slice as12 ns12 cs12], .int .i64 v14.2]) rfl ⟨a2p ag35 sz35 rfl hx27 rfl (i := 0) rfl, a1z rfl, trivial⟩ (by simp) ?_
     obtain rfl := Option.some.inj hm
     exact ⟨_, _, _, rfl, hx27.pick [] (by decide) rfl, as12, ns12, cs12, rfl, rfl, hs12⟩
 ·clear hm
  rcases a0g hb1 with ⟨hb5, hb1⟩ | ⟨hb5, hb1⟩
  ·refine a1j 9 rfl hb5 ?_
   refine a0z rfl (by decide) rfl (a0z rfl (by decide) rfl (a0z rfl (by decide) rfl (a0q rfl rfl rfl rfl (a0c ?_))))
   refine a0n (fun a ha => ?_)
   cases hb1
   exact ⟨_, Frz.refl _, hx4.pick [0, 1, 2] (by decide) rfl, ha.cut (l := [2, 3, 4, 13]) rfl⟩
  ·refine a1j 9 rfl hb5 ?_
   refine a0l ag35 sz35 rfl rfl hx4 rfl (i := 1) rfl rfl ?_
   obtain ⟨v15, hv14, hb1⟩ := bind_some hb1
   refine a0i ent44 rfl rfl rfl rfl hx4 (a3f _ _ _ hv14 hx4.sat (hs2.mono hF1)) ?_
   rintro _ Fx17 _ wx25 hF17 hx28 ⟨rfl, rfl⟩
   refine a4g rfl rfl rfl (a0m rfl rfl rfl rfl (a0c ?_))
   refine a0n (fun a ha => ?_)
   cases hb1
   exact ⟨_, hF17, hx28.pick [0, 1, 2] (by decide) rfl, ha.cut (l := [2, 3, 4, 13]) rfl⟩
def b7n (n : Nat) (ax1 : Big) (b1 : Big) : Option (Big × Int) :=
 (a3p n ax1).bind fun v1 =>
 (bif !v1 then
  some true
 else
  (a3p n b1).bind fun v7 =>
  some (!v7)).bind fun v2 =>
 bif v2 then
  (a4v n false (⟨0, []⟩ : Big)).bind fun v3 =>
  some (v3.1, v3.2)
 else
  (b1e n ax1.Digits b1.Digits).bind fun v4 =>
  (a3k n (imul .i64 ax1.Sign b1.Sign) v4).bind fun v5 =>
  (a4v n true v5).bind fun v6 =>
  some (v6.1, v6.2)
set_option maxHeartbeats 1000000 in
set_option maxRecDepth 1000000 in
theorem c4b (n : Nat) (ax1 : Big) (b1 : Big) (r : (Big × Int)) (hm : b7n n ax1 b1 = some r) {w : World} {F : Frz} (hs : Sat F w) {as1 : Option Addr} {ns1 : Nat} {cs1 : Nat} {as2 : Option Addr} {ns2 : Nat} {cs2 : Nat} (hs1 : SlR (Rp.int .i64) F as1 ns1 cs1 ax1.Digits) (hs2 : SlR (Rp.int .i64) F as2 ns2 cs2 b1.Digits) :
  Calls Tryz.prog 86 #[.agg #[.int .i64 ax1.Sign, .slice as1 ns1 cs1], .agg #[.int .i64 b1.Sign, .slice as2 ns2 cs2]] w fun e w' => ∃ v F' O', e = .returned v ∧ HS F w [] F' O' w' ∧ (∃ (a0_1 : Option Addr) (n0_1 : Nat) (c0_1 : Nat), v = .tuple #[.agg #[.int .i64 r.1.Sign, .slice a0_1 n0_1 c0_1], .int .i64 r.2] ∧ O' = [] ∧ SlR (Rp.int .i64) F' a0_1 n0_1 c0_1 r.1.Digits) := by
 unfold b7n at hm
 have h := HS.init hs
 refine a1a 32 Tryz.func86 rfl rfl rfl ?_
 refine a0f (a0a ?_)
 refine a2t rfl rfl rfl rfl h ?_
 intro b2 wx1 hx1
 refine a2t rfl rfl rfl rfl hx1 ?_
 intro b3 wx2 hx2
 refine a1b ze35 rfl rfl rfl hx2 ?_
 intro b4 wx3 hx3
 refine a0b rfl rfl rfl (a0c (a0d (a0f (a0f (a0a ?_)))))
 refine a0l ag35 sz35 rfl rfl hx3 rfl (i := 2) rfl rfl ?_
 obtain ⟨v1, hv1, hm⟩ := bind_some hm
 refine a0i ent44 rfl rfl rfl rfl hx3 (a3f _ _ _ hv1 hx3.sat hs1) ?_
 rintro _ Fx1 _ wx4 hF1 hx4 ⟨rfl, rfl⟩
 refine a4g rfl rfl rfl (a0e rfl rfl rfl ?_)
 obtain ⟨v2, hb1, hm⟩ := bind_some hm
 refine a2r 4 (fun a w' => ∃ (Fx2 : Frz), Frz.le Fx1 Fx2 ∧ HS F w [] Fx2 [.box b4 35 [.int .i64 0, .slice none 0 0], .box b3 35 [.int .i64 b1.Sign, .slice as2 ns2 cs2], .box b2 35 [.int .i64 ax1.Sign, .slice as1 ns1 cs1]] w' ∧ Has 32 a [(2, .pointer (some ⟨b2, 0, none⟩)), (3, .pointer (some ⟨b3, 0, none⟩)), (4, .pointer (some ⟨b4, 0, none⟩)), (13, .bool v2)]) ?_ ?_
 ·rintro a wx5 ⟨Fx2, hF2, hx5, hax1⟩
  refine a1f hax1 ?_
  refine a0c (a0d ?_)
  rcases a0g hm with ⟨hb2, hm⟩ | ⟨hb2, hm⟩
  ·refine a0t 13 rfl hb2 ?_
   refine a0y rfl (a0f (a0a ?_))
   refine a2b (v := .agg #[.int .i64 0, .slice none 0 0]) rfl rfl rfl (fun _ => by kernel_rfl) ?_
   obtain ⟨v3, hv2, hm⟩ := bind_some hm
   refine a0i ent80 rfl rfl rfl rfl hx5 (a5g _ _ _ _ hv2 hx5.sat (SlR.nil _ _)) ?_
   rintro _ Fx3 _ wx6 hF3 hx6 ⟨as3, ns3, cs3, rfl, rfl, hs3⟩
   refine a0j rfl rfl rfl rfl (a0j rfl rfl rfl rfl ?_)
   refine a0p sz35 rfl hx6 rfl rfl rfl rfl (i := 0) rfl rfl rfl rfl ?_
   intro wx7 hx7
   refine a0b rfl rfl rfl (a0c (a0d (a1d (a0k ?_))))
   refine a1v (vl := [.agg #[.int .i64 v3.1.Sign, .slice as3 ns3 cs3], .int .i64 v3.2]) rfl ⟨a2p ag35 sz35 rfl hx7 rfl (i := 0) rfl, a1z rfl, trivial⟩ (by simp) ?_
   obtain rfl := Option.some.inj hm
   exact ⟨_, _, _, rfl, hx7.pick [] (by decide) rfl, as3, ns3, cs3, rfl, rfl, hs3⟩
  ·refine a0t 13 rfl hb2 ?_
   refine a0s rfl (a1e (a0d (a0f ?_)))
   refine a1w (SH Fx2 [.box b3 35 [.int .i64 b1.Sign, .slice as2 ns2 cs2], .box b2 35 [.int .i64 ax1.Sign, .slice as1 ns1 cs1]]) 16 rfl (by kernel_rfl) hx5 ?_
   intro wx8 hx8
   refine d_tk 0 rfl (by kernel_rfl) rfl rfl rfl rfl (hx8.sh (Frz.refl _) [1, 2] (by decide) rfl) (fun _ _ _ _ _ => a0h fa35_0 rfl rfl rfl (a0c (qq rfl))) ?_
   refine d_tk 1 rfl (by kernel_rfl) rfl rfl rfl rfl (hx8.sh (Frz.refl _) [1, 2] (by decide) rfl) (fun _ _ _ _ hq => a0r ag3 rfl rfl hq rfl (i := 1) rfl rfl (a0c (qq rfl))) ?_
   refine d_tk 2 rfl (by kernel_rfl) rfl rfl rfl rfl (hx8.sh (Frz.refl _) [1, 2] (by decide) rfl) (fun _ _ _ _ _ => a0h fa35_0 rfl rfl rfl (a0c (qq rfl))) ?_
   refine d_tk 3 rfl (by kernel_rfl) rfl rfl rfl rfl (hx8.sh (Frz.refl _) [1, 2] (by decide) rfl) (fun _ _ _ _ hq => a0r ag3 rfl rfl hq rfl (i := 0) rfl rfl (a0c (qq rfl))) ?_
   refine d_tk 4 rfl (by kernel_rfl) rfl rfl rfl rfl (hx8.sh (Frz.refl _) [1, 2] (by decide) rfl) (fun _ _ _ _ _ => a0u rfl rfl rfl rfl rfl (a0c (qq rfl))) ?_
   refine d_tk 5 rfl (by kernel_rfl) rfl rfl rfl rfl (hx8.sh (Frz.refl _) [1, 2] (by decide) rfl) (fun _ _ _ _ _ => a0h fa35_1 rfl rfl rfl (a0c (qq rfl))) ?_
   refine d_tk 6 rfl (by kernel_rfl) rfl rfl rfl rfl (hx8.sh (Frz.refl _) [1, 2] (by decide) rfl) (fun _ _ _ _ hq => a0r ag28 rfl rfl hq rfl (i := 1) rfl rfl (a0c (qq rfl))) ?_
   refine d_tk 7 rfl (by kernel_rfl) rfl rfl rfl rfl (hx8.sh (Frz.refl _) [1, 2] (by decide) rfl) (fun _ _ _ _ _ => a0h fa35_1 rfl rfl rfl (a0c (qq rfl))) ?_
   refine d_tk 8 rfl (by kernel_rfl) rfl rfl rfl rfl (hx8.sh (Frz.refl _) [1, 2] (by decide) rfl) (fun _ _ _ _ hq => a0r ag28 rfl rfl hq rfl (i := 0) rfl rfl (a0c (qq rfl))) ?_
   refine a0v 9 rfl (by kernel_rfl) ?_
   obtain ⟨v4, hv3, hm⟩ := bind_some hm
   refine a0i ent122 rfl rfl rfl rfl hx8 (b5h _ _ _ _ hv3 hx8.sat ((hs1.mono hF1).mono hF2) ((hs2.mono hF1).mono hF2)) ?_
   rintro _ Fx4 _ wx9 hF4 hx9 ⟨as4, ns4, cs4, xss4, rfl, rfl, hs4⟩
   refine a0o (hx9.sh hF4 [2, 3] (by decide) rfl) ?_
   refine a0v 10 rfl (by kernel_rfl) ?_
   obtain ⟨Fx5, hF5, hx10, hsx1⟩ := a1c hx9 (i := 0) rfl hs4
   obtain ⟨v5, hv4, hm⟩ := bind_some hm
   refine a0i ent82 rfl rfl rfl rfl hx10 (a4a _ _ _ _ hv4 hx10.sat hsx1) ?_
   rintro _ Fx6 _ wx10 hF6 hx11 ⟨as5, ns5, cs5, rfl, rfl, hs5⟩
   refine a0o (hx11.sh ((hF4.trans hF5).trans hF6) [1, 2] (by decide) rfl) ?_
   refine a0v 11 rfl (by kernel_rfl) ?_
   obtain ⟨v6, hv5, hm⟩ := bind_some hm
   refine a0i ent80 rfl rfl rfl rfl hx11 (a5g _ _ _ _ hv5 hx11.sat hs5) ?_
   rintro _ Fx7 _ wx11 hF7 hx12 ⟨as6, ns6, cs6, rfl, rfl, hs6⟩
   refine a0o (hx12.sh (((hF4.trans hF5).trans hF6).trans hF7) [1, 2] (by decide) rfl) ?_
   refine d_tk 12 rfl (by kernel_rfl) rfl rfl rfl rfl (hx12.sh (((hF4.trans hF5).trans hF6).trans hF7) [1, 2] (by decide) rfl) (fun _ _ _ _ _ => a0j rfl rfl rfl rfl (a0c (qq rfl))) ?_
   refine d_tk 13 rfl (by kernel_rfl) rfl rfl rfl rfl (hx12.sh (((hF4.trans hF5).trans hF6).trans hF7) [1, 2] (by decide) rfl) (fun _ _ _ _ _ => a0j rfl rfl rfl rfl (a0c (qq rfl))) ?_
   refine a0v 14 rfl (by kernel_rfl) ?_
   refine a0p sz35 rfl hx12 rfl rfl rfl rfl (i := 0) rfl rfl rfl rfl ?_
   intro wx12 hx13
   refine a0o (hx13.sh (((hF4.trans hF5).trans hF6).trans hF7) [1, 2] (by decide) rfl) ?_
   refine d_tk 15 rfl (by kernel_rfl) rfl rfl rfl rfl (hx13.sh (((hF4.trans hF5).trans hF6).trans hF7) [1, 2] (by decide) rfl) (fun _ _ _ _ _ => a0b rfl rfl rfl (a0c (qq rfl))) ?_
   refine a2g (by kernel_rfl) ?_
   refine a0d (a1d ?_)
   refine a1v (vl := [.agg #[.int .i64 v6.1.Sign, .slice as6 ns6 cs6], .int .i64 v6.2]) rfl ⟨a2p ag35 sz35 rfl hx13 rfl (i := 0) rfl, a1z rfl, trivial⟩ (by simp) ?_
   obtain rfl := Option.some.inj hm
   exact ⟨_, _, _, rfl, hx13.pick [] (by decide) rfl, as6, ns6, cs6, rfl, rfl, hs6⟩
 ·clear hm
  rcases a0g hb1 with ⟨hb3, hb1⟩ | ⟨hb3, hb1⟩
  ·refine a1j 9 rfl hb3 ?_
   refine a0z rfl (by decide) rfl (a0z rfl (by decide) rfl (a0z rfl (by decide) rfl (a0q rfl rfl rfl rfl (a0c ?_))))
   refine a0n (fun a ha => ?_)
   cases hb1
   exact ⟨_, Frz.refl _, hx4.pick [0, 1, 2] (by decide) rfl, ha.cut (l := [2, 3, 4, 13]) rfl⟩
  ·refine a1j 9 rfl hb3 ?_
   refine a0l ag35 sz35 rfl rfl hx4 rfl (i := 1) rfl rfl ?_
   obtain ⟨v7, hv6, hb1⟩ := bind_some hb1
   refine a0i ent44 rfl rfl rfl rfl hx4 (a3f _ _ _ hv6 hx4.sat (hs2.mono hF1)) ?_
   rintro _ Fx8 _ wx13 hF8 hx14 ⟨rfl, rfl⟩
   refine a4g rfl rfl rfl (a0m rfl rfl rfl rfl (a0c ?_))
   refine a0n (fun a ha => ?_)
   cases hb1
   exact ⟨_, hF8, hx14.pick [0, 1, 2] (by decide) rfl, ha.cut (l := [2, 3, 4, 13]) rfl⟩
theorem ent81 : Ent Tryz.prog 81 := fun _ _ => by kernel_rfl
def b1c (n : Nat) (ax1 : Big) (b1 : Big) : Option (Big × Big × Int) :=
 (a3p n ax1).bind fun v1 =>
 (bif !v1 then
  some true
 else
  (a3p n b1).bind fun v11 =>
  some (!v11)).bind fun v2 =>
 bif v2 then
  some ((⟨0, []⟩ : Big), (⟨0, []⟩ : Big), 1)
 else
  bif b1.Sign == 0 then
   some ((⟨0, []⟩ : Big), (⟨0, []⟩ : Big), 14)
  else
   (b2v n ax1.Digits b1.Digits).bind fun v3 =>
   (bif decide ((imul .i64 ax1.Sign b1.Sign) < 0) then
    some (decide (0 < (v3.2.length : Int)))
   else
    some false).bind fun v4 =>
   bif v4 then
    (b4i n v3.1 [1]).bind fun v5 =>
    (a3k n (-1) v5).bind fun v6 =>
    (b2u n b1.Digits v3.2).bind fun v7 =>
    (a3k n b1.Sign v7).bind fun v8 =>
    some (v6, v8, 0)
   else
    (a3k n (imul .i64 ax1.Sign b1.Sign) v3.1).bind fun v9 =>
    (a3k n ax1.Sign v3.2).bind fun v10 =>
    some (v9, v10, 0)
set_option maxHeartbeats 1000000 in
set_option maxRecDepth 1000000 in
theorem a8k (n : Nat) (ax1 : Big) (b1 : Big) (r : (Big × Big × Int)) (hm : b1c n ax1 b1 = some r) {w : World} {F : Frz} (hs : Sat F w) {as1 : Option Addr} {ns1 : Nat} {cs1 : Nat} {as2 : Option Addr} {ns2 : Nat} {cs2 : Nat} (hs1 : SlR (Rp.int .i64) F as1 ns1 cs1 ax1.Digits) (hs2 : SlR (Rp.int .i64) F as2 ns2 cs2 b1.Digits) :
  Calls Tryz.prog 93 #[.agg #[.int .i64 ax1.Sign, .slice as1 ns1 cs1], .agg #[.int .i64 b1.Sign, .slice as2 ns2 cs2]] w fun e w' => ∃ v F' O', e = .returned v ∧ HS F w [] F' O' w' ∧ (∃ (a0_1 : Option Addr) (n0_1 : Nat) (c0_1 : Nat) (a1_1 : Option Addr) (n1_1 : Nat) (c1_1 : Nat), v = .tuple #[.agg #[.int .i64 r.1.Sign, .slice a0_1 n0_1 c0_1], .agg #[.int .i64 r.2.1.Sign, .slice a1_1 n1_1 c1_1], .int .i64 r.2.2] ∧ O' = [] ∧ SlR (Rp.int .i64) F' a0_1 n0_1 c0_1 r.1.Digits ∧ SlR (Rp.int .i64) F' a1_1 n1_1 c1_1 r.2.1.Digits) := by
 unfold b1c at hm
 have h := HS.init hs
 refine a1a 67 Tryz.func93 rfl rfl rfl ?_
 refine a0f (a0a ?_)
 refine a2t rfl rfl rfl rfl h ?_
 intro b2 wx1 hx1
 refine a2t rfl rfl rfl rfl hx1 ?_
 intro b3 wx2 hx2
 refine a1b ze35 rfl rfl rfl hx2 ?_
 intro b4 wx3 hx3
 refine a1b ze35 rfl rfl rfl hx3 ?_
 intro b5 wx4 hx4
 refine a0b rfl rfl rfl (a0c (a0d (a0f (a1g (a0f (a0a ?_))))))
 refine a0l ag35 sz35 rfl rfl hx4 rfl (i := 3) rfl rfl ?_
 obtain ⟨v1, hv1, hm⟩ := bind_some hm
 refine a0i ent44 rfl rfl rfl rfl hx4 (a3f _ _ _ hv1 hx4.sat hs1) ?_
 rintro _ Fx1 _ wx5 hF1 hx5 ⟨rfl, rfl⟩
 refine a4g rfl rfl rfl (a0e rfl rfl rfl ?_)
 obtain ⟨v2, hb1, hm⟩ := bind_some hm
 refine a2r 4 (fun a w' => ∃ (Fx2 : Frz), Frz.le Fx1 Fx2 ∧ HS F w [] Fx2 [.box b5 35 [.int .i64 0, .slice none 0 0], .box b4 35 [.int .i64 0, .slice none 0 0], .box b3 35 [.int .i64 b1.Sign, .slice as2 ns2 cs2], .box b2 35 [.int .i64 ax1.Sign, .slice as1 ns1 cs1]] w' ∧ Has 67 a [(2, .pointer (some ⟨b2, 0, none⟩)), (3, .pointer (some ⟨b3, 0, none⟩)), (4, .pointer (some ⟨b4, 0, none⟩)), (5, .pointer (some ⟨b5, 0, none⟩)), (17, .bool v2)]) ?_ ?_
 ·rintro a wx6 ⟨Fx2, hF2, hx6, hax1⟩
  refine a1f hax1 ?_
  refine a0b rfl rfl rfl (a0c (a0d ?_))
  rcases a0g hm with ⟨hb2, hm⟩ | ⟨hb2, hm⟩
  ·refine a0t 9 rfl hb2 ?_
   refine a0y rfl (a0f (a0a ?_))
   refine a2b (v := .agg #[.int .i64 0, .slice none 0 0]) rfl rfl rfl (fun _ => by kernel_rfl) ?_
   refine a2b (v := .agg #[.int .i64 0, .slice none 0 0]) rfl rfl rfl (fun _ => by kernel_rfl) ?_
   refine a0p sz35 rfl hx6 rfl rfl rfl rfl (i := 1) rfl rfl rfl rfl ?_
   intro wx7 hx7
   refine a0p sz35 rfl hx7 rfl rfl rfl rfl (i := 0) rfl rfl rfl rfl ?_
   intro wx8 hx8
   refine a0b rfl rfl rfl (a0c (a0d (a1d (a0x (a0k ?_)))))
   refine a1v (vl := [.agg #[.int .i64 0, .slice none 0 0], .agg #[.int .i64 0, .slice none 0 0], .int .i64 1]) rfl ⟨a2p ag35 sz35 rfl hx8 rfl (i := 1) rfl, a2p ag35 sz35 rfl hx8 rfl (i := 0) rfl, a1z rfl, trivial⟩ (by simp) ?_
   obtain rfl := Option.some.inj hm
   exact ⟨_, _, _, rfl, hx8.pick [] (by decide) rfl, none, 0, 0, none, 0, 0, rfl, rfl, SlR.nil _ _, SlR.nil _ _⟩
  ·refine a0t 9 rfl hb2 ?_
   refine a0s rfl (a0f (a0a ?_))
   refine a0h fa35_0 rfl rfl rfl ?_
   refine a0r ag3 rfl rfl hx6 rfl (i := 2) rfl rfl ?_
   refine a0u rfl rfl rfl rfl rfl ?_
   refine a0b rfl rfl rfl (a0c (a0d ?_))
   rcases a0g hm with ⟨hb3, hm⟩ | ⟨hb3, hm⟩
   ·refine a0t 20 rfl hb3 ?_
    refine a0y rfl (a0f (a0a ?_))
    refine a2b (v := .agg #[.int .i64 0, .slice none 0 0]) rfl rfl rfl (fun _ => by kernel_rfl) ?_
    refine a2b (v := .agg #[.int .i64 0, .slice none 0 0]) rfl rfl rfl (fun _ => by kernel_rfl) ?_
    refine a0p sz35 rfl hx6 rfl rfl rfl rfl (i := 1) rfl rfl rfl rfl ?_
    intro wx9 hx9
    refine a0p sz35 rfl hx9 rfl rfl rfl rfl (i := 0) rfl rfl rfl rfl ?_
    intro wx10 hx10
    refine a0b rfl rfl rfl (a0c (a0d (a1d (a0x (a0k ?_)))))
    refine a1v (vl := [.agg #[.int .i64 0, .slice none 0 0], .agg #[.int .i64 0, .slice none 0 0], .int .i64 14]) rfl ⟨a2p ag35 sz35 rfl hx10 rfl (i := 1) rfl, a2p ag35 sz35 rfl hx10 rfl (i := 0) rfl, a1z rfl, trivial⟩ (by simp) ?_
    obtain rfl := Option.some.inj hm
    exact ⟨_, _, _, rfl, hx10.pick [] (by decide) rfl, none, 0, 0, none, 0, 0, rfl, rfl, SlR.nil _ _, SlR.nil _ _⟩
   ·refine a0t 20 rfl hb3 ?_
    refine a0s rfl (a1e (a1m (a0d (a0f (a0a ?_)))))
    refine a0h fa35_1 rfl rfl rfl ?_
    refine a0r ag28 rfl rfl hx6 rfl (i := 3) rfl rfl ?_
    refine a0h fa35_1 rfl rfl rfl ?_
    refine a0r ag28 rfl rfl hx6 rfl (i := 2) rfl rfl ?_
    obtain ⟨v3, hv2, hm⟩ := bind_some hm
    refine a0i ent81 rfl rfl rfl rfl hx6 (b8z _ _ _ _ hv2 hx6.sat ((hs1.mono hF1).mono hF2) ((hs2.mono hF1).mono hF2)) ?_
    rintro _ Fx3 _ wx11 hF3 hx11 ⟨as3, ns3, cs3, as4, ns4, cs4, xss4, rfl, rfl, hs3, hs4⟩
    refine a0e rfl rfl rfl (a0j rfl rfl rfl rfl (a0j rfl rfl rfl rfl (a0b rfl rfl rfl (a0b rfl rfl rfl (a0c (a0d (a0f (a0f (a0a ?_)))))))))
    refine a0h fa35_0 rfl rfl rfl ?_
    refine a0r ag3 rfl rfl hx11 rfl (i := 4) rfl rfl ?_
    refine a0h fa35_0 rfl rfl rfl ?_
    refine a0r ag3 rfl rfl hx11 rfl (i := 3) rfl rfl ?_
    refine a0u rfl rfl rfl rfl rfl ?_
    refine a0u rfl rfl rfl rfl rfl ?_
    refine a0e rfl rfl rfl ?_
    obtain ⟨v4, hb4, hm⟩ := bind_some hm
    refine a2r 4 (fun a w' => wx11 = w' ∧ Has 67 a [(2, .pointer (some ⟨b2, 0, none⟩)), (3, .pointer (some ⟨b3, 0, none⟩)), (4, .pointer (some ⟨b4, 0, none⟩)), (5, .pointer (some ⟨b5, 0, none⟩)), (7, .slice as3 ns3 cs3), (8, .slice as4 ns4 cs4), (44, .bool v4)]) ?_ ?_
    ·rintro a wx12 ⟨rfl, hax2⟩
     refine a1f hax2 ?_
     refine a0c (a0d ?_)
     rcases a0g hm with ⟨hb5, hm⟩ | ⟨hb5, hm⟩
     ·refine a0t 44 rfl hb5 ?_
      refine a0y rfl (a0f ?_)
      refine a1w (SH Fx3 [.box b3 35 [.int .i64 b1.Sign, .slice as2 ns2 cs2], .box b2 35 [.int .i64 ax1.Sign, .slice as1 ns1 cs1]]) 14 rfl (by kernel_rfl) hx11 ?_
      intro wx13 hx12
      refine d_tk 0 rfl (by kernel_rfl) rfl rfl rfl rfl (hx12.sh (Frz.refl _) [3, 4] (by decide) rfl) (fun _ _ _ _ _ => a0e rfl rfl rfl (a0c (qq rfl))) ?_
      refine d_tk 4 rfl (by kernel_rfl) rfl rfl rfl rfl (hx12.sh (Frz.refl _) [3, 4] (by decide) rfl) (fun _ _ _ _ _ => a0h fa35_0 rfl rfl rfl (a0c (qq rfl))) ?_
      refine d_tk 5 rfl (by kernel_rfl) rfl rfl rfl rfl (hx12.sh (Frz.refl _) [3, 4] (by decide) rfl) (fun _ _ _ _ hq => a0r ag3 rfl rfl hq rfl (i := 0) rfl rfl (a0c (qq rfl))) ?_
      refine d_tk 6 rfl (by kernel_rfl) rfl rfl rfl rfl (hx12.sh (Frz.refl _) [3, 4] (by decide) rfl) (fun _ _ _ _ _ => a0h fa35_1 rfl rfl rfl (a0c (qq rfl))) ?_
      refine d_tk 7 rfl (by kernel_rfl) rfl rfl rfl rfl (hx12.sh (Frz.refl _) [3, 4] (by decide) rfl) (fun _ _ _ _ hq => a0r ag28 rfl rfl hq rfl (i := 0) rfl rfl (a0c (qq rfl))) ?_
      refine d_tk 8 rfl (by kernel_rfl) rfl rfl rfl rfl (hx12.sh (Frz.refl _) [3, 4] (by decide) rfl) (fun _ _ _ _ _ => a0e rfl rfl rfl (a0c (qq rfl))) ?_
      refine a0v 1 rfl (by kernel_rfl) ?_
      refine a1q (e := 3) (cs := [.int .i64 1]) (q := 1) rfl rfl hx12 rfl (fun _ => by kernel_rfl) rfl rfl ?_
      intro b6 wx14 hx13
      refine a0o (hx13.sh (Frz.refl _) [4, 5] (by decide) rfl) ?_
      refine a0v 2 rfl (by kernel_rfl) ?_
      obtain ⟨Fx4, hF4, hx14, hsx1⟩ := a1c hx13 (i := 0) rfl ((show RowN (Rp.int .i64) Fx3 1 [.int .i64 1] [1] from ⟨rfl, ⟨_, _, rfl, rfl, (rfl : RowR (Rp.int .i64) _ [] [])⟩⟩))
      obtain ⟨v5, hv3, hm⟩ := bind_some hm
      refine a0i ent95 rfl rfl rfl rfl hx14 (b8x _ _ _ _ hv3 hx14.sat (hs3.mono hF4) hsx1) ?_
      rintro _ Fx5 _ wx15 hF5 hx15 ⟨as5, ns5, cs5, xss5, rfl, rfl, hs5⟩
      refine a0o (hx15.sh (hF4.trans hF5) [4, 5] (by decide) rfl) ?_
      refine a0v 3 rfl (by kernel_rfl) ?_
      obtain ⟨Fx6, hF6, hx16, hsx2⟩ := a1c hx15 (i := 0) rfl hs5
      obtain ⟨v6, hv4, hm⟩ := bind_some hm
      refine a0i ent82 rfl rfl rfl rfl hx16 (a4a _ _ _ _ hv4 hx16.sat hsx2) ?_
      rintro _ Fx7 _ wx16 hF7 hx17 ⟨as6, ns6, cs6, rfl, rfl, hs6⟩
      refine a0o (hx17.sh (((hF4.trans hF5).trans hF6).trans hF7) [3, 4] (by decide) rfl) ?_
      refine a0v 9 rfl (by kernel_rfl) ?_
      obtain ⟨Fx8, hF8, hx18, hsx3⟩ := a1c hx17 (i := 0) rfl ((((hs4.mono hF4).mono hF5).mono hF6).mono hF7)
      have hG1 := ((((((hF1.trans hF2).trans hF3).trans hF4).trans hF5).trans hF6).trans hF7).trans hF8
      obtain ⟨v7, hv5, hm⟩ := bind_some hm
      refine a0i ent96 rfl rfl rfl rfl hx18 (b5n _ _ _ _ hv5 hx18.sat (hs2.mono hG1) hsx3) ?_
      rintro _ Fx9 _ wx17 hF9 hx19 ⟨as7, ns7, cs7, xss7, rfl, rfl, hs7⟩
      refine a0o (hx19.sh (((((hF4.trans hF5).trans hF6).trans hF7).trans hF8).trans hF9) [3, 4] (by decide) rfl) ?_
      refine a0v 10 rfl (by kernel_rfl) ?_
      obtain ⟨Fx10, hF10, hx20, hsx4⟩ := a1c hx19 (i := 0) rfl hs7
      obtain ⟨v8, hv6, hm⟩ := bind_some hm
      refine a0i ent82 rfl rfl rfl rfl hx20 (a4a _ _ _ _ hv6 hx20.sat hsx4) ?_
      rintro _ Fx11 _ wx18 hF11 hx21 ⟨as8, ns8, cs8, rfl, rfl, hs8⟩
      refine a0o (hx21.sh (((((((hF4.trans hF5).trans hF6).trans hF7).trans hF8).trans hF9).trans hF10).trans hF11) [2, 3] (by decide) rfl) ?_
      refine a0v 11 rfl (by kernel_rfl) ?_
      refine a0p sz35 rfl hx21 rfl rfl rfl rfl (i := 1) rfl rfl rfl rfl ?_
      intro wx19 hx22
      refine a0o (hx22.sh (((((((hF4.trans hF5).trans hF6).trans hF7).trans hF8).trans hF9).trans hF10).trans hF11) [2, 3] (by decide) rfl) ?_
      refine a0v 12 rfl (by kernel_rfl) ?_
      refine a0p sz35 rfl hx22 rfl rfl rfl rfl (i := 0) rfl rfl rfl rfl ?_
      intro wx20 hx23
      refine a0o (hx23.sh (((((((hF4.trans hF5).trans hF6).trans hF7).trans hF8).trans hF9).trans hF10).trans hF11) [2, 3] (by decide) rfl) ?_
      refine d_tk 13 rfl (by kernel_rfl) rfl rfl rfl rfl (hx23.sh (((((((hF4.trans hF5).trans hF6).trans hF7).trans hF8).trans hF9).trans hF10).trans hF11) [2, 3] (by decide) rfl) (fun _ _ _ _ _ => a0b rfl rfl rfl (a0c (qq rfl))) ?_
      refine a2g (by kernel_rfl) ?_
      refine a0d (a1d (a0k ?_))
      refine a1v (vl := [.agg #[.int .i64 v6.Sign, .slice as6 ns6 cs6], .agg #[.int .i64 v8.Sign, .slice as8 ns8 cs8], .int .i64 0]) rfl ⟨a2p ag35 sz35 rfl hx23 rfl (i := 1) rfl, a2p ag35 sz35 rfl hx23 rfl (i := 0) rfl, a1z rfl, trivial⟩ (by simp) ?_
      obtain rfl := Option.some.inj hm
      exact ⟨_, _, _, rfl, hx23.pick [] (by decide) rfl, as6, ns6, cs6, as8, ns8, cs8, rfl, rfl, ((((hs6.mono hF8).mono hF9).mono hF10).mono hF11), hs8⟩
     ·refine a0t 44 rfl hb5 ?_
      refine a0s rfl (a1e (a0d (a0f ?_)))
      refine a1w (SH Fx3 [.box b3 35 [.int .i64 b1.Sign, .slice as2 ns2 cs2], .box b2 35 [.int .i64 ax1.Sign, .slice as1 ns1 cs1]]) 14 rfl (by kernel_rfl) hx11 ?_
      intro wx21 hx24
      refine d_tk 0 rfl (by kernel_rfl) rfl rfl rfl rfl (hx24.sh (Frz.refl _) [3, 4] (by decide) rfl) (fun _ _ _ _ _ => a0h fa35_0 rfl rfl rfl (a0c (qq rfl))) ?_
      refine d_tk 1 rfl (by kernel_rfl) rfl rfl rfl rfl (hx24.sh (Frz.refl _) [3, 4] (by decide) rfl) (fun _ _ _ _ hq => a0r ag3 rfl rfl hq rfl (i := 1) rfl rfl (a0c (qq rfl))) ?_
      refine d_tk 2 rfl (by kernel_rfl) rfl rfl rfl rfl (hx24.sh (Frz.refl _) [3, 4] (by decide) rfl) (fun _ _ _ _ _ => a0h fa35_0 rfl rfl rfl (a0c (qq rfl))) ?_
      refine d_tk 3 rfl (by kernel_rfl) rfl rfl rfl rfl (hx24.sh (Frz.refl _) [3, 4] (by decide) rfl) (fun _ _ _ _ hq => a0r ag3 rfl rfl hq rfl (i := 0) rfl rfl (a0c (qq rfl))) ?_
      refine d_tk 4 rfl (by kernel_rfl) rfl rfl rfl rfl (hx24.sh (Frz.refl _) [3, 4] (by decide) rfl) (fun _ _ _ _ _ => a0u rfl rfl rfl rfl rfl (a0c (qq rfl))) ?_
      refine d_tk 5 rfl (by kernel_rfl) rfl rfl rfl rfl (hx24.sh (Frz.refl _) [3, 4] (by decide) rfl) (fun _ _ _ _ _ => a0e rfl rfl rfl (a0c (qq rfl))) ?_
      refine d_tk 7 rfl (by kernel_rfl) rfl rfl rfl rfl (hx24.sh (Frz.refl _) [3, 4] (by decide) rfl) (fun _ _ _ _ _ => a0h fa35_0 rfl rfl rfl (a0c (qq rfl))) ?_
      refine d_tk 8 rfl (by kernel_rfl) rfl rfl rfl rfl (hx24.sh (Frz.refl _) [3, 4] (by decide) rfl) (fun _ _ _ _ hq => a0r ag3 rfl rfl hq rfl (i := 1) rfl rfl (a0c (qq rfl))) ?_
      refine d_tk 9 rfl (by kernel_rfl) rfl rfl rfl rfl (hx24.sh (Frz.refl _) [3, 4] (by decide) rfl) (fun _ _ _ _ _ => a0e rfl rfl rfl (a0c (qq rfl))) ?_
      refine a0v 6 rfl (by kernel_rfl) ?_
      obtain ⟨v9, hv7, hm⟩ := bind_some hm
      refine a0i ent82 rfl rfl rfl rfl hx24 (a4a _ _ _ _ hv7 hx24.sat hs3) ?_
      rintro _ Fx12 _ wx22 hF12 hx25 ⟨as9, ns9, cs9, rfl, rfl, hs9⟩
      refine a0o (hx25.sh hF12 [3, 4] (by decide) rfl) ?_
      refine a0v 10 rfl (by kernel_rfl) ?_
      obtain ⟨Fx13, hF13, hx26, hsx5⟩ := a1c hx25 (i := 0) rfl (hs4.mono hF12)
      obtain ⟨v10, hv8, hm⟩ := bind_some hm
      refine a0i ent82 rfl rfl rfl rfl hx26 (a4a _ _ _ _ hv8 hx26.sat hsx5) ?_
      rintro _ Fx14 _ wx23 hF14 hx27 ⟨as10, ns10, cs10, rfl, rfl, hs10⟩
      refine a0o (hx27.sh ((hF12.trans hF13).trans hF14) [2, 3] (by decide) rfl) ?_
      refine a0v 11 rfl (by kernel_rfl) ?_
      refine a0p sz35 rfl hx27 rfl rfl rfl rfl (i := 1) rfl rfl rfl rfl ?_
      intro wx24 hx28
      refine a0o (hx28.sh ((hF12.trans hF13).trans hF14) [2, 3] (by decide) rfl) ?_
      refine a0v 12 rfl (by kernel_rfl) ?_
      refine a0p sz35 rfl hx28 rfl rfl rfl rfl (i := 0) rfl rfl rfl rfl ?_
      intro wx25 hx29
      refine a0o (hx29.sh ((hF12.trans hF13).trans hF14) [2, 3] (by decide) rfl) ?_
      refine d_tk 13 rfl (by kernel_rfl) rfl rfl rfl rfl (hx29.sh ((hF12.trans hF13).trans hF14) [2, 3] (by decide) rfl) (fun _ _ _ _ _ => a0b rfl rfl rfl (a0c (qq rfl))) ?_
      refine a2g (by kernel_rfl) ?_
      refine a0d (a1d ?_)
      refine a1v (vl := [.agg #[.int .i64 v9.Sign, .slice as9 ns9 cs9], .agg #[.int .i64 v10.Sign, .slice as10 ns10 cs10], .int .i64 0]) rfl ⟨a2p ag35 sz35 rfl hx29 rfl (i := 1) rfl, a2p ag35 sz35 rfl hx29 rfl (i := 0) rfl, a1z rfl, trivial⟩ (by simp) ?_
      obtain rfl := Option.some.inj hm
      exact ⟨_, _, _, rfl, hx29.pick [] (by decide) rfl, as9, ns9, cs9, as10, ns10, cs10, rfl, rfl, ((hs9.mono hF13).mono hF14), hs10⟩
    ·clear hm
     rcases a0g hb4 with ⟨hb6, hb4⟩ | ⟨hb6, hb4⟩
     ·refine a1j 40 rfl hb6 ?_
      refine a0e rfl rfl rfl ?_
      refine a1u hs4.len u28 rfl rfl rfl ?_
      refine a0u rfl rfl rfl rfl rfl ?_
      refine a0q rfl rfl rfl rfl (a0c ?_)
      refine a0n (fun a ha => ?_)
      cases hb4
      exact ⟨rfl, ha.cut (l := [2, 3, 4, 5, 7, 8, 44]) rfl⟩
     ·refine a1j 40 rfl hb6 ?_
      refine a0z rfl (by decide) rfl (a0z rfl (by decide) rfl (a0z rfl (by decide) rfl (a0m rfl rfl rfl rfl (a0c ?_))))
      refine a0n (fun a ha => ?_)
      cases hb4
      exact ⟨rfl, ha.cut (l := [2, 3, 4, 5, 7, 8, 44]) rfl⟩
 ·clear hm
  rcases a0g hb1 with ⟨hb7, hb1⟩ | ⟨hb7, hb1⟩
  ·refine a1j 13 rfl hb7 ?_
   refine a0z rfl (by decide) rfl (a0z rfl (by decide) rfl (a0z rfl (by decide) rfl (a0q rfl rfl rfl rfl (a0c ?_))))
   refine a0n (fun a ha => ?_)
   cases hb1
   exact ⟨_, Frz.refl _, hx5.pick [0, 1, 2, 3] (by decide) rfl, ha.cut (l := [2, 3, 4, 5, 17]) rfl⟩
  ·refine a1j 13 rfl hb7 ?_
   refine a0l ag35 sz35 rfl rfl hx5 rfl (i := 2) rfl rfl ?_
   obtain ⟨v11, hv9, hb1⟩ := bind_some hb1
   refine a0i ent44 rfl rfl rfl rfl hx5 (a3f _ _ _ hv9 hx5.sat (hs2.mono hF1)) ?_
   rintro _ Fx15 _ wx26 hF15 hx30 ⟨rfl, rfl⟩
   refine a4g rfl rfl rfl (a0m rfl rfl rfl rfl (a0c ?_))
   refine a0n (fun a ha => ?_)
   cases hb1
   exact ⟨_, hF15, hx30.pick [0, 1, 2, 3] (by decide) rfl, ha.cut (l := [2, 3, 4, 5, 17]) rfl⟩
def a8h (n : Nat) (kont1 : (List Int) → Option (Big × Int)) : Nat → (List Int) → (List Int) → Option (Big × Int)
 | 0, _, _ => none
 | mx1 + 1, x1, y1 =>
  bif decide (0 < (y1.length : Int)) then
   (b2v n x1 y1).bind fun v8 =>
   a8h n kont1 mx1 y1 v8.2
  else
   kont1 x1
theorem b2t (n : Nat) (kont1 : (List Int) → Option (Big × Int)) (mx1 : Nat) (x1 : (List Int)) (y1 : (List Int)) : a8h n kont1 (mx1 + 1) x1 y1 =
  bif decide (0 < (y1.length : Int)) then
   (b2v n x1 y1).bind fun v8 =>
   a8h n kont1 mx1 y1 v8.2
  else
   kont1 x1 := rfl
def b3h (n : Nat) (ax1 : Big) (b1 : Big) : Option (Big × Int) :=
 (a3p n ax1).bind fun v1 =>
 (bif !v1 then
  some true
 else
  (a3p n b1).bind fun v9 =>
  some (!v9)).bind fun v2 =>
 bif v2 then
  (a4v n false (⟨0, []⟩ : Big)).bind fun v3 =>
  some (v3.1, v3.2)
 else
  (a1s n ax1.Digits).bind fun v4 =>
  a8h n (fun (x2 : (List Int)) =>
   (a1s n x2).bind fun v5 =>
   (a3k n 1 v5).bind fun v6 =>
   (a4v n true v6).bind fun v7 =>
   some (v7.1, v7.2)) n v4 b1.Digits
set_option maxHeartbeats 1000000 in
set_option maxRecDepth 1000000 in
theorem b1k (n : Nat) (ax1 : Big) (b1 : Big) (r : (Big × Int)) (hm : b3h n ax1 b1 = some r) {w : World} {F : Frz} (hs : Sat F w) {as1 : Option Addr} {ns1 : Nat} {cs1 : Nat} {as2 : Option Addr} {ns2 : Nat} {cs2 : Nat} (hs1 : SlR (Rp.int .i64) F as1 ns1 cs1 ax1.Digits) (hs2 : SlR (Rp.int .i64) F as2 ns2 cs2 b1.Digits) :
  Calls Tryz.prog 45 #[.agg #[.int .i64 ax1.Sign, .slice as1 ns1 cs1], .agg #[.int .i64 b1.Sign, .slice as2 ns2 cs2]] w fun e w' => ∃ v F' O', e = .returned v ∧ HS F w [] F' O' w' ∧ (∃ (a0_1 : Option Addr) (n0_1 : Nat) (c0_1 : Nat), v = .tuple #[.agg #[.int .i64 r.1.Sign, .slice a0_1 n0_1 c0_1], .int .i64 r.2] ∧ O' = [] ∧ SlR (Rp.int .i64) F' a0_1 n0_1 c0_1 r.1.Digits) := by
 unfold b3h at hm
 have h := HS.init hs
 refine a1a 44 Tryz.func45 rfl rfl rfl ?_
 refine a0f (a0a ?_)
 refine a2t rfl rfl rfl rfl h ?_
 intro b2 wx1 hx1
 refine a2t rfl rfl rfl rfl hx1 ?_
 intro b3 wx2 hx2
 refine a1b ze35 rfl rfl rfl hx2 ?_
 intro b4 wx3 hx3
 refine a0b rfl rfl rfl (a0c (a0d (a0f (a0f (a0a ?_)))))
 refine a0l ag35 sz35 rfl rfl hx3 rfl (i := 2) rfl rfl ?_
 obtain ⟨v1, hv1, hm⟩ := bind_some hm
 refine a0i ent44 rfl rfl rfl rfl hx3 (a3f _ _ _ hv1 hx3.sat hs1) ?_
 rintro _ Fx1 _ wx4 hF1 hx4 ⟨rfl, rfl⟩
 refine a4g rfl rfl rfl (a0e rfl rfl rfl ?_)
 obtain ⟨v2, hb1, hm⟩ := bind_some hm
 refine a2r 4 (fun a w' => ∃ (Fx2 : Frz), Frz.le Fx1 Fx2 ∧ HS F w [] Fx2 [.box b4 35 [.int .i64 0, .slice none 0 0], .box b3 35 [.int .i64 b1.Sign, .slice as2 ns2 cs2], .box b2 35 [.int .i64 ax1.Sign, .slice as1 ns1 cs1]] w' ∧ Has 44 a [(2, .pointer (some ⟨b2, 0, none⟩)), (3, .pointer (some ⟨b3, 0, none⟩)), (4, .pointer (some ⟨b4, 0, none⟩)), (17, .bool v2)]) ?_ ?_
 ·rintro a wx5 ⟨Fx2, hF2, hx5, hax1⟩
  refine a1f hax1 ?_
  refine a0c (a0d ?_)
  rcases a0g hm with ⟨hb2, hm⟩ | ⟨hb2, hm⟩
  ·refine a0t 17 rfl hb2 ?_
   refine a0y rfl (a0f (a0a ?_))
   refine a2b (v := .agg #[.int .i64 0, .slice none 0 0]) rfl rfl rfl (fun _ => by kernel_rfl) ?_
   obtain ⟨v3, hv2, hm⟩ := bind_some hm
   refine a0i ent80 rfl rfl rfl rfl hx5 (a5g _ _ _ _ hv2 hx5.sat (SlR.nil _ _)) ?_
   rintro _ Fx3 _ wx6 hF3 hx6 ⟨as3, ns3, cs3, rfl, rfl, hs3⟩
   refine a0j rfl rfl rfl rfl (a0j rfl rfl rfl rfl ?_)
   refine a0p sz35 rfl hx6 rfl rfl rfl rfl (i := 0) rfl rfl rfl rfl ?_
   intro wx7 hx7
   refine a0b rfl rfl rfl (a0c (a0d (a1d (a0k ?_))))
   refine a1v (vl := [.agg #[.int .i64 v3.1.Sign, .slice as3 ns3 cs3], .int .i64 v3.2]) rfl ⟨a2p ag35 sz35 rfl hx7 rfl (i := 0) rfl, a1z rfl, trivial⟩ (by simp) ?_
   obtain rfl := Option.some.inj hm
   exact ⟨_, _, _, rfl, hx7.pick [] (by decide) rfl, as3, ns3, cs3, rfl, rfl, hs3⟩
  ·refine a0t 17 rfl hb2 ?_
   refine a0s rfl (a1e (a0d (a0f ?_)))
   refine a1w (SH Fx2 [.box b4 35 [.int .i64 0, .slice none 0 0], .box b3 35 [.int .i64 b1.Sign, .slice as2 ns2 cs2], .box b2 35 [.int .i64 ax1.Sign, .slice as1 ns1 cs1]]) 7 rfl (by kernel_rfl) hx5 ?_
   intro wx8 hx8
   refine d_tk 0 rfl (by kernel_rfl) rfl rfl rfl rfl (hx8.sh (Frz.refl _) [0, 1, 2] (by decide) rfl) (fun _ _ _ _ _ => a0h fa35_1 rfl rfl rfl (a0c (qq rfl))) ?_
   refine d_tk 1 rfl (by kernel_rfl) rfl rfl rfl rfl (hx8.sh (Frz.refl _) [0, 1, 2] (by decide) rfl) (fun _ _ _ _ hq => a0r ag28 rfl rfl hq rfl (i := 2) rfl rfl (a0c (qq rfl))) ?_
   refine d_tk 3 rfl (by kernel_rfl) rfl rfl rfl rfl (hx8.sh (Frz.refl _) [0, 1, 2] (by decide) rfl) (fun _ _ _ _ _ => a0h fa35_1 rfl rfl rfl (a0c (qq rfl))) ?_
   refine d_tk 4 rfl (by kernel_rfl) rfl rfl rfl rfl (hx8.sh (Frz.refl _) [0, 1, 2] (by decide) rfl) (fun _ _ _ _ hq => a0r ag28 rfl rfl hq rfl (i := 1) rfl rfl (a0c (qq rfl))) ?_
   refine a0v 2 rfl (by kernel_rfl) ?_
   obtain ⟨v4, hv3, hm⟩ := bind_some hm
   refine a0i ent67 rfl rfl rfl rfl hx8 (a1x _ _ _ hv3 hx8.sat ((hs1.mono hF1).mono hF2)) ?_
   rintro _ Fx4 _ wx9 hF4 hx9 ⟨as4, ns4, cs4, xss4, rfl, rfl, hs4⟩
   refine a0o (hx9.sh hF4 [1, 2, 3] (by decide) rfl) ?_
   refine d_tk 5 rfl (by kernel_rfl) rfl rfl rfl rfl (hx9.sh hF4 [1, 2, 3] (by decide) rfl) (fun _ _ _ _ _ => a0b rfl rfl rfl (a0c (qq rfl))) ?_
   refine d_tk 6 rfl (by kernel_rfl) rfl rfl rfl rfl (hx9.sh hF4 [1, 2, 3] (by decide) rfl) (fun _ _ _ _ _ => a0b rfl rfl rfl (a0c (qq rfl))) ?_
   refine a2g (by kernel_rfl) ?_
   refine a0d (a0f (a1g ?_))
   obtain ⟨Fx5, hF5, hx10, hsx1⟩ := a1c hx9 (i := 0) rfl hs4
   intro a hax4
   obtain ⟨kont1, hkont1⟩ : ∃ kont1 : (List Int) → Option (Big × Int), kont1 = (fun (x2 : (List Int)) =>
       (a1s n x2).bind fun v5 =>
       (a3k n 1 v5).bind fun v6 =>
       (a4v n true v6).bind fun v7 =>
       some (v7.1, v7.2)) := ⟨_, rfl⟩
   replace hm : (fun m (s : (List Int) × (List Int)) => a8h n kont1 m s.1 s.2) n (v4, b1.Digits) = some r := by rw [hkont1]; exact hm
   refine a5w (id := 0) (fun m (s : (List Int) × (List Int)) => a8h n kont1 m s.1 s.2) (fun (y : (List Int)) => kont1 y) r (fun (s : (List Int) × (List Int)) a w' => ∃ (Fx6 : Frz) (as5 : Option Addr) (ns5 : Nat) (cs5 : Nat) (as6 : Option Addr) (ns6 : Nat) (cs6 : Nat), Frz.le Fx5 Fx6 ∧ HS F w [] Fx6 [.box b4 35 [.int .i64 0, .slice none 0 0]] w' ∧ (SlR (Rp.int .i64) Fx6 as5 ns5 cs5 s.1) ∧ (SlR (Rp.int .i64) Fx6 as6 ns6 cs6 s.2) ∧ Has 44 a [(4, .pointer (some ⟨b4, 0, none⟩)), (6, .slice as5 ns5 cs5), (7, .slice as6 ns6 cs6)]) (fun (y : (List Int)) a w' => ∃ (Fx7 : Frz) (as7 : Option Addr) (ns7 : Nat) (cs7 : Nat), Frz.le Fx5 Fx7 ∧ HS F w [] Fx7 [.box b4 35 [.int .i64 0, .slice none 0 0]] w' ∧ (SlR (Rp.int .i64) Fx7 as7 ns7 cs7 y) ∧ Has 44 a [(4, .pointer (some ⟨b4, 0, none⟩)), (6, .slice as7 ns7 cs7)]) (fun _ => rfl) ?_ ?_ hm ⟨_, as4, ns4, cs4, as2, ns2, cs2, Frz.refl _, hx10.pick [0] (by decide) rfl, hsx1, ((((hs2.mono hF1).mono hF2).mono hF4).mono hF5), hax4.cut (l := [4, 6, 7]) rfl⟩
   ·clear hm; rintro x2 a wx10 hm ⟨Fx7, as7, ns7, cs7, hF7, hx12, hs7, hax2⟩
    rw [hkont1] at hm
    replace hm := hm
    refine a2f (e := .exit 0) hax2 ?_
    refine a1k (a0d (a0f (a0a (a0e rfl rfl rfl ?_))))
    obtain ⟨v5, hv4, hm⟩ := bind_some hm
    refine a0i ent67 rfl rfl rfl rfl hx12 (a1x _ _ _ hv4 hx12.sat hs7) ?_
    rintro _ Fx8 _ wx11 hF8 hx13 ⟨as8, ns8, cs8, xss8, rfl, rfl, hs8⟩
    obtain ⟨Fx9, hF9, hx14, hsx2⟩ := a1c hx13 (i := 0) rfl hs8
    obtain ⟨v6, hv5, hm⟩ := bind_some hm
    refine a0i ent82 rfl rfl rfl rfl hx14 (a4a _ _ _ _ hv5 hx14.sat hsx2) ?_
    rintro _ Fx10 _ wx12 hF10 hx15 ⟨as9, ns9, cs9, rfl, rfl, hs9⟩
    obtain ⟨v7, hv6, hm⟩ := bind_some hm
    refine a0i ent80 rfl rfl rfl rfl hx15 (a5g _ _ _ _ hv6 hx15.sat hs9) ?_
    rintro _ Fx11 _ wx13 hF11 hx16 ⟨as10, ns10, cs10, rfl, rfl, hs10⟩
    refine a0j rfl rfl rfl rfl (a0j rfl rfl rfl rfl ?_)
    refine a0p sz35 rfl hx16 rfl rfl rfl rfl (i := 0) rfl rfl rfl rfl ?_
    intro wx14 hx17
    refine a0b rfl rfl rfl (a0c (a0d (a1d ?_)))
    refine a1v (vl := [.agg #[.int .i64 v7.1.Sign, .slice as10 ns10 cs10], .int .i64 v7.2]) rfl ⟨a2p ag35 sz35 rfl hx17 rfl (i := 0) rfl, a1z rfl, trivial⟩ (by simp) ?_
    obtain rfl := Option.some.inj hm
    exact ⟨_, _, _, rfl, hx17.pick [] (by decide) rfl, as10, ns10, cs10, rfl, rfl, hs10⟩
   ·clear hm hkont1; intro hk1 mx1 K ihx1
    rintro ⟨x1, y1⟩ a wx15 hm ⟨Fx6, as5, ns5, cs5, as6, ns6, cs6, hF6, hx11, hs5, hs6, hax3⟩
    simp only [b2t] at hm
    refine a1i hax3 ?_
    refine a0f (a0f (a0a (a0e rfl rfl rfl ?_)))
    refine a1u hs6.len u28 rfl rfl rfl ?_
    refine a0u rfl rfl rfl rfl rfl ?_
    refine a0c (a0d ?_)
    rcases a0g hm with ⟨hb3, hm⟩ | ⟨hb3, hm⟩
    ·refine a0t 29 rfl hb3 ?_
     refine a0y rfl (a1e (a0d (a1g (a0f (a0a (a0e rfl rfl rfl (a0e rfl rfl rfl ?_)))))))
     obtain ⟨v8, hv7, hm⟩ := bind_some hm
     refine a0i ent81 rfl rfl rfl rfl hx11 (b8z _ _ _ _ hv7 hx11.sat hs5 hs6) ?_
     rintro _ Fx12 _ wx16 hF12 hx18 ⟨as11, ns11, cs11, as12, ns12, cs12, xss12, rfl, rfl, hs11, hs12⟩
     refine a0e rfl rfl rfl (a0j rfl rfl rfl rfl (a0j rfl rfl rfl rfl (a0b rfl rfl rfl (a0b rfl rfl rfl (a0c (a0d (a0a (a0e rfl rfl rfl (a0e rfl rfl rfl (a0b rfl rfl rfl (a0b rfl rfl rfl (a0c (a1m ?_)))))))))))))
     obtain ⟨Fx13, hF13, hx19, hsx3⟩ := a1c hx18 (i := 0) rfl hs12
     refine a0n (fun a ha => ihx1 (y1, v8.2) a _ hm ?_)
     exact ⟨_, as6, ns6, cs6, as12, ns12, cs12, ((hF6.trans hF12).trans hF13), hx19.pick [0] (by decide) rfl, ((hs6.mono hF12).mono hF13), hsx3, ha.cut (l := [4, 6, 7]) rfl⟩
    ·refine a0t 29 rfl hb3 ?_
     refine a0s rfl (a3u (a0w (a0w ?_)))
     refine fun a ha => hk1 x1 a _ hm ?_
     exact ⟨_, as5, ns5, cs5, hF6, hx11.pick [0] (by decide) rfl, hs5, ha.cut (l := [4, 6]) rfl⟩
 ·clear hm
  rcases a0g hb1 with ⟨hb4, hb1⟩ | ⟨hb4, hb1⟩
  ·refine a1j 13 rfl hb4 ?_
   refine a0z rfl (by decide) rfl (a0z rfl (by decide) rfl (a0z rfl (by decide) rfl (a0q rfl rfl rfl rfl (a0c ?_))))
   refine a0n (fun a ha => ?_)
   cases hb1
   exact ⟨_, Frz.refl _, hx4.pick [0, 1, 2] (by decide) rfl, ha.cut (l := [2, 3, 4, 17]) rfl⟩
  ·refine a1j 13 rfl hb4 ?_
   refine a0l ag35 sz35 rfl rfl hx4 rfl (i := 1) rfl rfl ?_
   obtain ⟨v9, hv8, hb1⟩ := bind_some hb1
   refine a0i ent44 rfl rfl rfl rfl hx4 (a3f _ _ _ hv8 hx4.sat (hs2.mono hF1)) ?_
   rintro _ Fx14 _ wx17 hF14 hx20 ⟨rfl, rfl⟩
   refine a4g rfl rfl rfl (a0m rfl rfl rfl rfl (a0c ?_))
   refine a0n (fun a ha => ?_)
   cases hb1
   exact ⟨_, hF14, hx20.pick [0, 1, 2] (by decide) rfl, ha.cut (l := [2, 3, 4, 17]) rfl⟩
theorem u3 : Tryz.prog.underlying 3 = some (.int .i64) := by kernel_rfl
theorem u116 : Tryz.prog.underlying 116 = some (.int .u64) := by kernel_rfl
def a8o (n : Nat) (kont1 : (List Int) → Option Big) : Nat → Int → (List Int) → Option Big
 | 0, _, _ => none
 | mx1 + 1, u2, l1 =>
  bif decide (0 < u2) then
   (app 8 l1 [IntKind.i64.wrap (iand .u64 u2 1048575)]).bind fun l3 =>
   (shr .u64 u2 20).bind fun q1 =>
   a8o n kont1 mx1 q1 l3
  else
   kont1 l1
theorem b7x (n : Nat) (kont1 : (List Int) → Option Big) (mx1 : Nat) (u2 : Int) (l1 : List Int) : a8o n kont1 (mx1 + 1) u2 l1 =
  bif decide (0 < u2) then
   (app 8 l1 [IntKind.i64.wrap (iand .u64 u2 1048575)]).bind fun l3 =>
   (shr .u64 u2 20).bind fun q1 =>
   a8o n kont1 mx1 q1 l3
  else
   kont1 l1 := rfl
def b4t (n : Nat) (nx1 : Int) : Option Big :=
 (bif decide (nx1 < 0) then
  some ((-1), IntKind.u64.wrap (0 - (IntKind.u64.wrap nx1)))
 else
  some (1, IntKind.u64.wrap nx1)).bind fun (sign1, u1) =>
 a8o n (fun (l2 : List Int) =>
  (a3k n sign1 l2).bind fun v1 =>
  some v1) n u1 ([] : List Int)
set_option maxHeartbeats 1000000 in
set_option maxRecDepth 1000000 in
theorem c1j (n : Nat) (nx1 : Int) (r : Big) (hm : b4t n nx1 = some r) {w : World} {F : Frz} (hs : Sat F w)  :
  Calls Tryz.prog 77 #[.int .i64 nx1] w fun e w' => ∃ v F' O', e = .returned v ∧ HS F w [] F' O' w' ∧ (∃ (a0_1 : Option Addr) (n0_1 : Nat) (c0_1 : Nat), v = .agg #[.int .i64 r.Sign, .slice a0_1 n0_1 c0_1] ∧ O' = [] ∧ SlR (Rp.int .i64) F' a0_1 n0_1 c0_1 r.Digits) := by
 unfold b4t at hm
 have h := HS.init hs
 refine a1a 25 Tryz.func77 rfl rfl rfl ?_
 refine a0f (a0a ?_)
 refine a1b ze35 rfl rfl rfl h ?_
 intro b1 wx1 hx1
 refine a0c (a0d (a0f (a0a (a0e rfl rfl rfl ?_))))
 refine c0z u3 u116 rfl rfl rfl ?_
 refine a0b rfl rfl rfl (a0b rfl rfl rfl (a0c (a0d (a0f (a0f (a0a (a0e rfl rfl rfl ?_)))))))
 refine a0u rfl rfl rfl rfl rfl ?_
 refine a0c (a0d ?_)
 obtain ⟨⟨sign1, u1⟩, hb1, hm⟩ := bind_some hm
 refine a8f (fun a w' => wx1 = w' ∧ Has 25 a [(2, .pointer (some ⟨b1, 0, none⟩)), (3, .int .i64 sign1), (4, .int .u64 u1)]) ?_ ?_
 ·rintro a wx2 ⟨rfl, hax1⟩
  refine a1i hax1 ?_
  refine a0f (a0a (a0b rfl rfl rfl (a0c (a0d (a0f (a1g ?_))))))
  have hx2 := hx1.nilRow 3 1
  intro a hax4
  obtain ⟨kont1, hkont1⟩ : ∃ kont1 : (List Int) → Option Big, kont1 = (fun (l2 : List Int) =>
       (a3k n sign1 l2).bind fun v1 =>
       some v1) := ⟨_, rfl⟩
  replace hm : (fun m (s : Int × List Int) => a8o n kont1 m s.1 s.2) n (u1, ([] : List Int)) = some r := by rw [hkont1]; exact hm
  refine a5w (id := 0) (fun m (s : Int × List Int) => a8o n kont1 m s.1 s.2) (fun (y : List Int) => kont1 y) r (fun (s : Int × List Int) a w' => ∃ (Fx1 : Frz) (as1 : Option Addr) (ns1 : Nat) (cs1 : Nat) (xss1 : List Value), Frz.le F Fx1 ∧ HS F w [] Fx1 [.row 3 1 as1 ns1 cs1 xss1, .box b1 35 [.int .i64 0, .slice none 0 0]] w' ∧ (RowN (Rp.int .i64) Fx1 ns1 xss1 s.2) ∧ Has 25 a [(2, .pointer (some ⟨b1, 0, none⟩)), (3, .int .i64 sign1), (4, .int .u64 s.1), (5, .slice as1 ns1 cs1)]) (fun (y : List Int) a w' => ∃ (Fx2 : Frz) (as2 : Option Addr) (ns2 : Nat) (cs2 : Nat) (xss2 : List Value), Frz.le F Fx2 ∧ HS F w [] Fx2 [.row 3 1 as2 ns2 cs2 xss2, .box b1 35 [.int .i64 0, .slice none 0 0]] w' ∧ (RowN (Rp.int .i64) Fx2 ns2 xss2 y) ∧ Has 25 a [(2, .pointer (some ⟨b1, 0, none⟩)), (3, .int .i64 sign1), (5, .slice as2 ns2 cs2)]) (fun _ => rfl) ?_ ?_ hm ⟨_, none, 0, 0, [], Frz.refl _, hx2.pick [0, 1] (by decide) rfl, ((show RowN (Rp.int .i64) _ 0 [] [] from ⟨rfl, rfl⟩)), hax4.cut (l := [2, 3, 4, 5]) rfl⟩
  ·clear hm; rintro l2 a wx3 hm ⟨Fx2, as2, ns2, cs2, xss2, hF2, hx4, hs2, hax2⟩
   rw [hkont1] at hm
   replace hm := hm
   refine a2f (e := .exit 0) hax2 ?_
   refine a1k (a0d (a0f (a0a (a0e rfl rfl rfl (a0e rfl rfl rfl ?_)))))
   obtain ⟨Fx3, hF3, hx5, hsx1⟩ := a1c hx4 (i := 0) rfl hs2
   obtain ⟨v1, hv1, hm⟩ := bind_some hm
   refine a0i ent82 rfl rfl rfl rfl hx5 (a4a _ _ _ _ hv1 hx5.sat hsx1) ?_
   rintro _ Fx4 _ wx4 hF4 hx6 ⟨as3, ns3, cs3, rfl, rfl, hs3⟩
   refine a0p sz35 rfl hx6 rfl rfl rfl rfl (i := 0) rfl rfl rfl rfl ?_
   intro wx5 hx7
   refine a0c (a0d (a1d ?_))
   refine a3r rfl ag35 sz35 rfl hx7 rfl (i := 0) rfl ?_
   obtain rfl := Option.some.inj hm
   exact ⟨_, _, _, rfl, hx7.pick [] (by decide) rfl, as3, ns3, cs3, rfl, rfl, hs3⟩
  ·clear hm hkont1; intro hk1 mx1 K ihx1
   rintro ⟨u2, l1⟩ a wx6 hm ⟨Fx1, as1, ns1, cs1, xss1, hF1, hx3, hs1, hax3⟩
   simp only [b7x] at hm
   refine a1i hax3 ?_
   refine a0f (a0f (a0a (a0e rfl rfl rfl ?_)))
   refine a0u rfl rfl rfl rfl rfl ?_
   refine a0c (a0d ?_)
   rcases a0g hm with ⟨hb2, hm⟩ | ⟨hb2, hm⟩
   ·refine a0t 13 rfl hb2 ?_
    refine a0y rfl (a1e (a0d (a0f (a1g (a0a (a0e rfl rfl rfl (a0e rfl rfl rfl ?_)))))))
    refine a0u rfl rfl rfl rfl rfl ?_
    refine c0z u116 u3 rfl rfl rfl ?_
    refine a1q (e := 3) (cs := [.int .i64 (IntKind.i64.wrap (iand .u64 u2 1048575))]) (q := 1) rfl rfl hx3 rfl (fun _ => by kernel_rfl) rfl rfl ?_
    intro b2 wx7 hx8
    obtain ⟨l3, hr1, hm⟩ := bind_some hm
    refine a9n (r := (Rp.int .i64)) ap28 rfl rfl hx8 rfl rfl (i := 1) (j := 0) rfl rfl hs1 ((show RowN (Rp.int .i64) Fx1 1 [.int .i64 (IntKind.i64.wrap (iand .u64 u2 1048575))] [IntKind.i64.wrap (iand .u64 u2 1048575)] from ⟨rfl, ⟨_, _, rfl, rfl, (rfl : RowR (Rp.int .i64) _ [] [])⟩⟩)) hr1 ?_
    intro as4 cs4 wx8 hx9 hs4
    refine a0b rfl rfl rfl (a0c (a1m (a0d (a0a (a0e rfl rfl rfl ?_)))))
    obtain ⟨q1, hq1, hm⟩ := bind_some hm
    refine c4g rfl rfl rfl rfl hq1 ?_
    refine a0b rfl rfl rfl (a0c ?_)
    refine a0n (fun a ha => ihx1 (q1, l3) a _ hm ?_)
    exact ⟨_, as4, (ns1 + 1), cs4, (xss1 ++ [.int .i64 (IntKind.i64.wrap (iand .u64 u2 1048575))]), hF1, hx9.pick [1, 2] (by decide) rfl, hs4, ha.cut (l := [2, 3, 4, 5]) rfl⟩
   ·refine a0t 13 rfl hb2 ?_
    refine a0s rfl (a3u (a0w (a0w ?_)))
    refine fun a ha => hk1 l1 a _ hm ?_
    exact ⟨_, as1, ns1, cs1, xss1, hF1, hx3.pick [0, 1] (by decide) rfl, hs1, ha.cut (l := [2, 3, 5]) rfl⟩
 ·clear hm
  rcases a0g hb1 with ⟨hb3, hb1⟩ | ⟨hb3, hb1⟩
  ·refine a0t 9 rfl hb3 ?_
   refine a0y rfl (a0a (a0e rfl rfl rfl ?_))
   refine c3x rfl rfl rfl ?_
   refine a0b rfl rfl rfl (a0b rfl rfl rfl (a0c ?_))
   refine a0n (fun a ha => ?_)
   cases hb1
   exact ⟨rfl, ha.cut (l := [2, 3, 4]) rfl⟩
  ·refine a0t 9 rfl hb3 ?_
   refine a0s rfl (a1e ?_)
   refine a0n (fun a ha => ?_)
   cases hb1
   exact ⟨rfl, ha.cut (l := [2, 3, 4]) rfl⟩
def a9c (n : Nat) (ax1 : Big) (kont1 : Int → Option (Int × Bool)) : Nat → Int → Int → Option (Int × Bool)
 | 0, _, _ => none
 | mx1 + 1, u1, i1 =>
  bif decide (i1 < (ax1.Digits.length : Int)) then
   (ix ax1.Digits i1).bind fun ex1 =>
   (bif i1 == 3 then
    some (decide (8 < ex1))
   else
    some false).bind fun v5 =>
   bif v5 then
    some (0, false)
   else
    (shl .u64 (IntKind.u64.wrap ex1) (imul .i64 20 i1)).bind fun q1 =>
    a9c n ax1 kont1 mx1 (ior .u64 u1 q1) (iadd .i64 i1 1)
  else
   kont1 u1
theorem b2o (n : Nat) (ax1 : Big) (kont1 : Int → Option (Int × Bool)) (mx1 : Nat) (u1 : Int) (i1 : Int) : a9c n ax1 kont1 (mx1 + 1) u1 i1 =
  bif decide (i1 < (ax1.Digits.length : Int)) then
   (ix ax1.Digits i1).bind fun ex1 =>
   (bif i1 == 3 then
    some (decide (8 < ex1))
   else
    some false).bind fun v5 =>
   bif v5 then
    some (0, false)
   else
    (shl .u64 (IntKind.u64.wrap ex1) (imul .i64 20 i1)).bind fun q1 =>
    a9c n ax1 kont1 mx1 (ior .u64 u1 q1) (iadd .i64 i1 1)
  else
   kont1 u1 := rfl
def b7o (n : Nat) (ax1 : Big) : Option (Int × Bool) :=
 (a3p n ax1).bind fun v1 =>
 (bif !v1 then
  some true
 else
  some (decide (4 < (ax1.Digits.length : Int)))).bind fun v2 =>
 bif v2 then
  some (0, false)
 else
  a9c n ax1 (fun (u2 : Int) =>
   (bif decide (ax1.Sign < 0) then
    some (decide (u2 ≤ 9223372036854775808))
   else
    some false).bind fun v3 =>
   bif v3 then
    some (IntKind.i64.wrap (IntKind.u64.wrap (0 - u2)), true)
   else
    (bif decide (0 ≤ ax1.Sign) then
     some (decide (u2 < 9223372036854775808))
    else
     some false).bind fun v4 =>
    bif v4 then
     some (IntKind.i64.wrap u2, true)
    else
     some (0, false)) n 0 0
set_option maxHeartbeats 1000000 in
set_option maxRecDepth 1000000 in
theorem c3t (n : Nat) (ax1 : Big) (r : (Int × Bool)) (hm : b7o n ax1 = some r) {w : World} {F : Frz} (hs : Sat F w) {as1 : Option Addr} {ns1 : Nat} {cs1 : Nat} (hs1 : SlR (Rp.int .i64) F as1 ns1 cs1 ax1.Digits) :
  Calls Tryz.prog 83 #[.agg #[.int .i64 ax1.Sign, .slice as1 ns1 cs1]] w fun e w' => ∃ v F' O', e = .returned v ∧ HS F w [] F' O' w' ∧ (v = .tuple #[.int .i64 r.1, .bool r.2] ∧ O' = []) := by
 unfold b7o at hm
 have h := HS.init hs
 refine a1a 59 Tryz.func83 rfl rfl rfl ?_
 refine a0f (a0a ?_)
 refine a2t rfl rfl rfl rfl h ?_
 intro b1 wx1 hx1
 refine a0b rfl rfl rfl (a0b rfl rfl rfl (a0c (a0d (a0f (a0f (a0a ?_))))))
 refine a0l ag35 sz35 rfl rfl hx1 rfl (i := 0) rfl rfl ?_
 obtain ⟨v1, hv1, hm⟩ := bind_some hm
 refine a0i ent44 rfl rfl rfl rfl hx1 (a3f _ _ _ hv1 hx1.sat hs1) ?_
 rintro _ Fx1 _ wx2 hF1 hx2 ⟨rfl, rfl⟩
 refine a4g rfl rfl rfl (a0e rfl rfl rfl ?_)
 obtain ⟨v2, hb1, hm⟩ := bind_some hm
 refine a2r 5 (fun a w' => wx2 = w' ∧ Has 59 a [(1, .pointer (some ⟨b1, 0, none⟩)), (15, .bool v2)]) ?_ ?_
 ·rintro a wx3 ⟨rfl, hax1⟩
  refine a1f hax1 ?_
  refine a0c (a0d ?_)
  rcases a0g hm with ⟨hb2, hm⟩ | ⟨hb2, hm⟩
  ·refine a0t 15 rfl hb2 ?_
   refine a0y rfl (a0f (a0a (a0b rfl rfl rfl (a0b rfl rfl rfl (a0c (a0d (a1d (a0k ?_))))))))
   refine a1v (vl := [.int .i64 0, .bool false]) rfl ⟨a1z rfl, a1z rfl, trivial⟩ (by simp) ?_
   obtain rfl := Option.some.inj hm
   exact ⟨_, _, _, rfl, hx2.pick [] (by decide) rfl, rfl, rfl⟩
  ·refine a0t 15 rfl hb2 ?_
   refine a0s rfl (a1e (a0d (a0f (a0a (a0b rfl rfl rfl (a0c (a0d (a0f (a0f (a0a ?_))))))))))
   refine a0h fa35_1 rfl rfl rfl ?_
   refine a0r ag28 rfl rfl hx2 rfl (i := 0) rfl rfl ?_
   refine a1u hs1.len u28 rfl rfl rfl ?_
   refine a0e rfl rfl rfl (a0c (a0d (a1g ?_)))
   intro a hax7
   obtain ⟨kont1, hkont1⟩ : ∃ kont1 : Int → Option (Int × Bool), kont1 = (fun (u2 : Int) =>
       (bif decide (ax1.Sign < 0) then
        some (decide (u2 ≤ 9223372036854775808))
       else
        some false).bind fun v3 =>
       bif v3 then
        some (IntKind.i64.wrap (IntKind.u64.wrap (0 - u2)), true)
       else
        (bif decide (0 ≤ ax1.Sign) then
         some (decide (u2 < 9223372036854775808))
        else
         some false).bind fun v4 =>
        bif v4 then
         some (IntKind.i64.wrap u2, true)
        else
         some (0, false)) := ⟨_, rfl⟩
   replace hm : (fun m (s : Int × Int) => a9c n ax1 kont1 m s.1 s.2) n (0, 0) = some r := by rw [hkont1]; exact hm
   refine a5w (id := 0) (fun m (s : Int × Int) => a9c n ax1 kont1 m s.1 s.2) (fun (y : Int) => kont1 y) r (fun (s : Int × Int) a w' => wx2 = w' ∧ Has 59 a [(1, .pointer (some ⟨b1, 0, none⟩)), (4, .int .u64 s.1), (17, .slice as1 ns1 cs1), (18, .int .i64 (ax1.Digits.length : Int)), (19, .int .i64 s.2)]) (fun (y : Int) a w' => wx2 = w' ∧ Has 59 a [(1, .pointer (some ⟨b1, 0, none⟩)), (4, .int .u64 y)]) (fun _ => rfl) ?_ ?_ hm ⟨rfl, hax7.cut (l := [1, 4, 17, 18, 19]) rfl⟩
   ·clear hm; rintro u2 a wx4 hm ⟨rfl, hax2⟩
    rw [hkont1] at hm
    replace hm := hm
    refine a2f (e := .exit 0) hax2 ?_
    refine a1k (a0d (a0f (a1g (a0f (a0a ?_)))))
    refine a0h fa35_0 rfl rfl rfl ?_
    refine a0r ag3 rfl rfl hx2 rfl (i := 0) rfl rfl ?_
    refine a0u rfl rfl rfl rfl rfl ?_
    refine a0e rfl rfl rfl ?_
    obtain ⟨v3, hb3, hm⟩ := bind_some hm
    refine a2r 3 (fun a w' => wx2 = w' ∧ Has 59 a [(1, .pointer (some ⟨b1, 0, none⟩)), (4, .int .u64 u2), (45, .bool v3)]) ?_ ?_
    ·rintro a wx5 ⟨rfl, hax3⟩
     refine a1f hax3 ?_
     refine a0b rfl rfl rfl (a0c (a0d ?_))
     rcases a0g hm with ⟨hb4, hm⟩ | ⟨hb4, hm⟩
     ·refine a0t 38 rfl hb4 ?_
      refine a0y rfl (a0f (a0a (a0e rfl rfl rfl ?_)))
      refine c3x rfl rfl rfl ?_
      refine c0z u116 u3 rfl rfl rfl ?_
      refine a0b rfl rfl rfl (a0b rfl rfl rfl (a0c (a0d (a1d (a0x (a0k ?_))))))
      refine a1v (vl := [.int .i64 (IntKind.i64.wrap (IntKind.u64.wrap (0 - u2))), .bool true]) rfl ⟨a1z rfl, a1z rfl, trivial⟩ (by simp) ?_
      obtain rfl := Option.some.inj hm
      exact ⟨_, _, _, rfl, hx2.pick [] (by decide) rfl, rfl, rfl⟩
     ·refine a0t 38 rfl hb4 ?_
      refine a0s rfl (a0f (a0a ?_))
      refine a0h fa35_0 rfl rfl rfl ?_
      refine a0r ag3 rfl rfl hx2 rfl (i := 0) rfl rfl ?_
      refine a0u rfl rfl rfl rfl rfl ?_
      refine a0e rfl rfl rfl ?_
      obtain ⟨v4, hb5, hm⟩ := bind_some hm
      refine a2r 3 (fun a w' => wx2 = w' ∧ Has 59 a [(4, .int .u64 u2), (56, .bool v4)]) ?_ ?_
      ·rintro a wx6 ⟨rfl, hax4⟩
       refine a1f hax4 ?_
       refine a0b rfl rfl rfl (a0c (a0d ?_))
       rcases a0g hm with ⟨hb6, hm⟩ | ⟨hb6, hm⟩
       ·refine a0t 49 rfl hb6 ?_
        refine a0y rfl (a0f (a0a (a0e rfl rfl rfl ?_)))
        refine c0z u116 u3 rfl rfl rfl ?_
        refine a0b rfl rfl rfl (a0b rfl rfl rfl (a0c (a0d (a1d (a0x (a0k ?_))))))
        refine a1v (vl := [.int .i64 (IntKind.i64.wrap u2), .bool true]) rfl ⟨a1z rfl, a1z rfl, trivial⟩ (by simp) ?_
        obtain rfl := Option.some.inj hm
        exact ⟨_, _, _, rfl, hx2.pick [] (by decide) rfl, rfl, rfl⟩
       ·refine a0t 49 rfl hb6 ?_
        refine a0s rfl (a1e (a1m (a0d (a0f (a0a (a0b rfl rfl rfl (a0b rfl rfl rfl (a0c (a0d (a1d ?_))))))))))
        refine a1v (vl := [.int .i64 0, .bool false]) rfl ⟨a1z rfl, a1z rfl, trivial⟩ (by simp) ?_
        obtain rfl := Option.some.inj hm
        exact ⟨_, _, _, rfl, hx2.pick [] (by decide) rfl, rfl, rfl⟩
      ·clear hm
       rcases a0g hb5 with ⟨hb7, hb5⟩ | ⟨hb7, hb5⟩
       ·refine a1j 53 rfl hb7 ?_
        refine a0e rfl rfl rfl ?_
        refine a0u rfl rfl rfl rfl rfl ?_
        refine a0q rfl rfl rfl rfl (a0c ?_)
        refine a0n (fun a ha => ?_)
        cases hb5
        exact ⟨rfl, ha.cut (l := [4, 56]) rfl⟩
       ·refine a1j 53 rfl hb7 ?_
        refine a0z rfl (by decide) rfl (a0z rfl (by decide) rfl (a0m rfl rfl rfl rfl (a0c ?_)))
        refine a0n (fun a ha => ?_)
        cases hb5
        exact ⟨rfl, ha.cut (l := [4, 56]) rfl⟩
    ·clear hm
     rcases a0g hb3 with ⟨hb8, hb3⟩ | ⟨hb8, hb3⟩
     ·refine a1j 42 rfl hb8 ?_
      refine a0e rfl rfl rfl ?_
      refine a0u rfl rfl rfl rfl rfl ?_
      refine a0q rfl rfl rfl rfl (a0c ?_)
      refine a0n (fun a ha => ?_)
      cases hb3
      exact ⟨rfl, ha.cut (l := [1, 4, 45]) rfl⟩
     ·refine a1j 42 rfl hb8 ?_
      refine a0z rfl (by decide) rfl (a0z rfl (by decide) rfl (a0m rfl rfl rfl rfl (a0c ?_)))
      refine a0n (fun a ha => ?_)
      cases hb3
      exact ⟨rfl, ha.cut (l := [1, 4, 45]) rfl⟩
   ·clear hm hkont1; intro hk1 mx1 K ihx1
    rintro ⟨u1, i1⟩ a wx7 hm ⟨rfl, hax5⟩
    simp only [b2o] at hm
    refine a1i hax5 ?_
    refine a0f (a0a ?_)
    refine a0u rfl rfl rfl rfl rfl ?_
    refine a0c (a0d (a0f ?_))
    rcases a0g hm with ⟨hb9, hm⟩ | ⟨hb9, hm⟩
    ·refine a0t 20 rfl hb9 ?_
     refine a0y rfl (a1e (a0d (a0f (a1g (a0f (a0a (a0e rfl rfl rfl ?_)))))))
     obtain ⟨ex1, he1, hm⟩ := bind_some hm
     refine a2n (r := (Rp.int .i64)) u28 sz3 rfl rfl rfl rfl (hs1.mono hF1) he1 ?_
     intro b2 o1 cs1 hf1 hr1
     have hc1 : cs1 = [.int .i64 ex1] := hr1
     subst hc1
     refine a2h (j := 0) ag3 rfl rfl hx2 hf1 rfl rfl ?_
     refine a0b rfl rfl rfl (a0b rfl rfl rfl (a0c (a0d (a0f (a0f (a0a (a0e rfl rfl rfl ?_)))))))
     refine a0u rfl rfl rfl rfl rfl ?_
     refine a0e rfl rfl rfl ?_
     obtain ⟨v5, hb10, hm⟩ := bind_some hm
     refine a2r 3 (fun a w' => wx2 = w' ∧ Has 59 a [(1, .pointer (some ⟨b1, 0, none⟩)), (4, .int .u64 u1), (5, .int .i64 i1), (6, .int .i64 ex1), (17, .slice as1 ns1 cs1), (18, .int .i64 (ax1.Digits.length : Int)), (19, .int .i64 i1), (29, .bool v5)]) ?_ ?_
     ·rintro a wx8 ⟨rfl, hax6⟩
      refine a1f hax6 ?_
      refine a0c (a0d ?_)
      rcases a0g hm with ⟨hb11, hm⟩ | ⟨hb11, hm⟩
      ·refine a0t 29 rfl hb11 ?_
       refine a0y rfl (a0f (a0a (a0b rfl rfl rfl (a0b rfl rfl rfl (a0c (a0d (a1d (a0k (a0x (a0k (a0k (a0x (a0k ?_)))))))))))))
       refine a1v (vl := [.int .i64 0, .bool false]) rfl ⟨a1z rfl, a1z rfl, trivial⟩ (by simp) ?_
       obtain rfl := Option.some.inj hm
       exact ⟨_, _, _, rfl, hx2.pick [] (by decide) rfl, rfl, rfl⟩
      ·refine a0t 29 rfl hb11 ?_
       refine a0s rfl (a1e (a0d (a0a (a0e rfl rfl rfl (a0e rfl rfl rfl ?_)))))
       refine c0z u3 u116 rfl rfl rfl ?_
       refine a0e rfl rfl rfl ?_
       refine a0u rfl rfl rfl rfl rfl ?_
       obtain ⟨q1, hq1, hm⟩ := bind_some hm
       refine c7x rfl rfl rfl rfl hq1 ?_
       refine a0u rfl rfl rfl rfl rfl ?_
       refine a0b rfl rfl rfl (a0c (a1m (a0d (a0a ?_))))
       refine a0u rfl rfl rfl rfl rfl ?_
       refine a0e rfl rfl rfl (a0c ?_)
       refine a0n (fun a ha => ihx1 ((ior .u64 u1 q1), (iadd .i64 i1 1)) a _ hm ?_)
       exact ⟨rfl, ha.cut (l := [1, 4, 17, 18, 19]) rfl⟩
     ·clear hm
      rcases a0g hb10 with ⟨hb12, hb10⟩ | ⟨hb12, hb10⟩
      ·refine a1j 26 rfl hb12 ?_
       refine a0e rfl rfl rfl ?_
       refine a0u rfl rfl rfl rfl rfl ?_
       refine a0q rfl rfl rfl rfl (a0c ?_)
       refine a0n (fun a ha => ?_)
       cases hb10
       exact ⟨rfl, ha.cut (l := [1, 4, 5, 6, 17, 18, 19, 29]) rfl⟩
      ·refine a1j 26 rfl hb12 ?_
       refine a0z rfl (by decide) rfl (a0z rfl (by decide) rfl (a0m rfl rfl rfl rfl (a0c ?_)))
       refine a0n (fun a ha => ?_)
       cases hb10
       exact ⟨rfl, ha.cut (l := [1, 4, 5, 6, 17, 18, 19, 29]) rfl⟩
    ·refine a0t 20 rfl hb9 ?_
     refine a0s rfl (a3u (a0w (a0w ?_)))
     refine fun a ha => hk1 u1 a _ hm ?_
     exact ⟨rfl, ha.cut (l := [1, 4]) rfl⟩
 ·clear hm
  rcases a0g hb1 with ⟨hb13, hb1⟩ | ⟨hb13, hb1⟩
  ·refine a1j 10 rfl hb13 ?_
   refine a0z rfl (by decide) rfl (a0z rfl (by decide) rfl (a0z rfl (by decide) rfl (a0z rfl (by decide) rfl (a0q rfl rfl rfl rfl (a0c ?_)))))
   refine a0n (fun a ha => ?_)
   cases hb1
   exact ⟨rfl, ha.cut (l := [1, 15]) rfl⟩
  ·refine a1j 10 rfl hb13 ?_
   refine a0h fa35_1 rfl rfl rfl ?_
   refine a0r ag28 rfl rfl hx2 rfl (i := 0) rfl rfl ?_
   refine a1u hs1.len u28 rfl rfl rfl ?_
   refine a0u rfl rfl rfl rfl rfl ?_
   refine a0m rfl rfl rfl rfl (a0c ?_)
   refine a0n (fun a ha => ?_)
   cases hb1
   exact ⟨rfl, ha.cut (l := [1, 15]) rfl⟩
end Go.Proofs.YtknpjecpcmajiaaGreat.M

