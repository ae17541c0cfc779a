/- Several texts in one, for FeeTurns.card: what the theorem leans on. -/
import Derived.Test.YtknpjecpcmajiaaGreatDoorRows
import Derived.Test.YtknpjecpcmajiaaGreatDoorPk1
set_option maxHeartbeats 1000000
set_option maxRecDepth 1000000
namespace Go.Proofs.YtknpjecpcmajiaaGreatDoor.M
open Go Go.RowKit Rt
def a6y (_n : Nat) (c1 : Int) : Option Bool :=
 (bif c1 == 32 then
  some true
 else
  some (c1 == 9)).bind fun v1 =>
 (bif v1 then
  some true
 else
  some (c1 == 10)).bind fun v2 =>
 some v2
theorem c0z (n : Nat) (c1 : Int) (r : Bool) (hm : a6y n c1 = some r) {w : World}  :
  Calls Tryz.prog 90 #[.int .u8 c1] w fun e w' => e = .returned (.bool r) ∧ w' = w := by
 unfold a6y at hm
 refine a1a 13 Tryz.func90 Y Y Y (a0g (a0a (a0b Y Y Y (a0e (a0c (a0g (a0a (a0d Y Y Y (a0u Y Y Y Y Y (a0d Y Y Y ?_))))))))))
 obtain ⟨v1, g, hm⟩ := Yb hm
 refine a2g 3 (fun a w' => w = w' ∧ Has 13 a [(0, .int .u8 c1), (8, .bool v1)]) ?_ ?_
 rintro a o ⟨rfl, k⟩
 refine a1d k (a0d Y Y Y ?_)
 obtain ⟨v2, h, hm⟩ := Yb hm
 refine a2g 3 (fun a w' => w = w' ∧ Has 13 a [(12, .bool v2)]) ?_ ?_
 rintro a p ⟨rfl, m⟩
 refine a1d m (a0b Y Y Y (a0e (a0c (a1c (a1n Y Y ?_)))))
 obtain rfl := Yo hm
 exact ⟨Y, Y⟩
 clear hm
 rcases a0h h with ⟨i, h⟩ | ⟨i, h⟩
 refine a1k 9 Y i (a0y Y (by decide) Y (a0y Y (by decide) Y (a0s Y Y Y Y (a0e (a0k (fun a ha => ?_))))))
 cases h
 exact ⟨Y, ha.cut (l := [12]) Y⟩
 refine a1k 9 Y i (a0d Y Y Y (a0u Y Y Y Y Y (a0m Y Y Y Y (a0e (a0k (fun a ha => ?_))))))
 cases h
 exact ⟨Y, ha.cut (l := [12]) Y⟩
 clear hm
 rcases a0h g with ⟨j, g⟩ | ⟨j, g⟩
 refine a1k 5 Y j (a0y Y (by decide) Y (a0y Y (by decide) Y (a0s Y Y Y Y (a0e (a0k (fun a ha => ?_))))))
 cases g
 exact ⟨Y, ha.cut (l := [0, 8]) Y⟩
 refine a1k 5 Y j (a0d Y Y Y (a0u Y Y Y Y Y (a0m Y Y Y Y (a0e (a0k (fun a ha => ?_))))))
 cases g
 exact ⟨Y, ha.cut (l := [0, 8]) Y⟩
def a7t (_n : Nat) (c1 : Int) : Option Bool :=
 (bif decide (97 ≤ c1) then
  some (decide (c1 ≤ 122))
 else
  some false).bind fun v1 =>
 (bif v1 then
  some true
 else
  (bif decide (65 ≤ c1) then
   some (decide (c1 ≤ 90))
  else
   some false).bind fun v3 =>
  some v3).bind fun v2 =>
 some v2
theorem b1i (n : Nat) (c1 : Int) (r : Bool) (hm : a7t n c1 = some r) {w : World}  :
  Calls Tryz.prog 85 #[.int .u8 c1] w fun e w' => e = .returned (.bool r) ∧ w' = w := by
 unfold a7t at hm
 refine a1a 17 Tryz.func85 Y Y Y (a0g (a0a (a0b Y Y Y (a0e (a0c (a0g (a0a (a0d Y Y Y (a0u Y Y Y Y Y (a0d Y Y Y ?_))))))))))
 obtain ⟨v1, h, hm⟩ := Yb hm
 refine a2g 3 (fun a w' => w = w' ∧ Has 17 a [(0, .int .u8 c1), (8, .bool v1)]) ?_ ?_
 rintro a s ⟨rfl, o⟩
 refine a1d o (a0d Y Y Y ?_)
 obtain ⟨v2, g, hm⟩ := Yb hm
 refine a2g 7 (fun a w' => w = w' ∧ Has 17 a [(16, .bool v2)]) ?_ ?_
 rintro a t ⟨rfl, p⟩
 refine a1d p (a0b Y Y Y (a0e (a0c (a1c (a1n Y Y ?_)))))
 obtain rfl := Yo hm
 exact ⟨Y, Y⟩
 clear hm
 rcases a0h g with ⟨j, g⟩ | ⟨j, g⟩
 refine a1k 9 Y j (a0y Y (by decide) Y (a0y Y (by decide) Y (a0y Y (by decide) Y (a0y Y (by decide) Y (a0y Y (by decide) Y (a0y Y (by decide) Y (a0s Y Y Y Y (a0e (a0k (fun a ha => ?_))))))))))
 cases g
 exact ⟨Y, ha.cut (l := [16]) Y⟩
 refine a1k 9 Y j (a0d Y Y Y (a0u Y Y Y Y Y (a0d Y Y Y ?_)))
 obtain ⟨v3, i, g⟩ := Yb g
 refine a2g 3 (fun a w' => w = w' ∧ Has 17 a [(9, .bool false), (15, .bool v3)]) ?_ ?_
 rintro a u ⟨rfl, q⟩
 refine a1d q (a0m Y Y Y Y (a0e (a0k (fun a ha => ?_))))
 cases g
 exact ⟨Y, ha.cut (l := [16]) Y⟩
 clear g
 rcases a0h i with ⟨k, i⟩ | ⟨k, i⟩
 refine a1k 12 Y k (a0d Y Y Y (a0u Y Y Y Y Y (a0s Y Y Y Y (a0e (a0k (fun a ha => ?_))))))
 cases i
 exact ⟨Y, ha.cut (l := [9, 15]) Y⟩
 refine a1k 12 Y k (a0y Y (by decide) Y (a0y Y (by decide) Y (a0m Y Y Y Y (a0e (a0k (fun a ha => ?_))))))
 cases i
 exact ⟨Y, ha.cut (l := [9, 15]) Y⟩
 clear hm
 rcases a0h h with ⟨m, h⟩ | ⟨m, h⟩
 refine a1k 5 Y m (a0d Y Y Y (a0u Y Y Y Y Y (a0s Y Y Y Y (a0e (a0k (fun a ha => ?_))))))
 cases h
 exact ⟨Y, ha.cut (l := [0, 8]) Y⟩
 refine a1k 5 Y m (a0y Y (by decide) Y (a0y Y (by decide) Y (a0m Y Y Y Y (a0e (a0k (fun a ha => ?_))))))
 cases h
 exact ⟨Y, ha.cut (l := [0, 8]) Y⟩
def a7b (_n : Nat) (c1 : Int) : Option Bool :=
 (bif decide (48 ≤ c1) then
  some (decide (c1 ≤ 57))
 else
  some false).bind fun v1 =>
 some v1
theorem b2m (n : Nat) (c1 : Int) (r : Bool) (hm : a7b n c1 = some r) {w : World}  :
  Calls Tryz.prog 91 #[.int .u8 c1] w fun e w' => e = .returned (.bool r) ∧ w' = w := by
 unfold a7b at hm
 refine a1a 9 Tryz.func91 Y Y Y (a0g (a0a (a0b Y Y Y (a0e (a0c (a0g (a0a (a0d Y Y Y (a0u Y Y Y Y Y (a0d Y Y Y ?_))))))))))
 obtain ⟨v1, g, hm⟩ := Yb hm
 refine a2g 3 (fun a w' => w = w' ∧ Has 9 a [(8, .bool v1)]) ?_ ?_
 rintro a j ⟨rfl, i⟩
 refine a1d i (a0b Y Y Y (a0e (a0c (a1c (a1n Y Y ?_)))))
 obtain rfl := Yo hm
 exact ⟨Y, Y⟩
 clear hm
 rcases a0h g with ⟨h, g⟩ | ⟨h, g⟩
 refine a1k 5 Y h (a0d Y Y Y (a0u Y Y Y Y Y (a0s Y Y Y Y (a0e (a0k (fun a ha => ?_))))))
 cases g
 exact ⟨Y, ha.cut (l := [8]) Y⟩
 refine a1k 5 Y h (a0y Y (by decide) Y (a0y Y (by decide) Y (a0m Y Y Y Y (a0e (a0k (fun a ha => ?_))))))
 cases g
 exact ⟨Y, ha.cut (l := [8]) Y⟩
theorem ent85 : Ent Tryz.prog 85 := fun _ _ => by kernel_rfl
theorem ent91 : Ent Tryz.prog 91 := fun _ _ => by kernel_rfl
def a8u (n : Nat) (c1 : Int) : Option Bool :=
 (a7t n c1).bind fun v1 =>
 (bif v1 then
  some true
 else
  (a7b n c1).bind fun v4 =>
  some v4).bind fun v2 =>
 (bif v2 then
  some true
 else
  some (c1 == 95)).bind fun v3 =>
 some v3
theorem c0t (n : Nat) (c1 : Int) (r : Bool) (hm : a8u n c1 = some r) {w : World}  :
  Calls Tryz.prog 87 #[.int .u8 c1] w fun e w' => e = .returned (.bool r) ∧ w' = w := by
 unfold a8u at hm
 refine a1a 13 Tryz.func87 Y Y Y (a0g (a0a (a0b Y Y Y (a0e (a0c (a0g (a0a (a0d Y Y Y ?_))))))))
 obtain ⟨v1, o, hm⟩ := Yb hm
 refine a2t ent85 Y Y Y Y (b1i _ _ _ o) (a0d Y Y Y ?_)
 obtain ⟨v2, g, hm⟩ := Yb hm
 refine a2g 3 (fun a w' => w = w' ∧ Has 13 a [(0, .int .u8 c1), (8, .bool v2)]) ?_ ?_
 rintro a q ⟨rfl, k⟩
 refine a1d k (a0d Y Y Y ?_)
 obtain ⟨v3, h, hm⟩ := Yb hm
 refine a2g 3 (fun a w' => w = w' ∧ Has 13 a [(12, .bool v3)]) ?_ ?_
 rintro a s ⟨rfl, m⟩
 refine a1d m (a0b Y Y Y (a0e (a0c (a1c (a1n Y Y ?_)))))
 obtain rfl := Yo hm
 exact ⟨Y, Y⟩
 clear hm
 rcases a0h h with ⟨i, h⟩ | ⟨i, h⟩
 refine a1k 9 Y i (a0y Y (by decide) Y (a0y Y (by decide) Y (a0s Y Y Y Y (a0e (a0k (fun a ha => ?_))))))
 cases h
 exact ⟨Y, ha.cut (l := [12]) Y⟩
 refine a1k 9 Y i (a0d Y Y Y (a0u Y Y Y Y Y (a0m Y Y Y Y (a0e (a0k (fun a ha => ?_))))))
 cases h
 exact ⟨Y, ha.cut (l := [12]) Y⟩
 clear hm
 rcases a0h g with ⟨j, g⟩ | ⟨j, g⟩
 refine a1k 5 Y j (a0y Y (by decide) Y (a0y Y (by decide) Y (a0s Y Y Y Y (a0e (a0k (fun a ha => ?_))))))
 cases g
 exact ⟨Y, ha.cut (l := [0, 8]) Y⟩
 refine a1k 5 Y j (a0d Y Y Y ?_)
 obtain ⟨v4, p, g⟩ := Yb g
 refine a2t ent91 Y Y Y Y (b2m _ _ _ p) (a0m Y Y Y Y (a0e (a0k (fun a ha => ?_))))
 cases g
 exact ⟨Y, ha.cut (l := [0, 8]) Y⟩
def b0a (_n : Nat) (c1 : Int) : Option Bool :=
 (bif decide (32 ≤ c1) then
  some (decide (c1 ≤ 126))
 else
  some false).bind fun v1 =>
 some v1
theorem c0u (n : Nat) (c1 : Int) (r : Bool) (hm : b0a n c1 = some r) {w : World}  :
  Calls Tryz.prog 117 #[.int .u8 c1] w fun e w' => e = .returned (.bool r) ∧ w' = w := by
 unfold b0a at hm
 refine a1a 9 Tryz.func117 Y Y Y (a0g (a0a (a0b Y Y Y (a0e (a0c (a0g (a0a (a0d Y Y Y (a0u Y Y Y Y Y (a0d Y Y Y ?_))))))))))
 obtain ⟨v1, g, hm⟩ := Yb hm
 refine a2g 3 (fun a w' => w = w' ∧ Has 9 a [(8, .bool v1)]) ?_ ?_
 rintro a j ⟨rfl, i⟩
 refine a1d i (a0b Y Y Y (a0e (a0c (a1c (a1n Y Y ?_)))))
 obtain rfl := Yo hm
 exact ⟨Y, Y⟩
 clear hm
 rcases a0h g with ⟨h, g⟩ | ⟨h, g⟩
 refine a1k 5 Y h (a0d Y Y Y (a0u Y Y Y Y Y (a0s Y Y Y Y (a0e (a0k (fun a ha => ?_))))))
 cases g
 exact ⟨Y, ha.cut (l := [8]) Y⟩
 refine a1k 5 Y h (a0y Y (by decide) Y (a0y Y (by decide) Y (a0m Y Y Y Y (a0e (a0k (fun a ha => ?_))))))
 cases g
 exact ⟨Y, ha.cut (l := [8]) Y⟩
theorem u9 : Tryz.prog.underlying 9 = some .string := by kernel_rfl
def a6p (n : Nat) (s1 : Bs) (isx1 : (Int → Option Bool)) (kont1 : Int → Option Int) : Nat → Int → Option Int
 | 0, _ => none
 | mx1 + 1, nx1 =>
  (bif decide (nx1 < (s1.length : Int)) then
   (sidx s1 nx1).bind fun c1 =>
   (isx1 c1).bind fun v2 =>
   some v2
  else
   some false).bind fun v1 =>
  bif v1 then
   a6p n s1 isx1 kont1 mx1 (iadd .i64 nx1 1)
  else
   kont1 nx1
theorem b1m (n : Nat) (s1 : Bs) (isx1 : (Int → Option Bool)) (kont1 : Int → Option Int) (mx1 : Nat) (nx1 : Int) : a6p n s1 isx1 kont1 (mx1 + 1) nx1 =
  (bif decide (nx1 < (s1.length : Int)) then
   (sidx s1 nx1).bind fun c1 =>
   (isx1 c1).bind fun v2 =>
   some v2
  else
   some false).bind fun v1 =>
  bif v1 then
   a6p n s1 isx1 kont1 mx1 (iadd .i64 nx1 1)
  else
   kont1 nx1 := rfl
def a5r (n : Nat) (s1 : Bs) (isx1 : (Int → Option Bool)) : Option Int :=
 a6p n s1 isx1 (fun (nx2 : Int) =>
  some nx2) n 0
theorem a8i (n : Nat) (s1 : Bs) (isx1 : (Int → Option Bool)) (r : Int) (hm : a5r n s1 isx1 = some r) {w : World} {fvisx1 : Value} (hpfisx1 : PFn Tryz.prog fvisx1 (fun l v => ∃ (q0 : Int) (b : Bool), l = [.int .u8 q0] ∧ v = some (.bool b) ∧ isx1 q0 = some b)) :
  Calls Tryz.prog 86 #[vs s1, fvisx1] w fun e w' => e = .returned (.int .i64 r) ∧ w' = w := by
 unfold a5r at hm
 refine a1a 20 Tryz.func86 Y Y Y (a0g (a0a (a0b Y Y Y (a0e (a0c (a0g (a0a (a0b Y Y Y (a0e (a0c (a0g (a1j ?_))))))))))))
 intro a j
 obtain ⟨kont1, hkont1⟩ : ∃ kont1 : Int → Option Int, kont1 = (fun (nx2 : Int) => some nx2) := ⟨_, Y⟩
 replace hm : (fun m (s : Int) => a6p n s1 isx1 kont1 m s) n 0 = some r := by rw [hkont1]; exact hm
 refine a5j (id := 0) (fun m (s : Int) => a6p n s1 isx1 kont1 m s) (fun (y : Int) => kont1 y) r (fun (s : Int) a w' => w = w' ∧ Has 20 a [(0, vs s1), (1, fvisx1), (5, .int .i64 s)]) (fun (y : Int) a w' => w = w' ∧ Has 20 a [(5, .int .i64 y)]) (fun _ => Y) ?_ ?_ hm ⟨Y, j.cut (l := [0, 1, 5]) Y⟩
 clear hm; rintro nx2 a u hm ⟨rfl, k⟩
 rw [hkont1] at hm
 replace hm := hm
 refine a2c (e := .exit 0) k (a1m (a0c (a0g (a0a (a0d Y Y Y (a0b Y Y Y (a0e (a0c (a1c (a1n Y Y ?_))))))))))
 obtain rfl := Yo hm
 exact ⟨Y, Y⟩
 clear hm hkont1; intro hk1 mx1 K ihx1
 rintro nx1 a x hm ⟨rfl, o⟩
 simp only [b1m] at hm
 refine a1l o (a0g (a0g (a0a (a0d Y Y Y (a0d Y Y Y (b0k u9 Y Y Y (a0u Y Y Y Y Y (a0d Y Y Y ?_))))))))
 obtain ⟨v1, g, hm⟩ := Yb hm
 refine a2g 6 (fun a w' => w = w' ∧ Has 20 a [(0, vs s1), (1, fvisx1), (5, .int .i64 nx1), (16, .bool v1)]) ?_ ?_
 rintro a z ⟨rfl, p⟩
 refine a1d p (a0e (a0c ?_))
 rcases a0h hm with ⟨h, hm⟩ | ⟨h, hm⟩
 refine a0r 16 Y h (a0x Y (a1b (a0c (a1j (a0a (a0d Y Y Y (a0u Y Y Y Y Y (a0b Y Y Y (a0e (a1o (a0k (fun a ha => ihx1 (iadd .i64 nx1 1) a _ hm ?_))))))))))))
 exact ⟨Y, ha.cut (l := [0, 1, 5]) Y⟩
 refine a0r 16 Y h (a0p Y (a3p (a0w (a0w (fun a ha => hk1 nx1 a _ hm ?_)))))
 exact ⟨Y, ha.cut (l := [5]) Y⟩
 clear hm
 rcases a0h g with ⟨i, g⟩ | ⟨i, g⟩
 refine a1k 10 Y i (a0d Y Y Y (a0d Y Y Y (a0d Y Y Y ?_)))
 obtain ⟨c1, q, g⟩ := Yb g
 refine b0t u9 Y Y Y Y q ?_
 obtain ⟨v2, t, g⟩ := Yb g
 refine d3r hpfisx1 Y Y Y Y ⟨_, _, Y, Y, t⟩ (a0s Y Y Y Y (a0e (a0k (fun a ha => ?_))))
 cases g
 exact ⟨Y, ha.cut (l := [0, 1, 5, 16]) Y⟩
 refine a1k 10 Y i (a0y Y (by decide) Y (a0y Y (by decide) Y (a0y Y (by decide) Y (a0y Y (by decide) Y (a0y Y (by decide) Y (a0m Y Y Y Y (a0e (a0k (fun a ha => ?_)))))))))
 cases g
 exact ⟨Y, ha.cut (l := [0, 1, 5, 16]) Y⟩
theorem ent87 : Ent Tryz.prog 87 := fun _ _ => by kernel_rfl
theorem pf87 : ∀ n, PFn Tryz.prog (.func (.func 87) #[] #[]) (fun l v => ∃ (q0 : Int) (b : Bool), l = [.int .u8 q0] ∧ v = some (.bool b) ∧ a8u n q0 = some b) := fun n => ⟨87, #[], #[], rfl, ent87, by
 rintro args v w ⟨q0, b, rfl, hv, hb⟩
 obtain rfl := Option.some.inj hv
 exact c0t n _ _ hb⟩
theorem ent86 : Ent Tryz.prog 86 := fun _ _ => by kernel_rfl
def a5i (n : Nat) (s1 : Bs) : Option Bool :=
 (bif !(s1 == []) then
  (sidx s1 0).bind fun c1 =>
  (a7t n c1).bind fun v5 =>
  some v5
 else
  some false).bind fun v1 =>
 (bif v1 then
  some (decide ((s1.length : Int) ≤ 20))
 else
  some false).bind fun v2 =>
 (bif v2 then
  (a5r n s1 (a8u n)).bind fun v4 =>
  some (v4 == (s1.length : Int))
 else
  some false).bind fun v3 =>
 some v3
theorem b1e (n : Nat) (s1 : Bs) (r : Bool) (hm : a5i n s1 = some r) {w : World}  :
  Calls Tryz.prog 54 #[vs s1] w fun e w' => e = .returned (.bool r) ∧ w' = w := by
 unfold a5i at hm
 refine a1a 22 Tryz.func54 Y Y Y (a0g (a0a (a0b Y Y Y (a0e (a0c (a0g (a0a (a0d Y Y Y (b4m Y Y Y Y Y (a0d Y Y Y ?_))))))))))
 obtain ⟨v1, g, hm⟩ := Yb hm
 refine a2g 4 (fun a w' => w = w' ∧ Has 22 a [(0, vs s1), (9, .bool v1)]) ?_ ?_
 rintro a v ⟨rfl, o⟩
 refine a1d o (a0d Y Y Y ?_)
 obtain ⟨v2, i, hm⟩ := Yb hm
 refine a2g 4 (fun a w' => w = w' ∧ Has 22 a [(0, vs s1), (14, .bool v2)]) ?_ ?_
 rintro a x ⟨rfl, p⟩
 refine a1d p (a0d Y Y Y ?_)
 obtain ⟨v3, h, hm⟩ := Yb hm
 refine a2g 6 (fun a w' => w = w' ∧ Has 22 a [(21, .bool v3)]) ?_ ?_
 rintro a y ⟨rfl, q⟩
 refine a1d q (a0b Y Y Y (a0e (a0c (a1c (a1n Y Y ?_)))))
 obtain rfl := Yo hm
 exact ⟨Y, Y⟩
 clear hm
 rcases a0h h with ⟨j, h⟩ | ⟨j, h⟩
 refine a1k 15 Y j (a0d Y Y Y ?_)
 obtain ⟨v4, s, h⟩ := Yb h
 refine a2t ent86 Y Y Y Y (a8i _ _ _ _ s (pf87 _)) (a0d Y Y Y (b0k u9 Y Y Y (a0u Y Y Y Y Y (a0s Y Y Y Y (a0e (a0k (fun a ha => ?_)))))))
 cases h
 exact ⟨Y, ha.cut (l := [21]) Y⟩
 refine a1k 15 Y j (a0y Y (by decide) Y (a0y Y (by decide) Y (a0y Y (by decide) Y (a0y Y (by decide) Y (a0y Y (by decide) Y (a0m Y Y Y Y (a0e (a0k (fun a ha => ?_)))))))))
 cases h
 exact ⟨Y, ha.cut (l := [21]) Y⟩
 clear hm
 rcases a0h i with ⟨k, i⟩ | ⟨k, i⟩
 refine a1k 10 Y k (a0d Y Y Y (b0k u9 Y Y Y (a0u Y Y Y Y Y (a0s Y Y Y Y (a0e (a0k (fun a ha => ?_)))))))
 cases i
 exact ⟨Y, ha.cut (l := [0, 14]) Y⟩
 refine a1k 10 Y k (a0y Y (by decide) Y (a0y Y (by decide) Y (a0y Y (by decide) Y (a0m Y Y Y Y (a0e (a0k (fun a ha => ?_)))))))
 cases i
 exact ⟨Y, ha.cut (l := [0, 14]) Y⟩
 clear hm
 rcases a0h g with ⟨m, g⟩ | ⟨m, g⟩
 refine a1k 5 Y m (a0d Y Y Y ?_)
 obtain ⟨c1, t, g⟩ := Yb g
 refine b0t u9 Y Y Y Y t ?_
 obtain ⟨v5, u, g⟩ := Yb g
 refine a2t ent85 Y Y Y Y (b1i _ _ _ u) (a0s Y Y Y Y (a0e (a0k (fun a ha => ?_))))
 cases g
 exact ⟨Y, ha.cut (l := [0, 9]) Y⟩
 refine a1k 5 Y m (a0y Y (by decide) Y (a0y Y (by decide) Y (a0y Y (by decide) Y (a0m Y Y Y Y (a0e (a0k (fun a ha => ?_)))))))
 cases g
 exact ⟨Y, ha.cut (l := [0, 9]) Y⟩
theorem u5 : Tryz.prog.underlying 5 = some (.int .u8) := by kernel_rfl
theorem u3 : Tryz.prog.underlying 3 = some (.int .i64) := by kernel_rfl
theorem pf91 : ∀ n, PFn Tryz.prog (.func (.func 91) #[] #[]) (fun l v => ∃ (q0 : Int) (b : Bool), l = [.int .u8 q0] ∧ v = some (.bool b) ∧ a7b n q0 = some b) := fun n => ⟨91, #[], #[], rfl, ent91, by
 rintro args v w ⟨q0, b, rfl, hv, hb⟩
 obtain rfl := Option.some.inj hv
 exact b2m n _ _ hb⟩
def a5m (n : Nat) (s1 : Bs) (kont1 : Int → Option (Int × Bool)) : Nat → Int → Int → Option (Int × Bool)
 | 0, _, _ => none
 | mx1 + 1, nx1, i1 =>
  bif decide (i1 < (s1.length : Int)) then
   (sidx s1 i1).bind fun c1 =>
   a5m n s1 kont1 mx1 (iadd .i64 (imul .i64 10 nx1) (IntKind.i64.wrap (isub .u8 c1 48))) (iadd .i64 i1 1)
  else
   kont1 nx1
theorem b0d (n : Nat) (s1 : Bs) (kont1 : Int → Option (Int × Bool)) (mx1 : Nat) (nx1 : Int) (i1 : Int) : a5m n s1 kont1 (mx1 + 1) nx1 i1 =
  bif decide (i1 < (s1.length : Int)) then
   (sidx s1 i1).bind fun c1 =>
   a5m n s1 kont1 mx1 (iadd .i64 (imul .i64 10 nx1) (IntKind.i64.wrap (isub .u8 c1 48))) (iadd .i64 i1 1)
  else
   kont1 nx1 := rfl
def b0r (n : Nat) (s1 : Bs) : Option (Int × Bool) :=
 (bif s1 == [] then
  some true
 else
  (a5r n s1 (a7b n)).bind fun v5 =>
  some (v5 != (s1.length : Int))).bind fun v1 =>
 (bif v1 then
  some true
 else
  (sidx s1 0).bind fun c2 =>
  (bif c2 == 48 then
   some (!(s1 == [48]))
  else
   some false).bind fun v4 =>
  some v4).bind fun v2 =>
 (bif v2 then
  some true
 else
  some (decide (13 < (s1.length : Int)))).bind fun v3 =>
 bif v3 then
  some (0, false)
 else
  a5m n s1 (fun (nx2 : Int) =>
   bif decide (1099511627776 < nx2) then
    some (0, false)
   else
    some (nx2, true)) n 0 0
theorem b9t (n : Nat) (s1 : Bs) (r : (Int × Bool)) (hm : b0r n s1 = some r) {w : World}  :
  Calls Tryz.prog 92 #[vs s1] w fun e w' => e = .returned (.tuple #[.int .i64 r.1, .bool r.2]) ∧ w' = w := by
 unfold b0r at hm
 refine a1a 46 Tryz.func92 Y Y Y (a0g (a0a (a0b Y Y Y (a0b Y Y Y (a0e (a0c (a0g (a0g (a0a (a0d Y Y Y (b4m Y Y Y Y Y (a0d Y Y Y ?_))))))))))))
 obtain ⟨v1, h, hm⟩ := Yb hm
 refine a2g 6 (fun a w' => w = w' ∧ Has 46 a [(0, vs s1), (14, .bool v1)]) ?_ ?_
 rintro a R ⟨rfl, x⟩
 refine a1d x (a0d Y Y Y ?_)
 obtain ⟨v2, g, hm⟩ := Yb hm
 refine a2g 8 (fun a w' => w = w' ∧ Has 46 a [(0, vs s1), (23, .bool v2)]) ?_ ?_
 rintro a T ⟨rfl, z⟩
 refine a1d z (a0d Y Y Y ?_)
 obtain ⟨v3, i, hm⟩ := Yb hm
 refine a2g 4 (fun a w' => w = w' ∧ Has 46 a [(0, vs s1), (28, .bool v3)]) ?_ ?_
 rintro a U ⟨rfl, G⟩
 refine a1d G (a0e (a0c ?_))
 rcases a0h hm with ⟨p, hm⟩ | ⟨p, hm⟩
 refine a0r 28 Y p (a0x Y (a0g (a0a (a0b Y Y Y (a0b Y Y Y (a0e (a0c (a1c (a0j (a1q (vl := [.int .i64 0, .bool false]) Y ⟨a1p Y, a1p Y, trivial⟩ (by simp) ?_))))))))))
 obtain rfl := Yo hm
 exact ⟨Y, Y⟩
 refine a0r 28 Y p (a0p Y (a1b (a0c (a0g (a0a (a0b Y Y Y (a0e (a0c (a0g (a0g (a0a (a0d Y Y Y (b0k u9 Y Y Y (a0d Y Y Y (a0e (a0c (a1j ?_)))))))))))))))))
 intro a H
 obtain ⟨kont1, hkont1⟩ : ∃ kont1 : Int → Option (Int × Bool), kont1 = (fun (nx2 : Int) => bif decide (1099511627776 < nx2) then some (0, false) else some (nx2, true)) := ⟨_, Y⟩
 replace hm : (fun m (s : Int × Int) => a5m n s1 kont1 m s.1 s.2) n (0, 0) = some r := by rw [hkont1]; exact hm
 refine a5j (id := 0) (fun m (s : Int × Int) => a5m n s1 kont1 m s.1 s.2) (fun (y : Int) => kont1 y) r (fun (s : Int × Int) a w' => w = w' ∧ Has 46 a [(0, vs s1), (4, .int .i64 s.1), (30, .int .i64 (s1.length : Int)), (31, .int .i64 s.2)]) (fun (y : Int) a w' => w = w' ∧ Has 46 a [(4, .int .i64 y)]) (fun _ => Y) ?_ ?_ hm ⟨Y, H.cut (l := [0, 4, 30, 31]) Y⟩
 clear hm; rintro nx2 a V hm ⟨rfl, I⟩
 rw [hkont1] at hm
 replace hm := hm
 refine a2c (e := .exit 0) I (a1m (a0c (a0g (a0g (a0a (a0d Y Y Y (a0u Y Y Y Y Y (a0e (a0c ?_)))))))))
 rcases a0h hm with ⟨q, hm⟩ | ⟨q, hm⟩
 refine a0r 44 Y q (a0x Y (a0g (a0a (a0b Y Y Y (a0b Y Y Y (a0e (a0c (a1c (a0j (a1q (vl := [.int .i64 0, .bool false]) Y ⟨a1p Y, a1p Y, trivial⟩ (by simp) ?_))))))))))
 obtain rfl := Yo hm
 exact ⟨Y, Y⟩
 refine a0r 44 Y q (a0p Y (a1b (a0c (a0g (a0a (a0d Y Y Y (a0b Y Y Y (a0b Y Y Y (a0e (a0c (a1c (a1q (vl := [.int .i64 nx2, .bool true]) Y ⟨a1p Y, a1p Y, trivial⟩ (by simp) ?_))))))))))))
 obtain rfl := Yo hm
 exact ⟨Y, Y⟩
 clear hm hkont1; intro hk1 mx1 K ihx1
 rintro ⟨nx1, i1⟩ a Z hm ⟨rfl, J⟩
 simp only [b0d] at hm
 refine a1l J (a0g (a0a (a0u Y Y Y Y Y (a0e (a0c (a0g ?_))))))
 rcases a0h hm with ⟨t, hm⟩ | ⟨t, hm⟩
 refine a0r 32 Y t (a0x Y (a1b (a0c (a0g (a1j (a0g (a0a (a0d Y Y Y (a0b Y Y Y (a0e (a0c (a0a (a0d Y Y Y (a0u Y Y Y Y Y (a0d Y Y Y (a0d Y Y Y ?_))))))))))))))))
 obtain ⟨c1, M, hm⟩ := Yb hm
 refine b0t u9 Y Y Y Y M (a0u Y Y Y Y Y (c1f u5 u3 Y Y Y (a0u Y Y Y Y Y (a0b Y Y Y (a0e (a1o (a0c (a0a (a0u Y Y Y Y Y (a0d Y Y Y (a0e ?_)))))))))))
 refine a0k (fun a ha => ihx1 ((iadd .i64 (imul .i64 10 nx1) (IntKind.i64.wrap (isub .u8 c1 48))), (iadd .i64 i1 1)) a _ hm ?_)
 exact ⟨Y, ha.cut (l := [0, 4, 30, 31]) Y⟩
 refine a0r 32 Y t (a0p Y (a3p (a0w (a0w (fun a ha => hk1 nx1 a _ hm ?_)))))
 exact ⟨Y, ha.cut (l := [4]) Y⟩
 clear hm
 rcases a0h i with ⟨u, i⟩ | ⟨u, i⟩
 refine a1k 24 Y u (a0y Y (by decide) Y (a0y Y (by decide) Y (a0y Y (by decide) Y (a0s Y Y Y Y (a0e (a0k (fun a ha => ?_)))))))
 cases i
 exact ⟨Y, ha.cut (l := [0, 28]) Y⟩
 refine a1k 24 Y u (a0d Y Y Y (b0k u9 Y Y Y (a0u Y Y Y Y Y (a0m Y Y Y Y (a0e (a0k (fun a ha => ?_)))))))
 cases i
 exact ⟨Y, ha.cut (l := [0, 28]) Y⟩
 clear hm
 rcases a0h g with ⟨v, g⟩ | ⟨v, g⟩
 refine a1k 15 Y v (a0y Y (by decide) Y (a0y Y (by decide) Y (a0y Y (by decide) Y (a0y Y (by decide) Y (a0y Y (by decide) Y (a0y Y (by decide) Y (a0y Y (by decide) Y (a0s Y Y Y Y (a0e (a0k (fun a ha => ?_)))))))))))
 cases g
 exact ⟨Y, ha.cut (l := [0, 23]) Y⟩
 refine a1k 15 Y v (a0d Y Y Y ?_)
 obtain ⟨c2, N, g⟩ := Yb g
 refine b0t u9 Y Y Y Y N (a0u Y Y Y Y Y (a0d Y Y Y ?_))
 obtain ⟨v4, j, g⟩ := Yb g
 refine a2g 3 (fun a w' => w = w' ∧ Has 46 a [(0, vs s1), (15, .bool false), (22, .bool v4)]) ?_ ?_
 rintro a g0 ⟨rfl, L⟩
 refine a1d L (a0m Y Y Y Y (a0e (a0k (fun a ha => ?_))))
 cases g
 exact ⟨Y, ha.cut (l := [0, 23]) Y⟩
 clear g
 rcases a0h j with ⟨k, j⟩ | ⟨k, j⟩
 refine a1k 19 Y k (a0d Y Y Y (b4m Y Y Y Y Y (a0s Y Y Y Y (a0e (a0k (fun a ha => ?_))))))
 cases j
 exact ⟨Y, ha.cut (l := [0, 15, 22]) Y⟩
 refine a1k 19 Y k (a0y Y (by decide) Y (a0y Y (by decide) Y (a0m Y Y Y Y (a0e (a0k (fun a ha => ?_))))))
 cases j
 exact ⟨Y, ha.cut (l := [0, 15, 22]) Y⟩
 clear hm
 rcases a0h h with ⟨o, h⟩ | ⟨o, h⟩
 refine a1k 8 Y o (a0y Y (by decide) Y (a0y Y (by decide) Y (a0y Y (by decide) Y (a0y Y (by decide) Y (a0y Y (by decide) Y (a0s Y Y Y Y (a0e (a0k (fun a ha => ?_)))))))))
 cases h
 exact ⟨Y, ha.cut (l := [0, 14]) Y⟩
 refine a1k 8 Y o (a0d Y Y Y ?_)
 obtain ⟨v5, Q, h⟩ := Yb h
 refine a2t ent86 Y Y Y Y (a8i _ _ _ _ Q (pf91 _)) (a0d Y Y Y (b0k u9 Y Y Y (a0u Y Y Y Y Y (a0m Y Y Y Y (a0e (a0k (fun a ha => ?_)))))))
 cases h
 exact ⟨Y, ha.cut (l := [0, 14]) Y⟩
theorem ent90 : Ent Tryz.prog 90 := fun _ _ => by kernel_rfl
theorem pf90 : ∀ n, PFn Tryz.prog (.func (.func 90) #[] #[]) (fun l v => ∃ (q0 : Int) (b : Bool), l = [.int .u8 q0] ∧ v = some (.bool b) ∧ a6y n q0 = some b) := fun n => ⟨90, #[], #[], rfl, ent90, by
 rintro args v w ⟨q0, b, rfl, hv, hb⟩
 obtain rfl := Option.some.inj hv
 exact c0z n _ _ hb⟩
def a6m (n : Nat) (s1 : Bs) (kont2 : Int → Option Int) : Nat → Int → Option Int
 | 0, _ => none
 | mx2 + 1, nx3 =>
  (bif decide (nx3 < (s1.length : Int)) then
   (sidx s1 nx3).bind fun c1 =>
   some (c1 != 10)
  else
   some false).bind fun v4 =>
  bif v4 then
   a6m n s1 kont2 mx2 (iadd .i64 nx3 1)
  else
   kont2 nx3
theorem b2f (n : Nat) (s1 : Bs) (kont2 : Int → Option Int) (mx2 : Nat) (nx3 : Int) : a6m n s1 kont2 (mx2 + 1) nx3 =
  (bif decide (nx3 < (s1.length : Int)) then
   (sidx s1 nx3).bind fun c1 =>
   some (c1 != 10)
  else
   some false).bind fun v4 =>
  bif v4 then
   a6m n s1 kont2 mx2 (iadd .i64 nx3 1)
  else
   kont2 nx3 := rfl
def a6k (n : Nat) (s1 : Bs) (kont1 : Int → Option Int) : Nat → Int → Option Int
 | 0, _ => none
 | mx1 + 1, nx1 =>
  (bif decide (nx1 < (s1.length : Int)) then
   (sidx s1 nx1).bind fun c2 =>
   some (c2 == 35)
  else
   some false).bind fun v2 =>
  bif v2 then
   a6m n s1 (fun (nx4 : Int) =>
    (ssl s1 nx4 s1.length).bind fun t1 =>
    (a5r n t1 (a6y n)).bind fun v3 =>
    a6k n s1 kont1 mx1 (iadd .i64 nx4 v3)) n nx1
  else
   kont1 nx1
theorem b2g (n : Nat) (s1 : Bs) (kont1 : Int → Option Int) (mx1 : Nat) (nx1 : Int) : a6k n s1 kont1 (mx1 + 1) nx1 =
  (bif decide (nx1 < (s1.length : Int)) then
   (sidx s1 nx1).bind fun c2 =>
   some (c2 == 35)
  else
   some false).bind fun v2 =>
  bif v2 then
   a6m n s1 (fun (nx4 : Int) =>
    (ssl s1 nx4 s1.length).bind fun t1 =>
    (a5r n t1 (a6y n)).bind fun v3 =>
    a6k n s1 kont1 mx1 (iadd .i64 nx4 v3)) n nx1
  else
   kont1 nx1 := rfl
def b2s (n : Nat) (s1 : Bs) : Option Int :=
 (a5r n s1 (a6y n)).bind fun v1 =>
 a6k n s1 (fun (nx2 : Int) =>
  some nx2) n v1
theorem c3y (n : Nat) (s1 : Bs) (r : Int) (hm : b2s n s1 = some r) {w : World}  :
  Calls Tryz.prog 59 #[vs s1] w fun e w' => e = .returned (.int .i64 r) ∧ w' = w := by
 unfold b2s at hm
 refine a1a 35 Tryz.func59 Y Y Y (a0g (a0a (a0b Y Y Y (a0e (a0c (a0g (a0a (a0d Y Y Y ?_))))))))
 obtain ⟨v1, H, hm⟩ := Yb hm
 refine a2t ent86 Y Y Y Y (a8i _ _ _ _ H (pf90 _)) (a0b Y Y Y (a0e (a0c (a0g (a1j ?_)))))
 intro a p
 obtain ⟨kont1, hkont1⟩ : ∃ kont1 : Int → Option Int, kont1 = (fun (nx2 : Int) => some nx2) := ⟨_, Y⟩
 replace hm : (fun m (s : Int) => a6k n s1 kont1 m s) n v1 = some r := by rw [hkont1]; exact hm
 refine a5j (id := 0) (fun m (s : Int) => a6k n s1 kont1 m s) (fun (y : Int) => kont1 y) r (fun (s : Int) a w' => w = w' ∧ Has 35 a [(0, vs s1), (3, .int .i64 s)]) (fun (y : Int) a w' => w = w' ∧ Has 35 a [(3, .int .i64 y)]) (fun _ => Y) ?_ ?_ hm ⟨Y, p.cut (l := [0, 3]) Y⟩
 clear hm; rintro nx2 a N hm ⟨rfl, q⟩
 rw [hkont1] at hm
 replace hm := hm
 refine a2c (e := .exit 0) q (a1m (a0c (a0g (a0a (a0d Y Y Y (a0b Y Y Y (a0e (a0c (a1c (a1n Y Y ?_))))))))))
 obtain rfl := Yo hm
 exact ⟨Y, Y⟩
 clear hm hkont1; intro hk1 mx1 K ihx1
 rintro nx1 a Q hm ⟨rfl, t⟩
 simp only [b2g] at hm
 refine a1l t (a0g (a0g (a0a (a0d Y Y Y (a0d Y Y Y (b0k u9 Y Y Y (a0u Y Y Y Y Y (a0d Y Y Y ?_))))))))
 obtain ⟨v2, g, hm⟩ := Yb hm
 refine a2g 5 (fun a w' => w = w' ∧ Has 35 a [(0, vs s1), (3, .int .i64 nx1), (15, .bool v2)]) ?_ ?_
 rintro a R ⟨rfl, u⟩
 refine a1d u (a0e (a0c ?_))
 rcases a0h hm with ⟨i, hm⟩ | ⟨i, hm⟩
 refine a0r 15 Y i (a0x Y (a1b (a0c (a1j (a0g (a1j ?_))))))
 intro a v
 obtain ⟨kont2, hkont2⟩ : ∃ kont2 : Int → Option Int, kont2 = (fun (nx4 : Int) => (ssl s1 nx4 s1.length).bind fun t1 => (a5r n t1 (a6y n)).bind fun v3 => a6k n s1 kont1 mx1 (iadd .i64 nx4 v3)) := ⟨_, Y⟩
 replace hm : (fun m (s : Int) => a6m n s1 kont2 m s) n nx1 = some r := by rw [hkont2]; exact hm
 refine a5j (id := 2) (fun m (s : Int) => a6m n s1 kont2 m s) (fun (y : Int) => kont2 y) r (fun (s : Int) a w' => w = w' ∧ Has 35 a [(0, vs s1), (3, .int .i64 s)]) (fun (y : Int) a w' => w = w' ∧ Has 35 a [(0, vs s1), (3, .int .i64 y)]) (fun _ => Y) ?_ ?_ hm ⟨Y, v.cut (l := [0, 3]) Y⟩
 clear hm; rintro nx4 a T hm ⟨rfl, x⟩
 rw [hkont2] at hm
 replace hm := hm
 refine a2c (e := .exit 2) x (a1m (a0c (a0a (a0d Y Y Y (a0d Y Y Y (a0d Y Y Y ?_))))))
 obtain ⟨t1, I, hm⟩ := Yb hm
 refine c5n u9 Y Y Y Y I ?_
 obtain ⟨v3, J, hm⟩ := Yb hm
 refine a2t ent86 Y Y Y Y (a8i _ _ _ _ J (pf90 _)) (a0u Y Y Y Y Y (a0b Y Y Y (a0e (a1o (a0k (fun a ha => ihx1 (iadd .i64 nx4 v3) a _ hm ?_))))))
 exact ⟨Y, ha.cut (l := [0, 3]) Y⟩
 clear hm hkont2; intro hk2 mx2 K ihx2
 rintro nx3 a U hm ⟨rfl, z⟩
 simp only [b2f] at hm
 refine a1l z (a0g (a0g (a0a (a0d Y Y Y (a0d Y Y Y (b0k u9 Y Y Y (a0u Y Y Y Y Y (a0d Y Y Y ?_))))))))
 obtain ⟨v4, h, hm⟩ := Yb hm
 refine a2g 5 (fun a w' => w = w' ∧ Has 35 a [(0, vs s1), (3, .int .i64 nx3), (25, .bool v4)]) ?_ ?_
 rintro a V ⟨rfl, G⟩
 refine a1d G (a0e (a0c ?_))
 rcases a0h hm with ⟨j, hm⟩ | ⟨j, hm⟩
 refine a0r 25 Y j (a0x Y (a1b (a0c (a1j (a0a (a0d Y Y Y (a0u Y Y Y Y Y (a0b Y Y Y (a0e (a1o (a0k (fun a ha => ihx2 (iadd .i64 nx3 1) a _ hm ?_))))))))))))
 exact ⟨Y, ha.cut (l := [0, 3]) Y⟩
 refine a0r 25 Y j (a0p Y (a3p (a0w (a0w (fun a ha => hk2 nx3 a _ hm ?_)))))
 exact ⟨Y, ha.cut (l := [0, 3]) Y⟩
 clear hm
 rcases a0h h with ⟨k, h⟩ | ⟨k, h⟩
 refine a1k 20 Y k (a0d Y Y Y (a0d Y Y Y ?_))
 obtain ⟨c1, L, h⟩ := Yb h
 refine b0t u9 Y Y Y Y L (a0u Y Y Y Y Y (a0s Y Y Y Y (a0e (a0k (fun a ha => ?_)))))
 cases h
 exact ⟨Y, ha.cut (l := [0, 3, 25]) Y⟩
 refine a1k 20 Y k (a0y Y (by decide) Y (a0y Y (by decide) Y (a0y Y (by decide) Y (a0y Y (by decide) Y (a0m Y Y Y Y (a0e (a0k (fun a ha => ?_))))))))
 cases h
 exact ⟨Y, ha.cut (l := [0, 3, 25]) Y⟩
 refine a0r 15 Y i (a0p Y (a3p (a0w (a0w (fun a ha => hk1 nx1 a _ hm ?_)))))
 exact ⟨Y, ha.cut (l := [3]) Y⟩
 clear hm
 rcases a0h g with ⟨o, g⟩ | ⟨o, g⟩
 refine a1k 10 Y o (a0d Y Y Y (a0d Y Y Y ?_))
 obtain ⟨c2, M, g⟩ := Yb g
 refine b0t u9 Y Y Y Y M (a0u Y Y Y Y Y (a0s Y Y Y Y (a0e (a0k (fun a ha => ?_)))))
 cases g
 exact ⟨Y, ha.cut (l := [0, 3, 15]) Y⟩
 refine a1k 10 Y o (a0y Y (by decide) Y (a0y Y (by decide) Y (a0y Y (by decide) Y (a0y Y (by decide) Y (a0m Y Y Y Y (a0e (a0k (fun a ha => ?_))))))))
 cases g
 exact ⟨Y, ha.cut (l := [0, 3, 15]) Y⟩
theorem u141 : Tryz.prog.underlying 141 = some (.slice 5) := by kernel_rfl
theorem ap141 : AppIs Tryz.prog 141 5 1 1 := AppIs.of (z := .int .u8 0) (by kernel_rfl) (by kernel_rfl) rfl (by decide) (by decide)
theorem ent117 : Ent Tryz.prog 117 := fun _ _ => by kernel_rfl
def a4d (n : Nat) (s1 : Bs) (kont1 : Int → (List Int) → Option (Bs × Int)) : Nat → Int → (List Int) → Option (Bs × Int)
 | 0, _, _ => none
 | mx1 + 1, nx1, l1 =>
  (bif decide ((s1.length : Int) ≤ nx1) then
   some true
  else
   (sidx s1 nx1).bind fun c7 =>
   (b0a n c7).bind fun v4 =>
   some (!v4)).bind fun v1 =>
  bif v1 then
   some ([], 0)
  else
   (sidx s1 nx1).bind fun c1 =>
   bif c1 == 34 then
    kont1 nx1 l1
   else
    (sidx s1 nx1).bind fun c2 =>
    bif c2 == 92 then
     (bif decide ((s1.length : Int) ≤ (iadd .i64 nx1 1)) then
      some true
     else
      (sidx s1 (iadd .i64 nx1 1)).bind fun c4 =>
      (bif c4 != 34 then
       (sidx s1 (iadd .i64 nx1 1)).bind fun c5 =>
       some (c5 != 92)
      else
       some false).bind fun v3 =>
      some v3).bind fun v2 =>
     bif v2 then
      some ([], 0)
     else
      (sidx s1 (iadd .i64 nx1 1)).bind fun c3 =>
      (app 1 l1 [c3]).bind fun l3 =>
      a4d n s1 kont1 mx1 (iadd .i64 (iadd .i64 nx1 1) 1) l3
    else
     (sidx s1 nx1).bind fun c6 =>
     (app 1 l1 [c6]).bind fun l4 =>
     a4d n s1 kont1 mx1 (iadd .i64 nx1 1) l4
theorem a9t (n : Nat) (s1 : Bs) (kont1 : Int → (List Int) → Option (Bs × Int)) (mx1 : Nat) (nx1 : Int) (l1 : List Int) : a4d n s1 kont1 (mx1 + 1) nx1 l1 =
  (bif decide ((s1.length : Int) ≤ nx1) then
   some true
  else
   (sidx s1 nx1).bind fun c7 =>
   (b0a n c7).bind fun v4 =>
   some (!v4)).bind fun v1 =>
  bif v1 then
   some ([], 0)
  else
   (sidx s1 nx1).bind fun c1 =>
   bif c1 == 34 then
    kont1 nx1 l1
   else
    (sidx s1 nx1).bind fun c2 =>
    bif c2 == 92 then
     (bif decide ((s1.length : Int) ≤ (iadd .i64 nx1 1)) then
      some true
     else
      (sidx s1 (iadd .i64 nx1 1)).bind fun c4 =>
      (bif c4 != 34 then
       (sidx s1 (iadd .i64 nx1 1)).bind fun c5 =>
       some (c5 != 92)
      else
       some false).bind fun v3 =>
      some v3).bind fun v2 =>
     bif v2 then
      some ([], 0)
     else
      (sidx s1 (iadd .i64 nx1 1)).bind fun c3 =>
      (app 1 l1 [c3]).bind fun l3 =>
      a4d n s1 kont1 mx1 (iadd .i64 (iadd .i64 nx1 1) 1) l3
    else
     (sidx s1 nx1).bind fun c6 =>
     (app 1 l1 [c6]).bind fun l4 =>
     a4d n s1 kont1 mx1 (iadd .i64 nx1 1) l4 := rfl
def b0q (n : Nat) (s1 : Bs) : Option (Bs × Int) :=
 a4d n s1 (fun (nx2 : Int) (l2 : List Int) =>
  bif decide (400 < (l2.length : Int)) then
   some ([], 0)
  else
   some (c0j l2, iadd .i64 nx2 1)) n 1 ([] : List Int)
theorem b9v (n : Nat) (s1 : Bs) (r : (Bs × Int)) (hm : b0q n s1 = some r) {w : World} {F : Frz} (hs : Sat F w)  :
  Calls Tryz.prog 93 #[vs s1] w fun e w' => ∃ v F' O', e = .returned v ∧ HS F w [] F' O' w' ∧ (v = .tuple #[vs r.1, .int .i64 r.2] ∧ O' = []) := by
 unfold b0q at hm
 have h := HS.init hs
 refine a1a 61 Tryz.func93 Y Y Y (a0g (a0a (a0b Y Y Y (a0b Y Y Y (a0e (a0c (d4z (a0g (a0a (a0b Y Y Y (a0e (a0c (a0g (a0a (a0b Y Y Y (a0e (a0c (a0g (d4f (a0c (a0g (a1j ?_))))))))))))))))))))))
 have ga := h.nilRow 5 1
 intro a g4
 obtain ⟨kont1, hkont1⟩ : ∃ kont1 : Int → (List Int) → Option (Bs × Int), kont1 = (fun (nx2 : Int) (l2 : List Int) => bif decide (400 < (l2.length : Int)) then some ([], 0) else some (c0j l2, iadd .i64 nx2 1)) := ⟨_, Y⟩
 replace hm : (fun m (s : Int × List Int) => a4d n s1 kont1 m s.1 s.2) n (1, ([] : List Int)) = some r := by rw [hkont1]; exact hm
 refine a5j (id := 0) (fun m (s : Int × List Int) => a4d n s1 kont1 m s.1 s.2) (fun (y : Int × List Int) => kont1 y.1 y.2) r (fun (s : Int × List Int) a w' => ∃ (x : Frz) (p : Option Addr) (g : Nat) (t : Nat) (xss2 : List Value), Frz.le F x ∧ HS F w [] x [.row 5 1 p g t xss2] w' ∧ (RowN (Rp.int .u8) x g xss2 s.2) ∧ Has 61 a [(0, vs s1), (4, .slice p g t), (5, .int .i64 s.1)]) (fun (y : Int × List Int) a w' => ∃ (I : Frz) (L : Option Addr) (J : Nat) (M : Nat) (xss3 : List Value), Frz.le F I ∧ HS F w [] I [.row 5 1 L J M xss3] w' ∧ (RowN (Rp.int .u8) I J xss3 y.2) ∧ Has 61 a [(4, .slice L J M), (5, .int .i64 y.1)]) (fun _ => Y) ?_ ?_ hm ⟨_, none, 0, 0, [], Yf, ga.Yp [0] Y Y, ((show RowN (Rp.int .u8) _ 0 [] [] from ⟨Y, Y⟩)), g4.cut (l := [0, 4, 5]) Y⟩
 clear hm; rintro ⟨nx2, l2⟩ a gv hm ⟨I, L, J, M, xss3, gw, N, g3, g5⟩
 rw [hkont1] at hm
 replace hm := hm
 refine a2c (e := .exit 0) g5 (a1m (a0c (a0g (a0g (a0a (a0d Y Y Y (a1y g3.len u141 Y Y Y (a0u Y Y Y Y Y (a0e (a0c ?_))))))))))
 rcases a0h hm with ⟨Q, hm⟩ | ⟨Q, hm⟩
 refine a0r 56 Y Q (a0x Y (a0g (a0a (a0b Y Y Y (a0b Y Y Y (a0e (a0c (a1c (a0j (b3a (a1q (vl := [vs [], .int .i64 0]) Y ⟨a1p Y, a1p Y, trivial⟩ (by simp) ?_)))))))))))
 obtain rfl := Yo hm
 exact ⟨_, _, _, Y, N.Yp [] Y Y, Y, Y⟩
 refine a0r 56 Y Q (a0p Y (a1b (a0c (a0g (a0a (a0d Y Y Y (d5k u141 u5 u9 Y Y N Y (i := 0) Y (d3j g3.2) (a0d Y Y Y (a0u Y Y Y Y Y (a0b Y Y Y (a0b Y Y Y (a0e (a0c (a1c (b3a (a1q (vl := [vs (c0j l2), .int .i64 (iadd .i64 nx2 1)]) Y ⟨a1p Y, a1p Y, trivial⟩ (by simp) ?_))))))))))))))))
 obtain rfl := Yo hm
 exact ⟨_, _, _, Y, N.Yp [] Y Y, Y, Y⟩
 clear hm hkont1; intro hk1 mx1 K ihx1
 rintro ⟨nx1, l1⟩ a R hm ⟨x, p, g, t, xss2, T, z, U, g6⟩
 simp only [a9t] at hm
 refine a1l g6 (a1j (a0g (a1j (a0g (a0a (a0d Y Y Y (a0d Y Y Y (b0k u9 Y Y Y (a0u Y Y Y Y Y (a0d Y Y Y ?_))))))))))
 obtain ⟨v1, o, hm⟩ := Yb hm
 refine a2g 6 (fun a w' => R = w' ∧ Has 61 a [(0, vs s1), (4, .slice p g t), (5, .int .i64 nx1), (17, .bool v1)]) ?_ ?_
 rintro a gx ⟨rfl, g7⟩
 refine a1d g7 (a0b Y Y Y (a0e (a0c ?_)))
 rcases a0h hm with ⟨V, hm⟩ | ⟨V, hm⟩
 refine a0r 6 Y V (a0x Y (a0g (a0a (a0b Y Y Y (a0b Y Y Y (a0e (a0c (a1c (a0t (a0j (a0t (a0j (a0t (a0j (b3a (a1q (vl := [vs [], .int .i64 0]) Y ⟨a1p Y, a1p Y, trivial⟩ (by simp) ?_))))))))))))))))
 obtain rfl := Yo hm
 exact ⟨_, _, _, Y, z.Yp [] Y Y, Y, Y⟩
 refine a0r 6 Y V (a0p Y (a0g (a0a (a0d Y Y Y (a0d Y Y Y ?_)))))
 obtain ⟨c1, gb, hm⟩ := Yb hm
 refine b0t u9 Y Y Y Y gb (a0u Y Y Y Y Y (a0b Y Y Y (a0e (a0c ?_))))
 rcases a0h hm with ⟨Z, hm⟩ | ⟨Z, hm⟩
 refine a0r 18 Y Z (a0x Y (a3p (b7n (by decide) (a0w (b7n (by decide) (a0w (fun a ha => hk1 (nx1, l1) a _ hm ?_)))))))
 exact ⟨_, p, g, t, xss2, T, z.Yp [0] Y Y, U, ha.cut (l := [4, 5]) Y⟩
 refine a0r 18 Y Z (a0p Y (a0g (a0a (a0d Y Y Y (a0d Y Y Y ?_)))))
 obtain ⟨c2, gc, hm⟩ := Yb hm
 refine b0t u9 Y Y Y Y gc (a0u Y Y Y Y Y (a0b Y Y Y (a0e (a0c ?_))))
 rcases a0h hm with ⟨g0, hm⟩ | ⟨g0, hm⟩
 refine a0r 23 Y g0 (a0x Y (a0g (a0a (a0d Y Y Y (a0u Y Y Y Y Y (a0b Y Y Y (a0e (a0c (a0g (a0a (a0d Y Y Y (a0d Y Y Y (b0k u9 Y Y Y (a0u Y Y Y Y Y (a0d Y Y Y ?_)))))))))))))))
 obtain ⟨v2, k, hm⟩ := Yb hm
 refine a2g 11 (fun a w' => R = w' ∧ Has 61 a [(0, vs s1), (4, .slice p g t), (5, .int .i64 (iadd .i64 nx1 1)), (45, .bool v2)]) ?_ ?_
 rintro a gy ⟨rfl, g8⟩
 refine a1d g8 (a0e (a0c ?_))
 rcases a0h hm with ⟨g1, hm⟩ | ⟨g1, hm⟩
 refine a0r 45 Y g1 (a0x Y (a0g (a0a (a0b Y Y Y (a0b Y Y Y (a0e (a0c (a1c (a0t (a0j (a0t (a0j (a0t (a0j (b3a (a1q (vl := [vs [], .int .i64 0]) Y ⟨a1p Y, a1p Y, trivial⟩ (by simp) ?_))))))))))))))))
 obtain rfl := Yo hm
 exact ⟨_, _, _, Y, z.Yp [] Y Y, Y, Y⟩
 refine a0r 45 Y g1 (a0p Y (a1b (a1o (a0c (a0g (a0a (a0d Y Y Y (a0d Y Y Y (a0d Y Y Y ?_)))))))))
 obtain ⟨c3, gd, hm⟩ := Yb hm
 refine b0t u9 Y Y Y Y gd (a1f (e := 5) (cs := [.int .u8 c3]) (q := 1) Y Y z Y (fun _ => by kernel_rfl) Y Y ?_)
 intro b1 gz ge
 obtain ⟨l3, gf, hm⟩ := Yb hm
 refine a4n (r := (Rp.int .u8)) ap141 Y Y ge Y Y (i := 1) (j := 0) Y Y U ((show RowN (Rp.int .u8) x 1 [.int .u8 c3] [c3] from ⟨Y, ⟨_, _, Y, Y, (Y : RowR (Rp.int .u8) _ [] [])⟩⟩)) gf ?_
 intro gg gh h0 gi gj
 refine a0b Y Y Y (a0e (a0c (a0a (a0d Y Y Y (a0u Y Y Y Y Y (a0b Y Y Y (a0e (a1o (a0k (fun a ha => ihx1 ((iadd .i64 (iadd .i64 nx1 1) 1), l3) a _ hm ?_))))))))))
 exact ⟨_, gg, (g + 1), gh, (xss2 ++ [.int .u8 c3]), T, gi.Yp [1] Y Y, gj, ha.cut (l := [0, 4, 5]) Y⟩
 clear hm
 rcases a0h k with ⟨g2, k⟩ | ⟨g2, k⟩
 refine a1k 34 Y g2 (a0y Y (by decide) Y (a0y Y (by decide) Y (a0y Y (by decide) Y (a0y Y (by decide) Y (a0y Y (by decide) Y (a0y Y (by decide) Y (a0y Y (by decide) Y (a0y Y (by decide) Y (a0y Y (by decide) Y (a0y Y (by decide) Y (a0s Y Y Y Y (a0e (a0k (fun a ha => ?_))))))))))))))
 cases k
 exact ⟨Y, ha.cut (l := [0, 4, 5, 45]) Y⟩
 refine a1k 34 Y g2 (a0d Y Y Y (a0d Y Y Y ?_))
 obtain ⟨c4, gk, k⟩ := Yb k
 refine b0t u9 Y Y Y Y gk (a0u Y Y Y Y Y (a0d Y Y Y ?_))
 obtain ⟨v3, u, k⟩ := Yb k
 refine a2g 5 (fun a w' => R = w' ∧ Has 61 a [(0, vs s1), (4, .slice p g t), (5, .int .i64 (iadd .i64 nx1 1)), (34, .bool false), (44, .bool v3)]) ?_ ?_
 rintro a h1 ⟨rfl, g9⟩
 refine a1d g9 (a0m Y Y Y Y (a0e (a0k (fun a ha => ?_))))
 cases k
 exact ⟨Y, ha.cut (l := [0, 4, 5, 45]) Y⟩
 clear k
 rcases a0h u with ⟨G, u⟩ | ⟨G, u⟩
 refine a1k 39 Y G (a0d Y Y Y (a0d Y Y Y ?_))
 obtain ⟨c5, gl, u⟩ := Yb u
 refine b0t u9 Y Y Y Y gl (a0u Y Y Y Y Y (a0s Y Y Y Y (a0e (a0k (fun a ha => ?_)))))
 cases u
 exact ⟨Y, ha.cut (l := [0, 4, 5, 34, 44]) Y⟩
 refine a1k 39 Y G (a0y Y (by decide) Y (a0y Y (by decide) Y (a0y Y (by decide) Y (a0y Y (by decide) Y (a0m Y Y Y Y (a0e (a0k (fun a ha => ?_))))))))
 cases u
 exact ⟨Y, ha.cut (l := [0, 4, 5, 34, 44]) Y⟩
 refine a0r 23 Y g0 (a0p Y (a1b (a1o (a0c (a0g (a0a (a0d Y Y Y (a0d Y Y Y (a0d Y Y Y ?_)))))))))
 obtain ⟨c6, gm, hm⟩ := Yb hm
 refine b0t u9 Y Y Y Y gm (a1f (e := 5) (cs := [.int .u8 c6]) (q := 1) Y Y z Y (fun _ => by kernel_rfl) Y Y ?_)
 intro b2 h2 gn
 obtain ⟨l4, go, hm⟩ := Yb hm
 refine a4n (r := (Rp.int .u8)) ap141 Y Y gn Y Y (i := 1) (j := 0) Y Y U ((show RowN (Rp.int .u8) x 1 [.int .u8 c6] [c6] from ⟨Y, ⟨_, _, Y, Y, (Y : RowR (Rp.int .u8) _ [] [])⟩⟩)) go ?_
 intro gp gq h3 gr gs
 refine a0b Y Y Y (a0e (a0c (a0a (a0d Y Y Y (a0u Y Y Y Y Y (a0b Y Y Y (a0e (a1o (a0k (fun a ha => ihx1 ((iadd .i64 nx1 1), l4) a _ hm ?_))))))))))
 exact ⟨_, gp, (g + 1), gq, (xss2 ++ [.int .u8 c6]), T, gr.Yp [1] Y Y, gs, ha.cut (l := [0, 4, 5]) Y⟩
 clear hm
 rcases a0h o with ⟨H, o⟩ | ⟨H, o⟩
 refine a1k 11 Y H (a0y Y (by decide) Y (a0y Y (by decide) Y (a0y Y (by decide) Y (a0y Y (by decide) Y (a0y Y (by decide) Y (a0s Y Y Y Y (a0e (a0k (fun a ha => ?_)))))))))
 cases o
 exact ⟨Y, ha.cut (l := [0, 4, 5, 17]) Y⟩
 refine a1k 11 Y H (a0d Y Y Y (a0d Y Y Y ?_))
 obtain ⟨c7, gt, o⟩ := Yb o
 refine b0t u9 Y Y Y Y gt ?_
 obtain ⟨v4, gu, o⟩ := Yb o
 refine a2t ent117 Y Y Y Y (c0u _ _ _ gu) (a4c Y Y Y (a0m Y Y Y Y (a0e (a0k (fun a ha => ?_)))))
 cases o
 exact ⟨Y, ha.cut (l := [0, 4, 5, 17]) Y⟩
structure Token where
 Kind : Int
 Text : Bs
 N : Int
 Pos : Int
 deriving DecidableEq, Inhabited
def rp_Token : Rp Token where
 k := 4
 R := fun _ cs x => cs = [.int .i64 x.Kind, vs x.Text, .int .i64 x.N, .int .i64 x.Pos]
 len := by intros; simp_all
 mono := fun _ h => h
 one := by intro F cs x h u hu; subst h; simp at hu; rcases hu with rfl | rfl | rfl | rfl <;> rfl
theorem ze72 : b9o Tryz.prog 72 (.agg #[.int .i64 0, vs [], .int .i64 0, .int .i64 0]) := fun _ => by kernel_rfl
theorem ent54 : Ent Tryz.prog 54 := fun _ _ => by kernel_rfl
theorem sz72 : a4i Tryz.prog 72 4 := fun _ => by kernel_rfl
theorem ag72 : a9h Tryz.prog 72 true := fun _ => by kernel_rfl
theorem ent92 : Ent Tryz.prog 92 := fun _ _ => by kernel_rfl
theorem ent93 : Ent Tryz.prog 93 := fun _ _ => by kernel_rfl
theorem ag125 : a9h Tryz.prog 125 true := fun _ => by kernel_rfl
theorem sz125 : a4i Tryz.prog 125 13 := fun _ => by kernel_rfl
theorem u125 : Tryz.prog.underlying 125 = some (.array 13 5) := by kernel_rfl
theorem ag5 : a9h Tryz.prog 5 false := fun _ => by kernel_rfl
theorem sz5 : a4i Tryz.prog 5 1 := fun _ => by kernel_rfl
def a7a (n : Nat) (s1 : Bs) (kont1 : Option (Token × Int × Int)) : Nat → Int → Option (Token × Int × Int)
 | 0, _ => none
 | mx1 + 1, i1 =>
  bif decide (i1 < 13) then
   (ix [40, 41, 44, 59, 58, 61, 60, 43, 45, 42, 47, 123, 125] i1).bind fun c4 =>
   (sidx s1 0).bind fun c5 =>
   bif c5 == c4 then
    (ssl s1 0 1).bind fun t3 =>
    some ((⟨3, t3, 0, 0⟩ : Token), 1, 0)
   else
    a7a n s1 kont1 mx1 (iadd .i64 i1 1)
  else
   kont1
theorem b1t (n : Nat) (s1 : Bs) (kont1 : Option (Token × Int × Int)) (mx1 : Nat) (i1 : Int) : a7a n s1 kont1 (mx1 + 1) i1 =
  bif decide (i1 < 13) then
   (ix [40, 41, 44, 59, 58, 61, 60, 43, 45, 42, 47, 123, 125] i1).bind fun c4 =>
   (sidx s1 0).bind fun c5 =>
   bif c5 == c4 then
    (ssl s1 0 1).bind fun t3 =>
    some ((⟨3, t3, 0, 0⟩ : Token), 1, 0)
   else
    a7a n s1 kont1 mx1 (iadd .i64 i1 1)
  else
   kont1 := rfl
def b1g (n : Nat) (s1 : Bs) : Option (Token × Int × Int) :=
 (sidx s1 0).bind fun c1 =>
 (a7t n c1).bind fun v1 =>
 bif v1 then
  (a5r n s1 (a8u n)).bind fun v2 =>
  (ssl s1 0 v2).bind fun t1 =>
  (a5i n t1).bind fun v3 =>
  bif !v3 then
   some ((⟨0, [], 0, 0⟩ : Token), 0, 3)
  else
   some ((⟨0, t1, 0, 0⟩ : Token), (t1.length : Int), 0)
 else
  (sidx s1 0).bind fun c2 =>
  (a7b n c2).bind fun v4 =>
  bif v4 then
   (a5r n s1 (a7b n)).bind fun v5 =>
   (ssl s1 0 v5).bind fun t2 =>
   (b0r n t2).bind fun v6 =>
   bif !v6.2 then
    some ((⟨0, [], 0, 0⟩ : Token), 0, 3)
   else
    some ((⟨1, t2, v6.1, 0⟩ : Token), (t2.length : Int), 0)
  else
   (sidx s1 0).bind fun c3 =>
   bif c3 == 34 then
    (b0q n s1).bind fun v7 =>
    bif v7.2 == 0 then
     some ((⟨0, [], 0, 0⟩ : Token), 0, 2)
    else
     some ((⟨2, v7.1, 0, 0⟩ : Token), v7.2, 0)
   else
    a7a n s1 (
     some ((⟨0, [], 0, 0⟩ : Token), 0, 10)) n 0
theorem c2o (n : Nat) (s1 : Bs) (r : (Token × Int × Int)) (hm : b1g n s1 = some r) {w : World} {F : Frz} (hs : Sat F w) (hg0 : FX F 0 [.int .u8 40, .int .u8 41, .int .u8 44, .int .u8 59, .int .u8 58, .int .u8 61, .int .u8 60, .int .u8 43, .int .u8 45, .int .u8 42, .int .u8 47, .int .u8 123, .int .u8 125]) :
  Calls Tryz.prog 60 #[vs s1] w fun e w' => ∃ v F' O', e = .returned v ∧ HS F w [] F' O' w' ∧ (v = .tuple #[.agg #[.int .i64 r.1.Kind, vs r.1.Text, .int .i64 r.1.N, .int .i64 r.1.Pos], .int .i64 r.2.1, .int .i64 r.2.2] ∧ O' = []) := by
 unfold b1g at hm
 have h := HS.init hs
 refine a1a 78 Tryz.func60 Y Y Y (a0g (a0a (a1h ze72 Y Y Y h ?_)))
 intro b1 H g
 refine a0b Y Y Y (a0b Y Y Y (a0e (a0c (a0g (a1j (a0g (a0a (a0d Y Y Y ?_))))))))
 obtain ⟨c1, g1, hm⟩ := Yb hm
 refine b0t u9 Y Y Y Y g1 ?_
 obtain ⟨v1, g2, hm⟩ := Yb hm
 refine a2t ent85 Y Y Y Y (b1i _ _ _ g2) (a0b Y Y Y (a0e (a0c ?_)))
 rcases a0h hm with ⟨k, hm⟩ | ⟨k, hm⟩
 refine a0r 13 Y k (a0x Y (a0g (a0a (a0d Y Y Y (a0d Y Y Y ?_)))))
 obtain ⟨v2, g3, hm⟩ := Yb hm
 refine a2t ent86 Y Y Y Y (a8i _ _ _ _ g3 (pf87 _)) ?_
 obtain ⟨t1, g4, hm⟩ := Yb hm
 refine c4v u9 Y Y Y Y g4 (a0b Y Y Y (a0e (a0c (a0g (a0g (a0a (a0d Y Y Y ?_)))))))
 obtain ⟨v3, g5, hm⟩ := Yb hm
 refine a2t ent54 Y Y Y Y (b1e _ _ _ g5) (a4c Y Y Y (a0e (a0c ?_)))
 rcases a0h hm with ⟨o, hm⟩ | ⟨o, hm⟩
 refine a0r 23 Y o (a0x Y (a0g (a0a (a1r (v := .agg #[.int .i64 0, vs [], .int .i64 0, .int .i64 0]) Y Y Y (fun _ => by kernel_rfl) (a0o sz72 Y g Y Y Y Y (i := 0) Y Y Y Y ?_)))))
 intro gj I
 refine a0b Y Y Y (a0b Y Y Y (a0e (a0c (a1c (a0j (a0t (a0j (a1q (vl := [.agg #[.int .i64 0, vs [], .int .i64 0, .int .i64 0], .int .i64 0, .int .i64 3]) Y ⟨a2h ag72 sz72 Y I Y (i := 0) Y, a1p Y, a1p Y, trivial⟩ (by simp) ?_))))))))
 obtain rfl := Yo hm
 exact ⟨_, _, _, Y, I.Yp [] Y Y, Y, Y⟩
 refine a0r 23 Y o (a0p Y (a1b (a0c (a0g (a0a (a0d Y Y Y (a1r (v := .agg #[.int .i64 0, vs t1, .int .i64 0, .int .i64 0]) Y Y Y (fun _ => by kernel_rfl) (a0d Y Y Y (b0k u9 Y Y Y (a0o sz72 Y g Y Y Y Y (i := 0) Y Y Y Y ?_))))))))))
 intro gk J
 refine a0b Y Y Y (a0b Y Y Y (a0e (a0c (a1c (a0t (a0j (a1q (vl := [.agg #[.int .i64 0, vs t1, .int .i64 0, .int .i64 0], .int .i64 (t1.length : Int), .int .i64 0]) Y ⟨a2h ag72 sz72 Y J Y (i := 0) Y, a1p Y, a1p Y, trivial⟩ (by simp) ?_)))))))
 obtain rfl := Yo hm
 exact ⟨_, _, _, Y, J.Yp [] Y Y, Y, Y⟩
 refine a0r 13 Y k (a0p Y (a0g (a0a (a0d Y Y Y ?_))))
 obtain ⟨c2, g6, hm⟩ := Yb hm
 refine b0t u9 Y Y Y Y g6 ?_
 obtain ⟨v4, g7, hm⟩ := Yb hm
 refine a2t ent91 Y Y Y Y (b2m _ _ _ g7) (a0b Y Y Y (a0e (a0c ?_)))
 rcases a0h hm with ⟨p, hm⟩ | ⟨p, hm⟩
 refine a0r 29 Y p (a0x Y (a0g (a0a (a0d Y Y Y (a0d Y Y Y ?_)))))
 obtain ⟨v5, g8, hm⟩ := Yb hm
 refine a2t ent86 Y Y Y Y (a8i _ _ _ _ g8 (pf91 _)) ?_
 obtain ⟨t2, g9, hm⟩ := Yb hm
 refine c4v u9 Y Y Y Y g9 (a0b Y Y Y (a0e (a0c (a0g (a0a (a0d Y Y Y ?_))))))
 obtain ⟨v6, ga, hm⟩ := Yb hm
 refine a2t ent92 Y Y Y Y (b9t _ _ _ ga) (a0d Y Y Y (a0l Y Y Y Y (a0l Y Y Y Y (a0b Y Y Y (a0b Y Y Y (a0e (a0c (a0g (a0g (a0a (a0d Y Y Y (a4c Y Y Y (a0e (a0c ?_))))))))))))))
 rcases a0h hm with ⟨q, hm⟩ | ⟨q, hm⟩
 refine a0r 43 Y q (a0x Y (a0g (a0a (a1r (v := .agg #[.int .i64 0, vs [], .int .i64 0, .int .i64 0]) Y Y Y (fun _ => by kernel_rfl) (a0o sz72 Y g Y Y Y Y (i := 0) Y Y Y Y ?_)))))
 intro gl L
 refine a0b Y Y Y (a0b Y Y Y (a0e (a0c (a1c (a0j (a0t (a0j (a1q (vl := [.agg #[.int .i64 0, vs [], .int .i64 0, .int .i64 0], .int .i64 0, .int .i64 3]) Y ⟨a2h ag72 sz72 Y L Y (i := 0) Y, a1p Y, a1p Y, trivial⟩ (by simp) ?_))))))))
 obtain rfl := Yo hm
 exact ⟨_, _, _, Y, L.Yp [] Y Y, Y, Y⟩
 refine a0r 43 Y q (a0p Y (a1b (a0c (a0g (a0a (a0d Y Y Y (a0d Y Y Y (a1r (v := .agg #[.int .i64 1, vs t2, .int .i64 v6.1, .int .i64 0]) Y Y Y (fun _ => by kernel_rfl) (a0d Y Y Y (b0k u9 Y Y Y (a0o sz72 Y g Y Y Y Y (i := 0) Y Y Y Y ?_)))))))))))
 intro gm M
 refine a0b Y Y Y (a0b Y Y Y (a0e (a0c (a1c (a0t (a0j (a1q (vl := [.agg #[.int .i64 1, vs t2, .int .i64 v6.1, .int .i64 0], .int .i64 (t2.length : Int), .int .i64 0]) Y ⟨a2h ag72 sz72 Y M Y (i := 0) Y, a1p Y, a1p Y, trivial⟩ (by simp) ?_)))))))
 obtain rfl := Yo hm
 exact ⟨_, _, _, Y, M.Yp [] Y Y, Y, Y⟩
 refine a0r 29 Y p (a0p Y (a0g (a0a (a0d Y Y Y ?_))))
 obtain ⟨c3, gb, hm⟩ := Yb hm
 refine b0t u9 Y Y Y Y gb (a0u Y Y Y Y Y (a0b Y Y Y (a0e (a0c ?_))))
 rcases a0h hm with ⟨t, hm⟩ | ⟨t, hm⟩
 refine a0r 50 Y t (a0x Y (a0g (a0a (a0d Y Y Y ?_))))
 obtain ⟨v7, gc, hm⟩ := Yb hm
 refine a0i ent93 Y Y Y Y g (b9v _ _ _ gc g.sat) ?_
 rintro _ gn _ go gp Q ⟨rfl, rfl⟩
 refine a0d Y Y Y (a0l Y Y Y Y (a0l Y Y Y Y (a0b Y Y Y (a0b Y Y Y (a0e (a0c (a0g (a0g (a0a (a0d Y Y Y (a0u Y Y Y Y Y (a0e (a0c ?_)))))))))))))
 rcases a0h hm with ⟨u, hm⟩ | ⟨u, hm⟩
 refine a0r 60 Y u (a0x Y (a0g (a0a (a1r (v := .agg #[.int .i64 0, vs [], .int .i64 0, .int .i64 0]) Y Y Y (fun _ => by kernel_rfl) (a0o sz72 Y Q Y Y Y Y (i := 0) Y Y Y Y ?_)))))
 intro gq R
 refine a0b Y Y Y (a0b Y Y Y (a0e (a0c (a1c (a0j (a0t (a0j (a1q (vl := [.agg #[.int .i64 0, vs [], .int .i64 0, .int .i64 0], .int .i64 0, .int .i64 2]) Y ⟨a2h ag72 sz72 Y R Y (i := 0) Y, a1p Y, a1p Y, trivial⟩ (by simp) ?_))))))))
 obtain rfl := Yo hm
 exact ⟨_, _, _, Y, R.Yp [] Y Y, Y, Y⟩
 refine a0r 60 Y u (a0p Y (a1b (a0c (a0g (a0a (a0d Y Y Y (a1r (v := .agg #[.int .i64 2, vs v7.1, .int .i64 0, .int .i64 0]) Y Y Y (fun _ => by kernel_rfl) (a0d Y Y Y (a0o sz72 Y Q Y Y Y Y (i := 0) Y Y Y Y ?_)))))))))
 intro gr T
 refine a0b Y Y Y (a0b Y Y Y (a0e (a0c (a1c (a0t (a0j (a1q (vl := [.agg #[.int .i64 2, vs v7.1, .int .i64 0, .int .i64 0], .int .i64 v7.2, .int .i64 0]) Y ⟨a2h ag72 sz72 Y T Y (i := 0) Y, a1p Y, a1p Y, trivial⟩ (by simp) ?_)))))))
 obtain rfl := Yo hm
 exact ⟨_, _, _, Y, T.Yp [] Y Y, Y, Y⟩
 refine a0r 50 Y t (a0p Y (a1b (a1o (a0c (a0g (a0g (a0a (c5x (j := 0) ag125 sz125 Y Y g hg0.fc Y Y Y (a0d Y Y Y (a0e (a0c (a1j ?_))))))))))))
 intro a V
 obtain ⟨kont1, hkont1⟩ : ∃ kont1 : Option (Token × Int × Int), kont1 = ( some ((⟨0, [], 0, 0⟩ : Token), 0, 10)) := ⟨_, Y⟩
 replace hm : (fun m (s : Int) => a7a n s1 kont1 m s) n 0 = some r := by rw [hkont1]; exact hm
 refine a5j (id := 1) (fun m (s : Int) => a7a n s1 kont1 m s) (fun (y : Unit) => kont1) r (fun (s : Int) a w' => H = w' ∧ Has 78 a [(0, vs s1), (2, .pointer (some ⟨b1, 0, none⟩)), (65, .agg #[.int .u8 40, .int .u8 41, .int .u8 44, .int .u8 59, .int .u8 58, .int .u8 61, .int .u8 60, .int .u8 43, .int .u8 45, .int .u8 42, .int .u8 47, .int .u8 123, .int .u8 125]), (66, .int .i64 s)]) (fun (y : Unit) a w' => H = w' ∧ Has 78 a [(2, .pointer (some ⟨b1, 0, none⟩))]) (fun _ => Y) ?_ ?_ hm ⟨Y, V.cut (l := [0, 2, 65, 66]) Y⟩
 clear hm; rintro _u a gs hm ⟨rfl, Z⟩
 rw [hkont1] at hm
 refine a2c (e := .exit 1) Z (a1m (a0c (a0g (a0a (a1r (v := .agg #[.int .i64 0, vs [], .int .i64 0, .int .i64 0]) Y Y Y (fun _ => by kernel_rfl) (a0o sz72 Y g Y Y Y Y (i := 0) Y Y Y Y ?_))))))
 intro gg U
 refine a0b Y Y Y (a0b Y Y Y (a0e (a0c (a1c (a1q (vl := [.agg #[.int .i64 0, vs [], .int .i64 0, .int .i64 0], .int .i64 0, .int .i64 10]) Y ⟨a2h ag72 sz72 Y U Y (i := 0) Y, a1p Y, a1p Y, trivial⟩ (by simp) ?_)))))
 obtain rfl := Yo hm
 exact ⟨_, _, _, Y, U.Yp [] Y Y, Y, Y⟩
 clear hm hkont1; intro hk1 mx1 K ihx1
 rintro i1 a gh hm ⟨rfl, g0⟩
 simp only [b1t] at hm
 refine a1l g0 (a0g (a0a (a0u Y Y Y Y Y (a0e (a0c (a0g ?_))))))
 rcases a0h hm with ⟨x, hm⟩ | ⟨x, hm⟩
 refine a0r 67 Y x (a0x Y (a1b (a0c (a0g (a1j (a0g (a0a ?_)))))))
 obtain ⟨c4, gd, hm⟩ := Yb hm
 refine d6r u125 ag5 sz5 Y Y Y Y Y Y gd (a0b Y Y Y (a0e (a0c (a0g (a0a (a0d Y Y Y ?_))))))
 obtain ⟨c5, ge, hm⟩ := Yb hm
 refine b0t u9 Y Y Y Y ge (a0d Y Y Y (a0u Y Y Y Y Y (a0e (a0c ?_))))
 rcases a0h hm with ⟨z, hm⟩ | ⟨z, hm⟩
 refine a0r 72 Y z (a0x Y (a0g (a0a (a0d Y Y Y ?_))))
 obtain ⟨t3, gf, hm⟩ := Yb hm
 refine c4v u9 Y Y Y Y gf (a1r (v := .agg #[.int .i64 3, vs t3, .int .i64 0, .int .i64 0]) Y Y Y (fun _ => by kernel_rfl) (a0o sz72 Y g Y Y Y Y (i := 0) Y Y Y Y ?_))
 intro gi G
 refine a0b Y Y Y (a0b Y Y Y (a0e (a0c (a1c (a0t (a0j (a0j (a0t (a0j (a1q (vl := [.agg #[.int .i64 3, vs t3, .int .i64 0, .int .i64 0], .int .i64 1, .int .i64 0]) Y ⟨a2h ag72 sz72 Y G Y (i := 0) Y, a1p Y, a1p Y, trivial⟩ (by simp) ?_))))))))))
 obtain rfl := Yo hm
 exact ⟨_, _, _, Y, G.Yp [] Y Y, Y, Y⟩
 refine a0r 72 Y z (a0p Y (a1b (a1o (a0c (a0a (a0u Y Y Y Y Y (a0d Y Y Y (a0e (a0k (fun a ha => ihx1 (iadd .i64 i1 1) a _ hm ?_))))))))))
 exact ⟨Y, ha.cut (l := [0, 2, 65, 66]) Y⟩
 refine a0r 67 Y x (a0p Y (a3p (a0w (a0w (fun a ha => hk1 () a _ hm ?_)))))
 exact ⟨Y, ha.cut (l := [2]) Y⟩
theorem ent59 : Ent Tryz.prog 59 := fun _ _ => by kernel_rfl
theorem ent60 : Ent Tryz.prog 60 := fun _ _ => by kernel_rfl
theorem fa72_3 : a4v Tryz.prog 72 3 3 := fun _ _ _ => by kernel_rfl
theorem sz3 : a4i Tryz.prog 3 1 := fun _ => by kernel_rfl
theorem ap64 : AppIs Tryz.prog 64 72 4 40 := AppIs.of (z := .agg #[.int .i64 0, vs [], .int .i64 0, .int .i64 0]) (by kernel_rfl) (by kernel_rfl) rfl (by decide) (by decide)
def a6r (n : Nat) (s1 : Bs) : Nat → Int → (List Token) → Option ((List Token) × Int × Int)
 | 0, _, _ => none
 | mx1 + 1, atx1, l1 =>
  (ssl s1 atx1 s1.length).bind fun t1 =>
  (b2s n t1).bind fun v1 =>
  bif (iadd .i64 atx1 v1) == (s1.length : Int) then
   some (l1, 0, 0)
  else
   (ssl s1 (iadd .i64 atx1 v1) s1.length).bind fun t2 =>
   (b1g n t2).bind fun v2 =>
   bif v2.2.2 != 0 then
    some ([], iadd .i64 atx1 v1, v2.2.2)
   else
    (app 40 l1 [(⟨v2.1.Kind, v2.1.Text, v2.1.N, iadd .i64 atx1 v1⟩ : Token)]).bind fun l2 =>
    a6r n s1 mx1 (iadd .i64 (iadd .i64 atx1 v1) v2.2.1) l2
theorem b4b (n : Nat) (s1 : Bs) (mx1 : Nat) (atx1 : Int) (l1 : List Token) : a6r n s1 (mx1 + 1) atx1 l1 =
  (ssl s1 atx1 s1.length).bind fun t1 =>
  (b2s n t1).bind fun v1 =>
  bif (iadd .i64 atx1 v1) == (s1.length : Int) then
   some (l1, 0, 0)
  else
   (ssl s1 (iadd .i64 atx1 v1) s1.length).bind fun t2 =>
   (b1g n t2).bind fun v2 =>
   bif v2.2.2 != 0 then
    some ([], iadd .i64 atx1 v1, v2.2.2)
   else
    (app 40 l1 [(⟨v2.1.Kind, v2.1.Text, v2.1.N, iadd .i64 atx1 v1⟩ : Token)]).bind fun l2 =>
    a6r n s1 mx1 (iadd .i64 (iadd .i64 atx1 v1) v2.2.1) l2 := rfl
def b1f (n : Nat) (s1 : Bs) : Option ((List Token) × Int × Int) :=
 bif decide (4000 < (s1.length : Int)) then
  some ([], 0, 6)
 else
  a6r n s1 n 0 ([] : List Token)
theorem c2z (n : Nat) (s1 : Bs) (r : ((List Token) × Int × Int)) (hm : b1f n s1 = some r) {w : World} {F : Frz} (hs : Sat F w) (hg0 : FX F 0 [.int .u8 40, .int .u8 41, .int .u8 44, .int .u8 59, .int .u8 58, .int .u8 61, .int .u8 60, .int .u8 43, .int .u8 45, .int .u8 42, .int .u8 47, .int .u8 123, .int .u8 125]) :
  Calls Tryz.prog 27 #[vs s1] w fun e w' => ∃ v F' O', e = .returned v ∧ HS F w [] F' O' w' ∧ (∃ (a0_0 : Option Addr) (n0_0 : Nat) (c0_0 : Nat), v = .tuple #[.slice a0_0 n0_0 c0_0, .int .i64 r.2.1, .int .i64 r.2.2] ∧ O' = [] ∧ SlR rp_Token F' a0_0 n0_0 c0_0 r.1) := by
 unfold b1f at hm
 have h := HS.init hs
 refine a1a 45 Tryz.func27 Y Y Y (a0g (a0a (a0b Y Y Y (a0b Y Y Y (a0b Y Y Y (a0e (a0c (a0g (a0g (a0a (a0d Y Y Y (b0k u9 Y Y Y (a0u Y Y Y Y Y (a0e (a0c ?_)))))))))))))))
 rcases a0h hm with ⟨t, hm⟩ | ⟨t, hm⟩
 refine a0r 12 Y t (a0x Y (a0g (a0a (a0b Y Y Y (a0b Y Y Y (a0b Y Y Y (a0e (a0c (a1c (a0j (a1q (vl := [.slice none 0 0, .int .i64 0, .int .i64 6]) Y ⟨a1p Y, a1p Y, a1p Y, trivial⟩ (by simp) ?_)))))))))))
 obtain rfl := Yo hm
 exact ⟨_, _, _, Y, h.Yp [] Y Y, none, 0, 0, Y, Y, SlR.nil _ _⟩
 refine a0r 12 Y t (a0p Y (a1b (a0c (a0g (a0a (a0b Y Y Y (a0e (a0c (a0g (a0a (a0b Y Y Y (a0e (a0c (a1j ?_))))))))))))))
 have Q := h.nilRow 72 4
 intro a L
 replace hm : (fun m (s : Int × List Token) => a6r n s1 m s.1 s.2) n (0, ([] : List Token)) = some r := hm
 refine d5e (fun m (s : Int × List Token) => a6r n s1 m s.1 s.2) r (fun (s : Int × List Token) a w' => ∃ (p : Frz) (k : Option Addr) (g : Nat) (o : Nat) (xss2 : List Value), Frz.le F p ∧ HS F w [] p [.row 72 4 k g o xss2] w' ∧ (RowN rp_Token p g xss2 s.2) ∧ Has 45 a [(0, vs s1), (5, .slice k g o), (6, .int .i64 s.1)]) (fun _ => Y) ?_ hm ⟨_, none, 0, 0, [], Yf, Q.Yp [0] Y Y, ((show RowN rp_Token _ 0 [] [] from ⟨Y, Y⟩)), L.cut (l := [0, 5, 6]) Y⟩
 clear hm; intro mx1 K ihx1
 rintro ⟨atx1, l1⟩ a g9 hm ⟨p, k, g, o, xss2, z, u, G, M⟩
 simp only [b4b] at hm
 refine a1l M (a1j (a0g (a0a (a0d Y Y Y (a0d Y Y Y (a0d Y Y Y ?_))))))
 obtain ⟨t1, R, hm⟩ := Yb hm
 refine c5n u9 Y Y Y Y R ?_
 obtain ⟨v1, T, hm⟩ := Yb hm
 refine a2t ent59 Y Y Y Y (c3y _ _ _ T) (a0u Y Y Y Y Y (a0b Y Y Y (a0e (a0c (a0g (a0g (a0a (a0d Y Y Y (a0d Y Y Y (b0k u9 Y Y Y (a0u Y Y Y Y Y (a0e (a0c ?_)))))))))))))
 rcases a0h hm with ⟨x, hm⟩ | ⟨x, hm⟩
 refine a0r 22 Y x (a0x Y (a0g (a0a (a0d Y Y Y (a0b Y Y Y (a0b Y Y Y (a0b Y Y Y (a0e (a0c (a1c (a0j (a0t (a0j (a0t ?_))))))))))))))
 obtain ⟨ga, gb, U, hsx1⟩ := a1g u (i := 0) Y G
 refine a1q (vl := [.slice k g o, .int .i64 0, .int .i64 0]) Y ⟨a1p Y, a1p Y, a1p Y, trivial⟩ (by simp) ?_
 obtain rfl := Yo hm
 exact ⟨_, _, _, Y, U.Yp [] Y Y, k, g, o, Y, Y, hsx1⟩
 refine a0r 22 Y x (a0p Y (a1b (a0c (a0g (a0a (a0d Y Y Y (a0d Y Y Y ?_)))))))
 obtain ⟨t2, V, hm⟩ := Yb hm
 refine c5n u9 Y Y Y Y V ?_
 obtain ⟨v2, Z, hm⟩ := Yb hm
 refine a0i ent60 Y Y Y Y u (c2o _ _ _ Z u.sat (hg0.mono z)) ?_
 rintro _ g0 _ gc H g1 ⟨rfl, rfl⟩
 refine a0d Y Y Y (a0l Y Y Y Y (a0l Y Y Y Y (a0l Y Y Y Y (a1h ze72 Y Y Y g1 ?_))))
 intro b1 gd g2
 refine a0o sz72 Y g2 Y Y Y Y (i := 0) Y Y Y Y ?_
 intro ge I
 refine a0b Y Y Y (a0b Y Y Y (a0e (a0c (a0g (a0g (a0a (a0d Y Y Y (a0u Y Y Y Y Y (a0e (a0c ?_))))))))))
 rcases a0h hm with ⟨y, hm⟩ | ⟨y, hm⟩
 refine a0r 33 Y y (a0x Y (a0g (a0a (a0d Y Y Y (a0d Y Y Y (a0b Y Y Y (a0b Y Y Y (a0b Y Y Y (a0e (a0c (a1c (a0j (a0t (a0j (a0t (a1q (vl := [.slice none 0 0, .int .i64 (iadd .i64 atx1 v1), .int .i64 v2.2.2]) Y ⟨a1p Y, a1p Y, a1p Y, trivial⟩ (by simp) ?_))))))))))))))))
 obtain rfl := Yo hm
 exact ⟨_, _, _, Y, I.Yp [] Y Y, none, 0, 0, Y, Y, SlR.nil _ _⟩
 refine a0r 33 Y y (a0p Y (a1b (a0c (a0g (a0a (a0d Y Y Y (a0f fa72_3 Y Y Y (a0o sz3 Y I Y Y Y Y (i := 0) Y Y Y Y ?_))))))))
 intro gf J
 refine a0e (a0c (a0g (a0a (a0d Y Y Y (a0q ag72 sz72 Y Y J Y (i := 0) Y Y (a1f (e := 72) (cs := [.int .i64 v2.1.Kind, vs v2.1.Text, .int .i64 v2.1.N, .int .i64 (iadd .i64 atx1 v1)]) (q := 4) Y Y J Y (fun _ => by kernel_rfl) Y Y ?_))))))
 intro b2 gg g3
 obtain ⟨l2, g4, hm⟩ := Yb hm
 refine a4n (r := rp_Token) ap64 Y Y g3 Y Y (i := 2) (j := 0) Y Y (G.mono H) ((show RowN rp_Token g0 1 [.int .i64 v2.1.Kind, vs v2.1.Text, .int .i64 v2.1.N, .int .i64 (iadd .i64 atx1 v1)] [(⟨v2.1.Kind, v2.1.Text, v2.1.N, iadd .i64 atx1 v1⟩ : Token)] from ⟨Y, ⟨_, _, Y, Y, (Y : RowR rp_Token _ [] [])⟩⟩)) g4 ?_
 intro g5 g6 gh g7 g8
 refine a0b Y Y Y (a0e (a0c (a0a (a0d Y Y Y (a0d Y Y Y (a0u Y Y Y Y Y (a0b Y Y Y (a0e (a1o (a0k (fun a ha => ihx1 ((iadd .i64 (iadd .i64 atx1 v1) v2.2.1), l2) a _ hm ?_)))))))))))
 exact ⟨_, g5, (g + 1), g6, (xss2 ++ [.int .i64 v2.1.Kind, vs v2.1.Text, .int .i64 v2.1.N, .int .i64 (iadd .i64 atx1 v1)]), (z.trans H), g7.Yp [2] Y Y, g8, ha.cut (l := [0, 5, 6]) Y⟩
theorem u28 : Tryz.prog.underlying 28 = some (.slice 3) := by kernel_rfl
theorem ag3 : a9h Tryz.prog 3 false := fun _ => by kernel_rfl
def a6z (n : Nat) (l1 : (List Int)) (kont1 : Int → Option (List Int)) : Nat → Int → Option (List Int)
 | 0, _ => none
 | mx1 + 1, nx1 =>
  (bif decide (0 < nx1) then
   (ix l1 (isub .i64 nx1 1)).bind fun ex1 =>
   some (ex1 == 0)
  else
   some false).bind fun v1 =>
  bif v1 then
   a6z n l1 kont1 mx1 (isub .i64 nx1 1)
  else
   kont1 nx1
theorem a9m (n : Nat) (l1 : (List Int)) (kont1 : Int → Option (List Int)) (mx1 : Nat) (nx1 : Int) : a6z n l1 kont1 (mx1 + 1) nx1 =
  (bif decide (0 < nx1) then
   (ix l1 (isub .i64 nx1 1)).bind fun ex1 =>
   some (ex1 == 0)
  else
   some false).bind fun v1 =>
  bif v1 then
   a6z n l1 kont1 mx1 (isub .i64 nx1 1)
  else
   kont1 nx1 := rfl
def a3r (n : Nat) (l1 : (List Int)) : Option (List Int) :=
 a6z n l1 (fun (nx2 : Int) =>
  (lsl l1 0 nx2).bind fun l2 =>
  some l2) n (l1.length : Int)
theorem a7n (n : Nat) (l1 : (List Int)) (r : (List Int)) (hm : a3r n l1 = some r) {w : World} {F : Frz} (hs : Sat F w) {k : Option Addr} {o : Nat} {g : Nat} (p : SlR (Rp.int .i64) F k o g l1) :
  Calls Tryz.prog 118 #[.slice k o g] w fun e w' => ∃ m', e = .returned (.slice k m' g) ∧ w' = w ∧ m' ≤ o ∧ r = l1.take m' := by
 unfold a3r at hm
 have h := HS.init hs
 refine a1a 21 Tryz.func118 Y Y Y (a0g (a0a (a0b Y Y Y (a0e (a0c (a0g (a0a (a0d Y Y Y (a1y p.len u28 Y Y Y (a0b Y Y Y (a0e (a0c (a0g (a1j ?_))))))))))))))
 intro a u
 obtain ⟨kont1, hkont1⟩ : ∃ kont1 : Int → Option (List Int), kont1 = (fun (nx2 : Int) => (lsl l1 0 nx2).bind fun l2 => some l2) := ⟨_, Y⟩
 replace hm : (fun m (s : Int) => a6z n l1 kont1 m s) n (l1.length : Int) = some r := by rw [hkont1]; exact hm
 refine a5j (id := 0) (fun m (s : Int) => a6z n l1 kont1 m s) (fun (y : Int) => kont1 y) r (fun (s : Int) a w' => w = w' ∧ Has 21 a [(0, .slice k o g), (3, .int .i64 s)]) (fun (y : Int) a w' => w = w' ∧ Has 21 a [(0, .slice k o g), (3, .int .i64 y)]) (fun _ => Y) ?_ ?_ hm ⟨Y, u.cut (l := [0, 3]) Y⟩
 clear hm; rintro nx2 a M hm ⟨rfl, v⟩
 rw [hkont1] at hm
 replace hm := hm
 refine a2c (e := .exit 0) v (a1m (a0c (a0g (a0a (a0d Y Y Y (a0d Y Y Y ?_))))))
 obtain ⟨l2, G, hm⟩ := Yb hm
 refine d6q u28 (r := (Rp.int .i64)) sz3 Y Y Y Y p G ?_
 intro N hvs2 hns2
 refine a0b Y Y Y (a0e (a0c (a1c (a1n Y Y ?_))))
 obtain rfl := Yo hm
 exact ⟨_, Y, Y, hns2, hvs2⟩
 clear hm hkont1; intro hk1 mx1 K ihx1
 rintro nx1 a Q hm ⟨rfl, x⟩
 simp only [a9m] at hm
 refine a1l x (a0g (a0g (a0a (a0d Y Y Y (a0u Y Y Y Y Y (a0d Y Y Y ?_))))))
 obtain ⟨v1, i, hm⟩ := Yb hm
 refine a2g 7 (fun a w' => w = w' ∧ Has 21 a [(0, .slice k o g), (3, .int .i64 nx1), (15, .bool v1)]) ?_ ?_
 rintro a R ⟨rfl, z⟩
 refine a1d z (a0e (a0c ?_))
 rcases a0h hm with ⟨q, hm⟩ | ⟨q, hm⟩
 refine a0r 15 Y q (a0x Y (a1b (a0c (a1j (a0a (a0d Y Y Y (a0u Y Y Y Y Y (a0b Y Y Y (a0e (a1o (a0k (fun a ha => ihx1 (isub .i64 nx1 1) a _ hm ?_))))))))))))
 exact ⟨Y, ha.cut (l := [0, 3]) Y⟩
 refine a0r 15 Y q (a0p Y (a3p (a0w (a0w (fun a ha => hk1 nx1 a _ hm ?_)))))
 exact ⟨Y, ha.cut (l := [0, 3]) Y⟩
 clear hm
 rcases a0h i with ⟨t, i⟩ | ⟨t, i⟩
 refine a1k 8 Y t (a0d Y Y Y (a0d Y Y Y (a0u Y Y Y Y Y ?_)))
 obtain ⟨ex1, H, i⟩ := Yb i
 refine a2r (r := (Rp.int .i64)) u28 sz3 Y Y Y Y p H ?_
 intro b1 o1 g I J
 have L : g = [.int .i64 ex1] := J
 subst L
 refine a2j (j := 0) ag3 Y Y h I Y Y (a0u Y Y Y Y Y (a0s Y Y Y Y (a0e (a0k (fun a ha => ?_)))))
 cases i
 exact ⟨Y, ha.cut (l := [0, 3, 15]) Y⟩
 refine a1k 8 Y t (a0y Y (by decide) Y (a0y Y (by decide) Y (a0y Y (by decide) Y (a0y Y (by decide) Y (a0y Y (by decide) Y (a0y Y (by decide) Y (a0m Y Y Y Y (a0e (a0k (fun a ha => ?_))))))))))
 cases i
 exact ⟨Y, ha.cut (l := [0, 3, 15]) Y⟩
structure Big where
 Sign : Int
 Digits : (List Int)
 deriving DecidableEq, Inhabited
def rp_Big : Rp Big where
 k := 2
 R := fun F cs x => ∃ (a1 : Option Addr) (n1 : Nat) (c1 : Nat), cs = [.int .i64 x.Sign, .slice a1 n1 c1] ∧ SlR (Rp.int .i64) F a1 n1 c1 x.Digits
 len := by rintro F cs x ⟨a1, n1, c1, h, _⟩; simp [h]
 mono := by rintro F F' cs x hF ⟨a1, n1, c1, h, h0⟩; exact ⟨a1, n1, c1, h, h0.mono hF⟩
 one := by rintro F cs x ⟨a1, n1, c1, h, _⟩ u hu; subst h; simp at hu; rcases hu with rfl | rfl <;> rfl
theorem ze35 : b9o Tryz.prog 35 (.agg #[.int .i64 0, .slice none 0 0]) := fun _ => by kernel_rfl
theorem ent118 : Ent Tryz.prog 118 := fun _ _ => by kernel_rfl
theorem sz35 : a4i Tryz.prog 35 2 := fun _ => by kernel_rfl
theorem ag35 : a9h Tryz.prog 35 true := fun _ => by kernel_rfl
def a3o (n : Nat) (sign1 : Int) (l1 : (List Int)) : Option Big :=
 (a3r n l1).bind fun v1 =>
 bif (v1.length : Int) == 0 then
  some (⟨0, []⟩ : Big)
 else
  some (⟨sign1, v1⟩ : Big)
theorem a4f (n : Nat) (sign1 : Int) (l1 : (List Int)) (r : Big) (hm : a3o n sign1 l1 = some r) {w : World} {F : Frz} (hs : Sat F w) {g : Option Addr} {o : Nat} {j : Nat} (k : SlR (Rp.int .i64) F g o j l1) :
  Calls Tryz.prog 94 #[.int .i64 sign1, .slice g o j] w fun e w' => ∃ v F' O', e = .returned v ∧ HS F w [] F' O' w' ∧ (∃ (a0_1 : Option Addr) (n0_1 : Nat) (c0_1 : Nat), v = .agg #[.int .i64 r.Sign, .slice a0_1 n0_1 c0_1] ∧ O' = [] ∧ SlR (Rp.int .i64) F' a0_1 n0_1 c0_1 r.Digits) := by
 unfold a3o at hm
 have h := HS.init hs
 refine a1a 14 Tryz.func94 Y Y Y (a0g (a0a (a1h ze35 Y Y Y h ?_)))
 intro b1 u l
 refine a0e (a0c (a0g (a0a (a0d Y Y Y ?_))))
 obtain ⟨v1, t, hm⟩ := Yb hm
 refine b3v ent118 Y Y Y Y (a7n _ _ _ t l.sat k) ?_
 intro p hles2 hvs2
 refine a0b Y Y Y (a0e (a0c (a0g (a0g (a0a (a0d Y Y Y (a1y ((SlR.takeN k hles2 hvs2).len) u28 Y Y Y (a0u Y Y Y Y Y (a0e (a0c ?_))))))))))
 rcases a0h hm with ⟨m, hm⟩ | ⟨m, hm⟩
 refine a0r 9 Y m (a0x Y (a0g (a0a (a1r (v := .agg #[.int .i64 0, .slice none 0 0]) Y Y Y (fun _ => by kernel_rfl) (a0o sz35 Y l Y Y Y Y (i := 0) Y Y Y Y ?_)))))
 intro x q
 refine a0e (a0c (a1c (a0j (a3h Y ag35 sz35 Y q Y (i := 0) Y ?_))))
 obtain rfl := Yo hm
 exact ⟨_, _, _, Y, q.Yp [] Y Y, none, 0, 0, Y, Y, SlR.nil _ _⟩
 refine a0r 9 Y m (a0p Y (a1b (a0c (a0g (a0a (a0d Y Y Y (a0d Y Y Y (a1r (v := .agg #[.int .i64 sign1, .slice g p j]) Y Y Y (fun _ => by kernel_rfl) (a0o sz35 Y l Y Y Y Y (i := 0) Y Y Y Y ?_)))))))))
 intro y s
 refine a0e (a0c (a1c (a3h Y ag35 sz35 Y s Y (i := 0) Y ?_)))
 obtain rfl := Yo hm
 exact ⟨_, _, _, Y, s.Yp [] Y Y, g, p, j, Y, Y, ((SlR.takeN k hles2 hvs2))⟩
theorem fa35_1 : a4v Tryz.prog 35 1 1 := fun _ _ _ => by kernel_rfl
theorem ag28 : a9h Tryz.prog 28 false := fun _ => by kernel_rfl
theorem fa35_0 : a4v Tryz.prog 35 0 0 := fun _ _ _ => by kernel_rfl
def a7p (n : Nat) (ax1 : Big) (kont1 : Option Bool) : Nat → Int → Option Bool
 | 0, _ => none
 | mx1 + 1, i1 =>
  bif decide (i1 < (ax1.Digits.length : Int)) then
   (ix ax1.Digits i1).bind fun ex2 =>
   (bif decide (ex2 < 0) then
    some true
   else
    some (decide (1048575 < ex2))).bind fun v3 =>
   bif v3 then
    some false
   else
    a7p n ax1 kont1 mx1 (iadd .i64 i1 1)
  else
   kont1
theorem b2j (n : Nat) (ax1 : Big) (kont1 : Option Bool) (mx1 : Nat) (i1 : Int) : a7p n ax1 kont1 (mx1 + 1) i1 =
  bif decide (i1 < (ax1.Digits.length : Int)) then
   (ix ax1.Digits i1).bind fun ex2 =>
   (bif decide (ex2 < 0) then
    some true
   else
    some (decide (1048575 < ex2))).bind fun v3 =>
   bif v3 then
    some false
   else
    a7p n ax1 kont1 mx1 (iadd .i64 i1 1)
  else
   kont1 := rfl
def a3t (n : Nat) (ax1 : Big) : Option Bool :=
 a7p n ax1 (
  bif (ax1.Digits.length : Int) == 0 then
   some (ax1.Sign == 0)
  else
   (bif ax1.Sign == 1 then
    some true
   else
    some (ax1.Sign == (-1))).bind fun v1 =>
   (bif v1 then
    (ix ax1.Digits (isub .i64 (ax1.Digits.length : Int) 1)).bind fun ex1 =>
    some (ex1 != 0)
   else
    some false).bind fun v2 =>
   some v2) n 0
theorem a3i (n : Nat) (ax1 : Big) (r : Bool) (hm : a3t n ax1 = some r) {w : World} {F : Frz} (hs : Sat F w) {u : Option Addr} {x : Nat} {o : Nat} (z : SlR (Rp.int .i64) F u x o ax1.Digits) :
  Calls Tryz.prog 74 #[.agg #[.int .i64 ax1.Sign, .slice u x o]] w fun e w' => ∃ v F' O', e = .returned v ∧ HS F w [] F' O' w' ∧ (v = .bool r ∧ O' = []) := by
 unfold a3t at hm
 have h := HS.init hs
 refine a1a 45 Tryz.func74 Y Y Y (a0g (a0a (a2z Y Y Y Y h ?_)))
 intro b1 p g
 refine a0b Y Y Y (a0e (a0c (a0g (a0a (a0f fa35_1 Y Y Y (a0n ag28 Y Y g Y (i := 0) Y Y (a1y z.len u28 Y Y Y (a0b Y Y Y (a0e (a0c (a0g (a0g (a0a (a0f fa35_1 Y Y Y (a0n ag28 Y Y g Y (i := 0) Y Y ?_)))))))))))))))
 refine a1y z.len u28 Y Y Y (a0d Y Y Y (a0e (a0c (a1j ?_))))
 intro a N
 obtain ⟨kont1, hkont1⟩ : ∃ kont1 : Option Bool, kont1 = ( bif (ax1.Digits.length : Int) == 0 then some (ax1.Sign == 0) else (bif ax1.Sign == 1 then some true else some (ax1.Sign == (-1))).bind fun v1 => (bif v1 then (ix ax1.Digits (isub .i64 (ax1.Digits.length : Int) 1)).bind fun ex1 => some (ex1 != 0) else some false).bind fun v2 => some v2) := ⟨_, Y⟩
 replace hm : (fun m (s : Int) => a7p n ax1 kont1 m s) n 0 = some r := by rw [hkont1]; exact hm
 refine a5j (id := 0) (fun m (s : Int) => a7p n ax1 kont1 m s) (fun (y : Unit) => kont1) r (fun (s : Int) a w' => p = w' ∧ Has 45 a [(1, .pointer (some ⟨b1, 0, none⟩)), (3, .int .i64 (ax1.Digits.length : Int)), (10, .slice u x o), (11, .int .i64 (ax1.Digits.length : Int)), (12, .int .i64 s)]) (fun (y : Unit) a w' => p = w' ∧ Has 45 a [(1, .pointer (some ⟨b1, 0, none⟩)), (3, .int .i64 (ax1.Digits.length : Int))]) (fun _ => Y) ?_ ?_ hm ⟨Y, N.cut (l := [1, 3, 10, 11, 12]) Y⟩
 clear hm; rintro _u a g8 hm ⟨rfl, Q⟩
 rw [hkont1] at hm
 refine a2c (e := .exit 0) Q (a1m (a0c (a0g (a0g (a0a (a0d Y Y Y (a0u Y Y Y Y Y (a0e (a0c ?_)))))))))
 rcases a0h hm with ⟨G, hm⟩ | ⟨G, hm⟩
 refine a0r 24 Y G (a0x Y (a0g (a0a (a0f fa35_0 Y Y Y (a0n ag3 Y Y g Y (i := 0) Y Y (a0u Y Y Y Y Y (a0b Y Y Y (a0e (a0c (a1c (a0j (a1n Y Y ?_))))))))))))
 obtain rfl := Yo hm
 exact ⟨_, _, _, Y, g.Yp [] Y Y, Y, Y⟩
 refine a0r 24 Y G (a0p Y (a1b (a0c (a0g (a0a (a0f fa35_0 Y Y Y (a0n ag3 Y Y g Y (i := 0) Y Y (a0u Y Y Y Y Y (a0d Y Y Y ?_)))))))))
 obtain ⟨v1, q, hm⟩ := Yb hm
 refine a2g 4 (fun a w' => p = w' ∧ Has 45 a [(1, .pointer (some ⟨b1, 0, none⟩)), (3, .int .i64 (ax1.Digits.length : Int)), (35, .bool v1)]) ?_ ?_
 rintro a g9 ⟨rfl, R⟩
 refine a1d R (a0d Y Y Y ?_)
 obtain ⟨v2, k, hm⟩ := Yb hm
 refine a2g 8 (fun a w' => p = w' ∧ Has 45 a [(44, .bool v2)]) ?_ ?_
 rintro a ga ⟨rfl, T⟩
 refine a1d T (a0b Y Y Y (a0e (a0c (a1c (a1n Y Y ?_)))))
 obtain rfl := Yo hm
 exact ⟨_, _, _, Y, g.Yp [] Y Y, Y, Y⟩
 clear hm
 rcases a0h k with ⟨H, k⟩ | ⟨H, k⟩
 refine a1k 36 Y H (a0f fa35_1 Y Y Y (a0n ag28 Y Y g Y (i := 0) Y Y (a0d Y Y Y (a0u Y Y Y Y Y ?_))))
 obtain ⟨ex1, Z, k⟩ := Yb k
 refine a2r (r := (Rp.int .i64)) u28 sz3 Y Y Y Y z Z ?_
 intro b2 o1 o g0 g1
 have g2 : o = [.int .i64 ex1] := g1
 subst g2
 refine a2j (j := 0) ag3 Y Y g g0 Y Y (a0u Y Y Y Y Y (a0s Y Y Y Y (a0e (a0k (fun a ha => ?_)))))
 cases k
 exact ⟨Y, ha.cut (l := [44]) Y⟩
 refine a1k 36 Y H (a0y Y (by decide) Y (a0y Y (by decide) Y (a0y Y (by decide) Y (a0y Y (by decide) Y (a0y Y (by decide) Y (a0y Y (by decide) Y (a0y Y (by decide) Y (a0m Y Y Y Y (a0e (a0k (fun a ha => ?_)))))))))))
 cases k
 exact ⟨Y, ha.cut (l := [44]) Y⟩
 clear hm
 rcases a0h q with ⟨I, q⟩ | ⟨I, q⟩
 refine a1k 31 Y I (a0y Y (by decide) Y (a0y Y (by decide) Y (a0y Y (by decide) Y (a0s Y Y Y Y (a0e (a0k (fun a ha => ?_)))))))
 cases q
 exact ⟨Y, ha.cut (l := [1, 3, 35]) Y⟩
 refine a1k 31 Y I (a0f fa35_0 Y Y Y (a0n ag3 Y Y g Y (i := 0) Y Y (a0u Y Y Y Y Y (a0m Y Y Y Y (a0e (a0k (fun a ha => ?_)))))))
 cases q
 exact ⟨Y, ha.cut (l := [1, 3, 35]) Y⟩
 clear hm hkont1; intro hk1 mx1 K ihx1
 rintro i1 a gb hm ⟨rfl, U⟩
 simp only [b2j] at hm
 refine a1l U (a0g (a0a (a0u Y Y Y Y Y (a0e (a0c (a0g ?_))))))
 rcases a0h hm with ⟨J, hm⟩ | ⟨J, hm⟩
 refine a0r 13 Y J (a0x Y (a1b (a0c (a0g (a1j (a0g (a0a ?_)))))))
 obtain ⟨ex2, g3, hm⟩ := Yb hm
 refine a2r (r := (Rp.int .i64)) u28 sz3 Y Y Y Y z g3 ?_
 intro b3 o2 g4 g5 g6
 have g7 : g4 = [.int .i64 ex2] := g6
 subst g7
 refine a2j (j := 0) ag3 Y Y g g5 Y Y (a0b Y Y Y (a0e (a0c (a0g (a0a (a0d Y Y Y (a0u Y Y Y Y Y (a0d Y Y Y ?_))))))))
 obtain ⟨v3, t, hm⟩ := Yb hm
 refine a2g 3 (fun a w' => p = w' ∧ Has 45 a [(1, .pointer (some ⟨b1, 0, none⟩)), (3, .int .i64 (ax1.Digits.length : Int)), (10, .slice u x o), (11, .int .i64 (ax1.Digits.length : Int)), (12, .int .i64 i1), (21, .bool v3)]) ?_ ?_
 rintro a gc ⟨rfl, V⟩
 refine a1d V (a0e (a0c ?_))
 rcases a0h hm with ⟨L, hm⟩ | ⟨L, hm⟩
 refine a0r 21 Y L (a0x Y (a0g (a0a (a0b Y Y Y (a0e (a0c (a1c (a0t (a0j (a0j (a0t (a0j (a1n Y Y ?_)))))))))))))
 obtain rfl := Yo hm
 exact ⟨_, _, _, Y, g.Yp [] Y Y, Y, Y⟩
 refine a0r 21 Y L (a0p Y (a1b (a1o (a0c (a0a (a0u Y Y Y Y Y (a0d Y Y Y (a0e (a0k (fun a ha => ihx1 (iadd .i64 i1 1) a _ hm ?_))))))))))
 exact ⟨Y, ha.cut (l := [1, 3, 10, 11, 12]) Y⟩
 clear hm
 rcases a0h t with ⟨M, t⟩ | ⟨M, t⟩
 refine a1k 18 Y M (a0y Y (by decide) Y (a0y Y (by decide) Y (a0s Y Y Y Y (a0e (a0k (fun a ha => ?_))))))
 cases t
 exact ⟨Y, ha.cut (l := [1, 3, 10, 11, 12, 21]) Y⟩
 refine a1k 18 Y M (a0d Y Y Y (a0u Y Y Y Y Y (a0m Y Y Y Y (a0e (a0k (fun a ha => ?_))))))
 cases t
 exact ⟨Y, ha.cut (l := [1, 3, 10, 11, 12, 21]) Y⟩
 refine a0r 13 Y J (a0p Y (a3p (a0w (a0w (fun a ha => hk1 () a _ hm ?_)))))
 exact ⟨Y, ha.cut (l := [1, 3]) Y⟩
def cmp_isNaN_int (_n : Nat) (x1 : Int) : Option Bool :=
 some (x1 != x1)
theorem b3p (n : Nat) (x1 : Int) (r : Bool) (hm : cmp_isNaN_int n x1 = some r) {w : World}  :
  Calls Tryz.prog 119 #[.int .i64 x1] w fun e w' => e = .returned (.bool r) ∧ w' = w := by
 unfold cmp_isNaN_int at hm
 refine a1a 6 Tryz.func119 Y Y Y (a0g (a0a (a0b Y Y Y (a0e (a0c (a0g (a0a (a0d Y Y Y (a0d Y Y Y (a0u Y Y Y Y Y (a0b Y Y Y (a0e (a0c (a1c (a1n Y Y ?_)))))))))))))))
 obtain rfl := Yo hm
 exact ⟨Y, Y⟩
theorem ent119 : Ent Tryz.prog 119 := fun _ _ => by kernel_rfl
def cmp_Compare_int (n : Nat) (x1 : Int) (y1 : Int) : Option Int :=
 (cmp_isNaN_int n x1).bind fun v1 =>
 (cmp_isNaN_int n y1).bind fun v2 =>
 bif v1 then
  bif v2 then
   some 0
  else
   some (-1)
 else
  bif v2 then
   some 1
  else
   bif decide (x1 < y1) then
    some (-1)
   else
    bif decide (y1 < x1) then
     some 1
    else
     some 0
theorem a9n (n : Nat) (x1 : Int) (y1 : Int) (r : Int) (hm : cmp_Compare_int n x1 y1 = some r) {w : World}  :
  Calls Tryz.prog 95 #[.int .i64 x1, .int .i64 y1] w fun e w' => e = .returned (.int .i64 r) ∧ w' = w := by
 unfold cmp_Compare_int at hm
 refine a1a 20 Tryz.func95 Y Y Y (a0g (a0a (a0b Y Y Y (a0e (a0c (a0g (a0a (a0d Y Y Y ?_))))))))
 obtain ⟨v1, l, hm⟩ := Yb hm
 refine a2t ent119 Y Y Y Y (b3p _ _ _ l) (a0b Y Y Y (a0e (a0c (a0g (a0a (a0d Y Y Y ?_))))))
 obtain ⟨v2, m, hm⟩ := Yb hm
 refine a2t ent119 Y Y Y Y (b3p _ _ _ m) (a0b Y Y Y (a0e (a0c (a0g (a0g (a0a (a0d Y Y Y (a0e (a0c ?_)))))))))
 rcases a0h hm with ⟨g, hm⟩ | ⟨g, hm⟩
 refine a0r 11 Y g (a0x Y (a0g (a0g (a0a (a0d Y Y Y (a0e (a0c ?_)))))))
 rcases a0h hm with ⟨h, hm⟩ | ⟨h, hm⟩
 refine a0r 12 Y h (a0x Y (a0g (a0a (a0b Y Y Y (a0e (a0c (a1c (a0j (a0j (a1n Y Y ?_))))))))))
 obtain rfl := Yo hm
 exact ⟨Y, Y⟩
 refine a0r 12 Y h (a0p Y (a1b (a0c (a0g (a0a (a0b Y Y Y (a0e (a0c (a1c (a0j (a1n Y Y ?_)))))))))))
 obtain rfl := Yo hm
 exact ⟨Y, Y⟩
 refine a0r 11 Y g (a0p Y (a1b (a0c (a0g (a0g (a0a (a0d Y Y Y (a0e (a0c ?_)))))))))
 rcases a0h hm with ⟨i, hm⟩ | ⟨i, hm⟩
 refine a0r 13 Y i (a0x Y (a0g (a0a (a0b Y Y Y (a0e (a0c (a1c (a0j (a1n Y Y ?_)))))))))
 obtain rfl := Yo hm
 exact ⟨Y, Y⟩
 refine a0r 13 Y i (a0p Y (a1b (a0c (a0g (a0g (a0a (a0d Y Y Y (a0d Y Y Y (a0u Y Y Y Y Y (a0e (a0c ?_)))))))))))
 rcases a0h hm with ⟨j, hm⟩ | ⟨j, hm⟩
 refine a0r 16 Y j (a0x Y (a0g (a0a (a0b Y Y Y (a0e (a0c (a1c (a0j (a1n Y Y ?_)))))))))
 obtain rfl := Yo hm
 exact ⟨Y, Y⟩
 refine a0r 16 Y j (a0p Y (a1b (a0c (a0g (a0g (a0a (a0d Y Y Y (a0d Y Y Y (a0u Y Y Y Y Y (a0e (a0c ?_)))))))))))
 rcases a0h hm with ⟨k, hm⟩ | ⟨k, hm⟩
 refine a0r 19 Y k (a0x Y (a0g (a0a (a0b Y Y Y (a0e (a0c (a1c (a0j (a1n Y Y ?_)))))))))
 obtain rfl := Yo hm
 exact ⟨Y, Y⟩
 refine a0r 19 Y k (a0p Y (a1b (a0c (a0g (a0a (a0b Y Y Y (a0e (a0c (a1c (a1n Y Y ?_))))))))))
 obtain rfl := Yo hm
 exact ⟨Y, Y⟩
theorem ent95 : Ent Tryz.prog 95 := fun _ _ => by kernel_rfl
def a6b (n : Nat) (ax1 : (List Int)) (b1 : (List Int)) (kont1 : Option Int) : Nat → Int → Option Int
 | 0, _ => none
 | mx1 + 1, i1 =>
  bif decide (0 ≤ i1) then
   (ix ax1 i1).bind fun ex1 =>
   (ix b1 i1).bind fun ex2 =>
   bif ex1 != ex2 then
    (ix ax1 i1).bind fun ex3 =>
    (ix b1 i1).bind fun ex4 =>
    (cmp_Compare_int n ex3 ex4).bind fun v2 =>
    some v2
   else
    a6b n ax1 b1 kont1 mx1 (isub .i64 i1 1)
  else
   kont1
theorem b0y (n : Nat) (ax1 : (List Int)) (b1 : (List Int)) (kont1 : Option Int) (mx1 : Nat) (i1 : Int) : a6b n ax1 b1 kont1 (mx1 + 1) i1 =
  bif decide (0 ≤ i1) then
   (ix ax1 i1).bind fun ex1 =>
   (ix b1 i1).bind fun ex2 =>
   bif ex1 != ex2 then
    (ix ax1 i1).bind fun ex3 =>
    (ix b1 i1).bind fun ex4 =>
    (cmp_Compare_int n ex3 ex4).bind fun v2 =>
    some v2
   else
    a6b n ax1 b1 kont1 mx1 (isub .i64 i1 1)
  else
   kont1 := rfl
def a7o (n : Nat) (ax1 : (List Int)) (b1 : (List Int)) : Option Int :=
 bif (ax1.length : Int) != (b1.length : Int) then
  (cmp_Compare_int n (ax1.length : Int) (b1.length : Int)).bind fun v1 =>
  some v1
 else
  a6b n ax1 b1 (
   some 0) n (isub .i64 (ax1.length : Int) 1)
theorem b2h (n : Nat) (ax1 : (List Int)) (b1 : (List Int)) (r : Int) (hm : a7o n ax1 b1 = some r) {w : World} {F : Frz} (hs : Sat F w) {q t : Option Addr} {u i x k : Nat} (o : SlR (Rp.int .i64) F q u i ax1) (p : SlR (Rp.int .i64) F t x k b1) :
  Calls Tryz.prog 96 #[.slice q u i, .slice t x k] w fun e w' => ∃ v F' O', e = .returned v ∧ HS F w [] F' O' w' ∧ (v = .int .i64 r ∧ O' = []) := by
 unfold a7o at hm
 have h := HS.init hs
 refine a1a 41 Tryz.func96 Y Y Y (a0g (a0a (a0b Y Y Y (a0e (a0c (a0g (a0g (a0a (a0d Y Y Y (a1y o.len u28 Y Y Y (a0d Y Y Y (a1y p.len u28 Y Y Y (a0u Y Y Y Y Y (a0e (a0c ?_)))))))))))))))
 rcases a0h hm with ⟨z, hm⟩ | ⟨z, hm⟩
 refine a0r 10 Y z (a0x Y (a0g (a0a (a0d Y Y Y (a1y o.len u28 Y Y Y (a0d Y Y Y (a1y p.len u28 Y Y Y ?_)))))))
 obtain ⟨v1, g1, hm⟩ := Yb hm
 refine a2t ent95 Y Y Y Y (a9n _ _ _ _ g1) (a0b Y Y Y (a0e (a0c (a1c (a0j (a1n Y Y ?_))))))
 obtain rfl := Yo hm
 exact ⟨_, _, _, Y, h.Yp [] Y Y, Y, Y⟩
 refine a0r 10 Y z (a0p Y (a1b (a0c (a0g (a0g (a0a (a0d Y Y Y (a1y o.len u28 Y Y Y (a0u Y Y Y Y Y (a0b Y Y Y (a0e (a0c (a1j ?_)))))))))))))
 intro a V
 obtain ⟨kont1, hkont1⟩ : ∃ kont1 : Option Int, kont1 = ( some 0) := ⟨_, Y⟩
 replace hm : (fun m (s : Int) => a6b n ax1 b1 kont1 m s) n (isub .i64 (ax1.length : Int) 1) = some r := by rw [hkont1]; exact hm
 refine a5j (id := 0) (fun m (s : Int) => a6b n ax1 b1 kont1 m s) (fun (y : Unit) => kont1) r (fun (s : Int) a w' => ∃ (G : Frz), Frz.le F G ∧ HS F w [] G [] w' ∧ Has 41 a [(0, .slice q u i), (1, .slice t x k), (5, .int .i64 s)]) (fun (y : Unit) a w' => ∃ (H : Frz), Frz.le F H ∧ HS F w [] H [] w' ∧ Has 41 a []) (fun _ => Y) ?_ ?_ hm ⟨_, Yf, h.Yp [] Y Y, V.cut (l := [0, 1, 5]) Y⟩
 clear hm; rintro _u a gn hm ⟨H, go, g2, Z⟩
 rw [hkont1] at hm
 refine a2c (e := .exit 0) Z (a1m (a0c (a0g (a0a (a0b Y Y Y (a0e (a0c (a1c (a1n Y Y ?_)))))))))
 obtain rfl := Yo hm
 exact ⟨_, _, _, Y, g2.Yp [] Y Y, Y, Y⟩
 clear hm hkont1; intro hk1 mx1 K ihx1
 rintro i1 a gp hm ⟨G, g, T, g0⟩
 simp only [b0y] at hm
 refine a1l g0 (a0g (a0g (a0a (a0d Y Y Y (a0u Y Y Y Y Y (a0e (a0c ?_)))))))
 rcases a0h hm with ⟨I, hm⟩ | ⟨I, hm⟩
 refine a0r 20 Y I (a0x Y (a1b (a0c (a0g (a1j (a0g (a3n (by kernel_rfl) (by kernel_rfl) T (a1e Y Y Y Y (fun _ _ _ _ => a0d Y Y Y Yn) (a1e Y Y Y Y (fun _ _ _ _ => a0d Y Y Y Yn) ?_)))))))))
 obtain ⟨ex1, g3, hm⟩ := Yb hm
 obtain ⟨b2, o1, i, g4, g5, M⟩ := a2k (P := Tryz.prog) (r := (Rp.int .i64)) u28 sz3 (o.mono g) g3
 have g6 : i = [.int .i64 ex1] := g5
 subst g6
 refine a2s Y Y Y Y M (a1e Y Y Y Y (fun _ _ hleq hq => a2j (j := 0) ag3 Y Y hq (g4.mono hleq) Y Y Yn) (a1e Y Y Y Y (fun _ _ _ _ => a0d Y Y Y Yn) (a1e Y Y Y Y (fun _ _ _ _ => a0d Y Y Y Yn) ?_)))
 obtain ⟨ex2, g7, hm⟩ := Yb hm
 obtain ⟨b3, o2, k, g8, g9, N⟩ := a2k (P := Tryz.prog) (r := (Rp.int .i64)) u28 sz3 (p.mono g) g7
 have ga : k = [.int .i64 ex2] := g9
 subst ga
 refine a2s Y Y Y Y N (a1e Y Y Y Y (fun _ _ hleq hq => a2j (j := 0) ag3 Y Y hq (g8.mono hleq) Y Y Yn) (a1e Y Y Y Y (fun _ _ _ _ => a0u Y Y Y Y Y Yn) (b0z ?_)))
 rintro gq ⟨gr, J, U⟩
 refine a0c ?_
 rcases a0h hm with ⟨L, hm⟩ | ⟨L, hm⟩
 refine a0r 31 Y L (a0x Y (a0g (a3n (by kernel_rfl) (by kernel_rfl) U (a1e Y Y Y Y (fun _ _ _ _ => a0d Y Y Y Yn) (a1e Y Y Y Y (fun _ _ _ _ => a0d Y Y Y Yn) ?_)))))
 obtain ⟨ex3, gb, hm⟩ := Yb hm
 obtain ⟨b4, o3, gc, gd, ge, Q⟩ := a2k (P := Tryz.prog) (r := (Rp.int .i64)) u28 sz3 ((o.mono g).mono J) gb
 have gf : gc = [.int .i64 ex3] := ge
 subst gf
 refine a2s Y Y Y Y Q (a1e Y Y Y Y (fun _ _ hleq hq => a2j (j := 0) ag3 Y Y hq (gd.mono hleq) Y Y Yn) (a1e Y Y Y Y (fun _ _ _ _ => a0d Y Y Y Yn) (a1e Y Y Y Y (fun _ _ _ _ => a0d Y Y Y Yn) ?_)))
 obtain ⟨ex4, gg, hm⟩ := Yb hm
 obtain ⟨b5, o4, gh, gi, gj, R⟩ := a2k (P := Tryz.prog) (r := (Rp.int .i64)) u28 sz3 ((p.mono g).mono J) gg
 have gk : gh = [.int .i64 ex4] := gj
 subst gk
 refine a2s Y Y Y Y R (a1e Y Y Y Y (fun _ _ hleq hq => a2j (j := 0) ag3 Y Y hq (gi.mono hleq) Y Y Yn) ?_)
 obtain ⟨v2, gl, hm⟩ := Yb hm
 refine b1x ent95 Y Y Y Y (fun _ _ hleq hq => a9n _ _ _ _ gl) (a1e Y Y Y Y (fun _ _ _ _ => a0b Y Y Y Yn) (b0z ?_))
 rintro gs ⟨gt, gu, gm⟩
 refine a0c (a1c (a0t (a0j (a0j (a0t (a0j (a1n Y Y ?_)))))))
 obtain rfl := Yo hm
 exact ⟨_, _, _, Y, gm.Yp [] Y Y, Y, Y⟩
 refine a0r 31 Y L (a0p Y (a1b (a1o (a0c (a0a (a0d Y Y Y (a0u Y Y Y Y Y (a0b Y Y Y (a0e (a0k (fun a ha => ihx1 (isub .i64 i1 1) a _ hm ?_)))))))))))
 exact ⟨_, (g.trans J), U.Yp [] Y Y, ha.cut (l := [0, 1, 5]) Y⟩
 refine a0r 20 Y I (a0p Y (a3p (a0w (a0w (fun a ha => hk1 () a _ hm ?_)))))
 exact ⟨_, g, T.Yp [] Y Y, ha.cut (l := []) Y⟩
theorem ent74 : Ent Tryz.prog 74 := fun _ _ => by kernel_rfl
theorem ent96 : Ent Tryz.prog 96 := fun _ _ => by kernel_rfl
def b1o (n : Nat) (ax1 : Big) (b1 : Big) : Option Int :=
 (a3t n ax1).bind fun v1 =>
 (bif !v1 then
  some true
 else
  (a3t n b1).bind fun v5 =>
  some (!v5)).bind fun v2 =>
 bif v2 then
  some 0
 else
  bif ax1.Sign != b1.Sign then
   (cmp_Compare_int n ax1.Sign b1.Sign).bind fun v3 =>
   some v3
  else
   (a7o n ax1.Digits b1.Digits).bind fun v4 =>
   some (imul .i64 ax1.Sign v4)
theorem c1b (n : Nat) (ax1 : Big) (b1 : Big) (r : Int) (hm : b1o n ax1 b1 = some r) {w : World} {F : Frz} (hs : Sat F w) {m o : Option Addr} {p q s t : Nat} (I : SlR (Rp.int .i64) F m p q ax1.Digits) (J : SlR (Rp.int .i64) F o s t b1.Digits) :
  Calls Tryz.prog 64 #[.agg #[.int .i64 ax1.Sign, .slice m p q], .agg #[.int .i64 b1.Sign, .slice o s t]] w fun e w' => ∃ v F' O', e = .returned v ∧ HS F w [] F' O' w' ∧ (v = .int .i64 r ∧ O' = []) := by
 unfold b1o at hm
 have h := HS.init hs
 refine a1a 31 Tryz.func64 Y Y Y (a0g (a0a (a2z Y Y Y Y h ?_)))
 intro b2 g1 M
 refine a2z Y Y Y Y M ?_
 intro b3 g2 u
 refine a0b Y Y Y (a0e (a0c (a0g (a0g (a0a (a0q ag35 sz35 Y Y u Y (i := 1) Y Y ?_))))))
 obtain ⟨v1, N, hm⟩ := Yb hm
 refine a0i ent74 Y Y Y Y u (a3i _ _ _ N u.sat I) ?_
 rintro _ Q _ g3 x k ⟨rfl, rfl⟩
 refine a4c Y Y Y (a0d Y Y Y ?_)
 obtain ⟨v2, g, hm⟩ := Yb hm
 refine a2g 4 (fun a w' => ∃ (y : Frz), Frz.le Q y ∧ HS F w [] y [.box b3 35 [.int .i64 b1.Sign, .slice o s t], .box b2 35 [.int .i64 ax1.Sign, .slice m p q]] w' ∧ Has 31 a [(2, .pointer (some ⟨b2, 0, none⟩)), (3, .pointer (some ⟨b3, 0, none⟩)), (12, .bool v2)]) ?_ ?_
 rintro a g4 ⟨y, K, j, L⟩
 refine a1d L (a0e (a0c ?_))
 rcases a0h hm with ⟨z, hm⟩ | ⟨z, hm⟩
 refine a0r 12 Y z (a0x Y (a0g (a0a (a0b Y Y Y (a0e (a0c (a1c (a0j (a1n Y Y ?_)))))))))
 obtain rfl := Yo hm
 exact ⟨_, _, _, Y, j.Yp [] Y Y, Y, Y⟩
 refine a0r 12 Y z (a0p Y (a1b (a0c (a0g (a0g (a0a (a0f fa35_0 Y Y Y (a0n ag3 Y Y j Y (i := 1) Y Y (a0f fa35_0 Y Y Y (a0n ag3 Y Y j Y (i := 0) Y Y (a0u Y Y Y Y Y ?_)))))))))))
 refine a0e (a0c ?_)
 rcases a0h hm with ⟨G, hm⟩ | ⟨G, hm⟩
 refine a0r 17 Y G (a0x Y (a0g (a0a (a0f fa35_0 Y Y Y (a0n ag3 Y Y j Y (i := 1) Y Y (a0f fa35_0 Y Y Y (a0n ag3 Y Y j Y (i := 0) Y Y ?_)))))))
 obtain ⟨v3, R, hm⟩ := Yb hm
 refine a2t ent95 Y Y Y Y (a9n _ _ _ _ R) (a0b Y Y Y (a0e (a0c (a1c (a0j (a1n Y Y ?_))))))
 obtain rfl := Yo hm
 exact ⟨_, _, _, Y, j.Yp [] Y Y, Y, Y⟩
 refine a0r 17 Y G (a0p Y (a1b (a0c (a0g (a3n (by kernel_rfl) (by kernel_rfl) j (a1e Y Y Y Y (fun _ _ _ _ => a0f fa35_0 Y Y Y Yn) (a1e Y Y Y Y (fun _ _ _ hq => a0n ag3 Y Y hq Y (i := 1) Y Y Yn) (a1e Y Y Y Y (fun _ _ _ _ => a0f fa35_1 Y Y Y Yn) (a1e Y Y Y Y (fun _ _ _ hq => a0n ag28 Y Y hq Y (i := 1) Y Y Yn) ?_)))))))))
 refine a1e Y Y Y Y (fun _ _ _ _ => a0f fa35_1 Y Y Y Yn) (a1e Y Y Y Y (fun _ _ _ hq => a0n ag28 Y Y hq Y (i := 0) Y Y Yn) ?_)
 obtain ⟨v4, T, hm⟩ := Yb hm
 refine a5s ent96 Y Y Y Y (fun _ _ hleq hq => b2h _ _ _ _ T hq.sat (((I.mono x).mono K).mono hleq) (((J.mono x).mono K).mono hleq)) (a1e Y Y Y Y (fun _ _ _ _ => a0u Y Y Y Y Y Yn) (a1e Y Y Y Y (fun _ _ _ _ => a0b Y Y Y Yn) (b0z ?_)))
 rintro g5 ⟨g6, g7, U⟩
 refine a0c (a1c (a1n Y Y ?_))
 obtain rfl := Yo hm
 exact ⟨_, _, _, Y, U.Yp [] Y Y, Y, Y⟩
 clear hm
 rcases a0h g with ⟨H, g⟩ | ⟨H, g⟩
 refine a1k 8 Y H (a0y Y (by decide) Y (a0y Y (by decide) Y (a0y Y (by decide) Y (a0s Y Y Y Y (a0e (a0k (fun a ha => ?_)))))))
 cases g
 exact ⟨_, Yf, k.Yp [0, 1] Y Y, ha.cut (l := [2, 3, 12]) Y⟩
 refine a1k 8 Y H (a0q ag35 sz35 Y Y k Y (i := 0) Y Y ?_)
 obtain ⟨v5, V, g⟩ := Yb g
 refine a0i ent74 Y Y Y Y k (a3i _ _ _ V k.sat (J.mono x)) ?_
 rintro _ g8 _ g9 Z g0 ⟨rfl, rfl⟩
 refine a4c Y Y Y (a0m Y Y Y Y (a0e (a0k (fun a ha => ?_))))
 cases g
 exact ⟨_, Z, g0.Yp [0, 1] Y Y, ha.cut (l := [2, 3, 12]) Y⟩
theorem ap28 : AppIs Tryz.prog 28 3 1 8 := AppIs.of (z := .int .i64 0) (by kernel_rfl) (by kernel_rfl) rfl (by decide) (by decide)
def a1w (_n : Nat) (s1 : (List Int)) : Option (List Int) := app 8 [] s1
theorem a2b (n : Nat) (s1 : (List Int)) (r : (List Int)) (hm : a1w n s1 = some r) {w : World} {F : Frz} (hs : Sat F w) {g : Option Addr} {j : Nat} {k : Nat} (l : SlR (Rp.int .i64) F g j k s1) :
  Calls Tryz.prog 50 #[.slice g j k] w fun e w' => ∃ v F' O', e = .returned v ∧ HS F w [] F' O' w' ∧ (∃ (a0_0 : Option Addr) (n0_0 : Nat) (c0_0 : Nat) (xs0_0 : List Value), v = .slice a0_0 n0_0 c0_0 ∧ O' = [.row 3 1 a0_0 n0_0 c0_0 xs0_0] ∧ RowN (Rp.int .i64) F' n0_0 xs0_0 r) := by
 unfold a1w at hm
 have h := HS.init hs
 refine a1a (args := [.slice g j k]) 8 Tryz.func50 Y Y Y (a0g (a0a (a0b Y Y Y (a0e (a0c (a0g (a0g (a0a (a0d Y Y Y (d6s u28 Y Y Y (a0e (a0c ?_))))))))))))
 cases g with
 | none =>
  have h0 : s1 = [] := by
   rcases l.2.2.2 with h0 | ⟨_, _, _, h0, _⟩
   ·exact h0
   ·cases h0
  subst h0
  simp only [app, List.length_nil, Nat.add_zero, Nat.zero_mul, Nat.zero_le, if_true, List.append_nil, Option.some.injEq] at hm
  subst hm
  refine a0x Y (a0g (a0a (a0b Y Y Y (a0e (a0c (a1c (a0j (a1n Y Y ?_))))))))
  exact ⟨_, _, _, Y, h.nilRow 3 1, none, 0, 0, [], Y, Y, Y, Y⟩
 | some ad =>
  refine a0p Y (a1b (a0c (a0g (a0a (a1f (e := 3) (cs := []) (q := 1) Y Y h Y (fun _ => by kernel_rfl) Y Y ?_)))))
  intro b1 w1 h1
  refine a0d Y Y Y (b6d (r := (Rp.int .i64)) ap28 Y Y Y h1 Y Y (i := 0) Y (show RowN (Rp.int .i64) _ 0 [] [] from ⟨Y, Y⟩) l hm ?_)
  intro a2 c2 w2 xs2 h2 m
  refine a0b Y Y Y (a0e (a0c (a1c (a1n Y Y ?_))))
  exact ⟨_, _, _, Y, h2, a2, _, c2, xs2, Y, Y, m⟩
theorem ent50 : Ent Tryz.prog 50 := fun _ _ => by kernel_rfl
theorem ent94 : Ent Tryz.prog 94 := fun _ _ => by kernel_rfl
def b3l (n : Nat) (ax1 : Big) : Option Big :=
 (a3t n ax1).bind fun v1 =>
 bif !v1 then
  some (⟨0, []⟩ : Big)
 else
  (a1w n ax1.Digits).bind fun v2 =>
  (a3o n (IntKind.i64.wrap (0 - ax1.Sign)) v2).bind fun v3 =>
  some v3
theorem a8j (n : Nat) (ax1 : Big) (r : Big) (hm : b3l n ax1 = some r) {w : World} {F : Frz} (hs : Sat F w) {g : Option Addr} {j : Nat} {k : Nat} (s : SlR (Rp.int .i64) F g j k ax1.Digits) :
  Calls Tryz.prog 108 #[.agg #[.int .i64 ax1.Sign, .slice g j k]] w fun e w' => ∃ v F' O', e = .returned v ∧ HS F w [] F' O' w' ∧ (∃ (a0_1 : Option Addr) (n0_1 : Nat) (c0_1 : Nat), v = .agg #[.int .i64 r.Sign, .slice a0_1 n0_1 c0_1] ∧ O' = [] ∧ SlR (Rp.int .i64) F' a0_1 n0_1 c0_1 r.Digits) := by
 unfold b3l at hm
 have h := HS.init hs
 refine a1a 14 Tryz.func108 Y Y Y (a0g (a0a (a2z Y Y Y Y h ?_)))
 intro b1 Z I
 refine a1h ze35 Y Y Y I ?_
 intro b2 g0 l
 refine a0e (a0c (a0g (a0g (a0a (a0q ag35 sz35 Y Y l Y (i := 1) Y Y ?_)))))
 obtain ⟨v1, J, hm⟩ := Yb hm
 refine a0i ent74 Y Y Y Y l (a3i _ _ _ J l.sat s) ?_
 rintro _ K _ g1 L t ⟨rfl, rfl⟩
 refine a4c Y Y Y (a0e (a0c ?_))
 rcases a0h hm with ⟨m, hm⟩ | ⟨m, hm⟩
 refine a0r 5 Y m (a0x Y (a0g (a0a (a1r (v := .agg #[.int .i64 0, .slice none 0 0]) Y Y Y (fun _ => by kernel_rfl) (a0o sz35 Y t Y Y Y Y (i := 0) Y Y Y Y ?_)))))
 intro g2 u
 refine a0e (a0c (a1c (a0j (a3h Y ag35 sz35 Y u Y (i := 0) Y ?_))))
 obtain rfl := Yo hm
 exact ⟨_, _, _, Y, u.Yp [] Y Y, none, 0, 0, Y, Y, SlR.nil _ _⟩
 refine a0r 5 Y m (a0p Y (a1b (a0c (a0g (a2f (SH K [.box b1 35 [.int .i64 ax1.Sign, .slice g j k]]) 8 Y (by kernel_rfl) t ?_)))))
 intro g3 o
 have S0 := o.Ys Yf [1] Y Y
 refine d_tk 0 Y (by kernel_rfl) Y Y Y Y S0 (fun _ _ _ _ _ => a0f fa35_0 Y Y Y Yn) (d_tk 1 Y (by kernel_rfl) Y Y Y Y S0 (fun _ _ _ _ hq => a0n ag3 Y Y hq Y (i := 0) Y Y Yn) (d_tk 2 Y (by kernel_rfl) Y Y Y Y S0 (fun _ _ _ _ _ => c7i Y Y Y Yn) (d_tk 3 Y (by kernel_rfl) Y Y Y Y S0 (fun _ _ _ _ _ => a0f fa35_1 Y Y Y Yn) (d_tk 4 Y (by kernel_rfl) Y Y Y Y S0 (fun _ _ _ _ hq => a0n ag28 Y Y hq Y (i := 0) Y Y Yn) (a0z 5 Y (by kernel_rfl) ?_)))))
 obtain ⟨v2, M, hm⟩ := Yb hm
 refine a0i ent50 Y Y Y Y o (a2b _ _ _ M o.sat (s.mono L)) ?_
 rintro _ g4 _ g5 p x ⟨g6, g7, g8, xss2, rfl, rfl, N⟩
 refine a0v (x.Ys p [2] Y Y) (a0z 6 Y (by kernel_rfl) ?_)
 obtain ⟨g9, y, z, hsx1⟩ := a1g x (i := 0) Y N
 obtain ⟨v3, Q, hm⟩ := Yb hm
 refine a0i ent94 Y Y Y Y z (a4f _ _ _ _ Q z.sat hsx1) ?_
 rintro _ ga _ gb G H ⟨R, T, U, rfl, rfl, V⟩
 refine a0v (H.Ys ((p.trans y).trans G) [1] Y Y) (a0z 7 Y (by kernel_rfl) (a0o sz35 Y H Y Y Y Y (i := 0) Y Y Y Y ?_))
 intro gc q
 refine a0v (q.Ys ((p.trans y).trans G) [1] Y Y) (a2u (by kernel_rfl) (a0c (a1c (a3h Y ag35 sz35 Y q Y (i := 0) Y ?_))))
 obtain rfl := Yo hm
 exact ⟨_, _, _, Y, q.Yp [] Y Y, R, T, U, Y, Y, V⟩
theorem zi3 : (Tryz.prog.info? 3).map (·.zero) = some (some (.int .i64 0)) := by kernel_rfl
def a8z (n : Nat) (ax2 : (List Int)) (b2 : (List Int)) (kont1 : Int → (List Int) → Option (List Int)) : Nat → Int → Int → (List Int) → Option (List Int)
 | 0, _, _, _ => none
 | mx1 + 1, carry1, i1, l2 =>
  bif decide (i1 < (ax2.length : Int)) then
   (ix ax2 i1).bind fun ex2 =>
   (bif decide (i1 < (b2.length : Int)) then
    (ix b2 i1).bind fun ex4 =>
    some (iadd .i64 (iadd .i64 carry1 ex2) ex4)
   else
    some (iadd .i64 carry1 ex2)).bind fun carry3 =>
   (ix l2 i1).bind fun _ =>
   (lset l2 i1 (iand .i64 carry3 1048575)).bind fun l5 =>
   (shr .i64 carry3 20).bind fun q1 =>
   a8z n ax2 b2 kont1 mx1 q1 (iadd .i64 i1 1) l5
  else
   kont1 carry1 l2
theorem b4l (n : Nat) (ax2 : (List Int)) (b2 : (List Int)) (kont1 : Int → (List Int) → Option (List Int)) (mx1 : Nat) (carry1 : Int) (i1 : Int) (l2 : List Int) : a8z n ax2 b2 kont1 (mx1 + 1) carry1 i1 l2 =
  bif decide (i1 < (ax2.length : Int)) then
   (ix ax2 i1).bind fun ex2 =>
   (bif decide (i1 < (b2.length : Int)) then
    (ix b2 i1).bind fun ex4 =>
    some (iadd .i64 (iadd .i64 carry1 ex2) ex4)
   else
    some (iadd .i64 carry1 ex2)).bind fun carry3 =>
   (ix l2 i1).bind fun _ =>
   (lset l2 i1 (iand .i64 carry3 1048575)).bind fun l5 =>
   (shr .i64 carry3 20).bind fun q1 =>
   a8z n ax2 b2 kont1 mx1 q1 (iadd .i64 i1 1) l5
  else
   kont1 carry1 l2 := rfl
def b5t (n : Nat) (ax1 : (List Int)) (b1 : (List Int)) : Option (List Int) :=
 (bif decide ((ax1.length : Int) < (b1.length : Int)) then
  some (b1, ax1)
 else
  some (ax1, b1)).bind fun (ax2, b2) =>
 (mks 8 0 (iadd .i64 (ax2.length : Int) 1)).bind fun l1 =>
 a8z n ax2 b2 (fun (carry2 : Int) (l3 : List Int) =>
  (ix l3 (ax2.length : Int)).bind fun _ =>
  (lset l3 (ax2.length : Int) carry2).bind fun l4 =>
  (a3r n l4).bind fun v1 =>
  some v1) n 0 0 l1
theorem c1s (n : Nat) (ax1 : (List Int)) (b1 : (List Int)) (r : (List Int)) (hm : b5t n ax1 b1 = some r) {w : World} {F : Frz} (hs : Sat F w) {N Q : Option Addr} {R x T z : Nat} (g4 : SlR (Rp.int .i64) F N R x ax1) (g5 : SlR (Rp.int .i64) F Q T z b1) :
  Calls Tryz.prog 127 #[.slice N R x, .slice Q T z] w fun e w' => ∃ v F' O', e = .returned v ∧ HS F w [] F' O' w' ∧ (∃ (a0_0 : Option Addr) (n0_0 : Nat) (c0_0 : Nat) (xs0_0 : List Value), v = .slice a0_0 n0_0 c0_0 ∧ O' = [.row 3 1 a0_0 n0_0 c0_0 xs0_0] ∧ RowN (Rp.int .i64) F' n0_0 xs0_0 r) := by
 unfold b5t at hm
 have h := HS.init hs
 refine a1a 55 Tryz.func127 Y Y Y (a0g (a0a (a0b Y Y Y (a0e (a0c (a0g (a0g (a0a (a0d Y Y Y (a1y g4.len u28 Y Y Y (a0d Y Y Y (a1y g5.len u28 Y Y Y (a0u Y Y Y Y Y (a0e (a0c ?_)))))))))))))))
 obtain ⟨⟨ax2, b2⟩, I, hm⟩ := Yb hm
 refine a6f (fun a w' => ∃ (i : Option Addr) (o : Nat) (g : Nat) (J : Option Addr) (L : Nat) (q : Nat), w = w' ∧ (SlR (Rp.int .i64) F i o g ax2) ∧ (SlR (Rp.int .i64) F J L q b2) ∧ Has 55 a [(0, .slice i o g), (1, .slice J L q)]) ?_ ?_
 rintro a hd ⟨i, o, g, J, L, q, rfl, U, ga, gh⟩
 refine a1l gh (a0g (a0a (a0d Y Y Y (a1y U.len u28 Y Y Y (a0u Y Y Y Y Y ?_)))))
 obtain ⟨l1, go, hm⟩ := Yb hm
 refine c1t (r := (Rp.int .i64)) ap28 zi3 (fun _ => Y) Y Y Y h Y Y go ?_
 intro b3 he xs1 gp gq
 refine a0b Y Y Y (a0e (a0c (a0g (a0a (a0b Y Y Y (a0e (a0c (a0g (a0g (a0a (a0d Y Y Y (a1y U.len u28 Y Y Y (a0d Y Y Y (a0e (a0c (a1j ?_))))))))))))))))
 intro a gi
 obtain ⟨kont1, hkont1⟩ : ∃ kont1 : Int → (List Int) → Option (List Int), kont1 = (fun (carry2 : Int) (l3 : List Int) => (ix l3 (ax2.length : Int)).bind fun ex1 => (lset l3 (ax2.length : Int) carry2).bind fun l4 => (a3r n l4).bind fun v1 => some v1) := ⟨_, Y⟩
 replace hm : (fun m (s : Int × Int × List Int) => a8z n ax2 b2 kont1 m s.1 s.2.1 s.2.2) n (0, 0, l1) = some r := by rw [hkont1]; exact hm
 refine a5j (id := 0) (fun m (s : Int × Int × List Int) => a8z n ax2 b2 kont1 m s.1 s.2.1 s.2.2) (fun (y : Int × List Int) => kont1 y.1 y.2) r (fun (s : Int × Int × List Int) a w' => ∃ (V : Frz) (G : Option Addr) (t : Nat) (H : Nat) (xss5 : List Value), Frz.le F V ∧ HS F w [] V [.row 3 1 G t H xss5] w' ∧ (RowN (Rp.int .i64) V t xss5 s.2.2) ∧ Has 55 a [(0, .slice i o g), (1, .slice J L q), (5, .slice G t H), (6, .int .i64 s.1), (20, .slice i o g), (21, .int .i64 (ax2.length : Int)), (22, .int .i64 s.2.1)]) (fun (y : Int × List Int) a w' => ∃ (Z : Frz) (g0 : Option Addr) (g1 : Nat) (g2 : Nat) (xss6 : List Value), Frz.le F Z ∧ HS F w [] Z [.row 3 1 g0 g1 g2 xss6] w' ∧ (RowN (Rp.int .i64) Z g1 xss6 y.2) ∧ Has 55 a [(0, .slice i o g), (5, .slice g0 g1 g2), (6, .int .i64 y.1)]) (fun _ => Y) ?_ ?_ hm ⟨_, (some ⟨b3, 0, none⟩), ((iadd .i64 (ax2.length : Int) 1).toNat), ((iadd .i64 (ax2.length : Int) 1).toNat), xs1, Yf, gp.Yp [0] Y Y, gq, gi.cut (l := [0, 1, 5, 6, 20, 21, 22]) Y⟩
 clear hm; rintro ⟨carry2, l3⟩ a hf hm ⟨Z, g0, g1, g2, xss6, hg, gb, gc, gj⟩
 rw [hkont1] at hm
 replace hm := hm
 refine a2c (e := .exit 0) gj (a1m (a0c (a0g (a0a (a0d Y Y Y (a0d Y Y Y (a1y U.len u28 Y Y Y (a0d Y Y Y ?_))))))))
 obtain ⟨ex1, gr, hm⟩ := Yb hm
 refine a4y (r := (Rp.int .i64)) u28 sz3 Y Y gb Y Y (p := 0) Y Y gc gr ?_
 intro b4 o1 x gk ho1 gs hp1
 have gt : x = [.int .i64 ex1] := gs
 subst gt
 obtain ⟨l4, gu, hm⟩ := Yb hm
 refine a7m (r := (Rp.int .i64)) sz3 Y gb Y Y Y Y Y (p := 0) Y Y gk ho1 gc Y Y gu ?_
 intro hh xs2 gd ge
 refine a0e (a0c (a0g (a0a (a0d Y Y Y ?_))))
 obtain ⟨v1, gv, hm⟩ := Yb hm
 refine b3v ent118 Y Y Y Y (a7n _ _ _ gv (b1a _) (gd.viewRow (p := 0) Y Y ge)) ?_
 intro gf hles7 hvs7
 obtain ⟨gw, gg⟩ := gd.cutN (p := 0) Y ge hles7
 rw [← hvs7] at gg
 refine a0b Y Y Y (a0e (a0c (a1c (a1n Y Y ?_))))
 obtain rfl := Yo hm
 exact ⟨_, _, _, Y, gw.Yp [0] Y Y, g0, gf, g2, (xs2.take (gf * ((Rp.int .i64)).k)), Y, Y, gg⟩
 clear hm hkont1; intro hk1 mx1 K ihx1
 rintro ⟨carry1, i1, l2⟩ a gx hm ⟨V, G, t, H, xss5, g3, M, g6, gl⟩
 simp only [b4l] at hm
 refine a1l gl (a0g (a0a (a0u Y Y Y Y Y (a0e (a0c (a0g ?_))))))
 rcases a0h hm with ⟨g7, hm⟩ | ⟨g7, hm⟩
 refine a0r 23 Y g7 (a0x Y (a1b (a0c (a0g (a1j (a0g (a0a (a0d Y Y Y ?_))))))))
 obtain ⟨ex2, gy, hm⟩ := Yb hm
 refine a2r (r := (Rp.int .i64)) u28 sz3 Y Y Y Y (U.mono g3) gy ?_
 intro b5 o2 z gz h0
 have h1 : z = [.int .i64 ex2] := h0
 subst h1
 refine a2j (j := 0) ag3 Y Y M gz Y Y (a0b Y Y Y (a0b Y Y Y (a0e (a0c (a0g (a0a (a0d Y Y Y (a0d Y Y Y (a0u Y Y Y Y Y (a0b Y Y Y (a0e (a0c (a0g (a0g (a0a (a0d Y Y Y (a0d Y Y Y (a1y ga.len u28 Y Y Y (a0u Y Y Y Y Y (a0e (a0c ?_)))))))))))))))))))))
 obtain ⟨carry3, u, hm⟩ := Yb hm
 refine a6f (fun a w' => gx = w' ∧ Has 55 a [(0, .slice i o g), (1, .slice J L q), (5, .slice G t H), (6, .int .i64 carry3), (7, .int .i64 i1), (20, .slice i o g), (21, .int .i64 (ax2.length : Int)), (22, .int .i64 i1)]) ?_ ?_
 rintro a hi ⟨rfl, gm⟩
 refine a1l gm (a0g (a0a (a0d Y Y Y (a0d Y Y Y (a0d Y Y Y (a0u Y Y Y Y Y ?_))))))
 obtain ⟨ex3, h2, hm⟩ := Yb hm
 refine a4y (r := (Rp.int .i64)) u28 sz3 Y Y M Y Y (p := 0) Y Y g6 h2 ?_
 intro b6 o3 g gn ho2 h3 hp2
 have h4 : g = [.int .i64 ex3] := h3
 subst h4
 obtain ⟨l5, h5, hm⟩ := Yb hm
 refine a7m (r := (Rp.int .i64)) sz3 Y M Y Y Y Y Y (p := 0) Y Y gn ho2 g6 Y Y h5 ?_
 intro hj xs3 h6 h7
 refine a0e (a0c (a0a (a0d Y Y Y ?_)))
 obtain ⟨q1, hq1, hm⟩ := Yb hm
 refine c6y Y Y Y Y hq1 (a0b Y Y Y (a0e (a1o (a0c (a0a (a0u Y Y Y Y Y (a0d Y Y Y (a0e (a0k (fun a ha => ihx1 (q1, (iadd .i64 i1 1), l5) a _ hm ?_))))))))))
 exact ⟨_, G, t, H, xs3, g3, h6.Yp [0] Y Y, h7, ha.cut (l := [0, 1, 5, 6, 20, 21, 22]) Y⟩
 clear hm
 rcases a0h u with ⟨g8, u⟩ | ⟨g8, u⟩
 refine a0r 33 Y g8 (a0x Y (a0a (a0d Y Y Y (a0d Y Y Y (a0d Y Y Y ?_)))))
 obtain ⟨ex4, h8, u⟩ := Yb u
 refine a2r (r := (Rp.int .i64)) u28 sz3 Y Y Y Y (ga.mono g3) h8 ?_
 intro b7 o4 q h9 hb
 have hc : q = [.int .i64 ex4] := hb
 subst hc
 refine a2j (j := 0) ag3 Y Y M h9 Y Y (a0u Y Y Y Y Y (a0b Y Y Y (a0e (a0k (fun a ha => ?_)))))
 cases u
 exact ⟨Y, ha.cut (l := [0, 1, 5, 6, 7, 20, 21, 22]) Y⟩
 refine a0r 33 Y g8 (a0p Y (a1b (a0k (fun a ha => ?_))))
 cases u
 exact ⟨Y, ha.cut (l := [0, 1, 5, 6, 7, 20, 21, 22]) Y⟩
 refine a0r 23 Y g7 (a0p Y (a3p (a0w (a0w (fun a ha => hk1 (carry1, l2) a _ hm ?_)))))
 exact ⟨_, G, t, H, xss5, g3, M.Yp [0] Y Y, g6, ha.cut (l := [0, 5, 6]) Y⟩
 clear hm
 rcases a0h I with ⟨g9, I⟩ | ⟨g9, I⟩
 refine a0r 13 Y g9 (a0x Y (a0a (a0d Y Y Y (a0d Y Y Y (a0b Y Y Y (a0b Y Y Y (a0e (a0k (fun a ha => ?_)))))))))
 cases I
 exact ⟨Q, T, z, N, R, x, Y, g5, g4, ha.cut (l := [0, 1]) Y⟩
 refine a0r 13 Y g9 (a0p Y (a1b (a0k (fun a ha => ?_))))
 cases I
 exact ⟨N, R, x, Q, T, z, Y, g4, g5, ha.cut (l := [0, 1]) Y⟩
def a9r (n : Nat) (b1 : (List Int)) (v1 : (List Int)) (kont1 : (List Int) → Option (List Int)) : Nat → Int → Int → (List Int) → Option (List Int)
 | 0, _, _, _ => none
 | mx1 + 1, borrow1, i1, l1 =>
  bif decide (i1 < (v1.length : Int)) then
   (ix l1 i1).bind fun ex1 =>
   (bif decide (i1 < (b1.length : Int)) then
    (ix b1 i1).bind fun ex3 =>
    some (isub .i64 (isub .i64 ex1 borrow1) ex3)
   else
    some (isub .i64 ex1 borrow1)).bind fun nx1 =>
   (shr .i64 nx1 20).bind fun q1 =>
   (ix l1 i1).bind fun _ =>
   (lset l1 i1 (iand .i64 nx1 1048575)).bind fun l3 =>
   a9r n b1 v1 kont1 mx1 (iand .i64 q1 1) (iadd .i64 i1 1) l3
  else
   kont1 l1
theorem b4j (n : Nat) (b1 : (List Int)) (v1 : (List Int)) (kont1 : (List Int) → Option (List Int)) (mx1 : Nat) (borrow1 : Int) (i1 : Int) (l1 : List Int) : a9r n b1 v1 kont1 (mx1 + 1) borrow1 i1 l1 =
  bif decide (i1 < (v1.length : Int)) then
   (ix l1 i1).bind fun ex1 =>
   (bif decide (i1 < (b1.length : Int)) then
    (ix b1 i1).bind fun ex3 =>
    some (isub .i64 (isub .i64 ex1 borrow1) ex3)
   else
    some (isub .i64 ex1 borrow1)).bind fun nx1 =>
   (shr .i64 nx1 20).bind fun q1 =>
   (ix l1 i1).bind fun _ =>
   (lset l1 i1 (iand .i64 nx1 1048575)).bind fun l3 =>
   a9r n b1 v1 kont1 mx1 (iand .i64 q1 1) (iadd .i64 i1 1) l3
  else
   kont1 l1 := rfl
def b4k (n : Nat) (ax1 : (List Int)) (b1 : (List Int)) : Option (List Int) :=
 (a1w n ax1).bind fun v1 =>
 a9r n b1 v1 (fun (l2 : List Int) =>
  (a3r n l2).bind fun v2 =>
  some v2) n 0 0 v1
theorem b7a (n : Nat) (ax1 : (List Int)) (b1 : (List Int)) (r : (List Int)) (hm : b4k n ax1 b1 = some r) {w : World} {F : Frz} (hs : Sat F w) {V x : Option Addr} {Z z G o : Nat} (gd : SlR (Rp.int .i64) F V Z z ax1) (g0 : SlR (Rp.int .i64) F x G o b1) :
  Calls Tryz.prog 128 #[.slice V Z z, .slice x G o] w fun e w' => ∃ v F' O', e = .returned v ∧ HS F w [] F' O' w' ∧ (∃ (a0_0 : Option Addr) (n0_0 : Nat) (c0_0 : Nat) (xs0_0 : List Value), v = .slice a0_0 n0_0 c0_0 ∧ O' = [.row 3 1 a0_0 n0_0 c0_0 xs0_0] ∧ RowN (Rp.int .i64) F' n0_0 xs0_0 r) := by
 unfold b4k at hm
 have h := HS.init hs
 refine a1a 43 Tryz.func128 Y Y Y (a0g (a0a (a0b Y Y Y (a0e (a0c (a0g (a0a (a0d Y Y Y ?_))))))))
 obtain ⟨v1, ge, hm⟩ := Yb hm
 refine a0i ent50 Y Y Y Y h (a2b _ _ _ ge h.sat gd) ?_
 rintro _ g1 _ gz gf gg ⟨gh, gi, Q, xss3, rfl, rfl, g2⟩
 refine a0b Y Y Y (a0e (a0c (a0g (a0a (a0b Y Y Y (a0e (a0c (a0g (a0g (a0a (a0d Y Y Y (a1y g2.len u28 Y Y Y (a0d Y Y Y (a0e (a0c (a1j ?_))))))))))))))))
 intro a g7
 obtain ⟨kont1, hkont1⟩ : ∃ kont1 : (List Int) → Option (List Int), kont1 = (fun (l2 : List Int) => (a3r n l2).bind fun v2 => some v2) := ⟨_, Y⟩
 replace hm : (fun m (s : Int × Int × List Int) => a9r n b1 v1 kont1 m s.1 s.2.1 s.2.2) n (0, 0, v1) = some r := by rw [hkont1]; exact hm
 refine a5j (id := 0) (fun m (s : Int × Int × List Int) => a9r n b1 v1 kont1 m s.1 s.2.1 s.2.2) (fun (y : List Int) => kont1 y) r (fun (s : Int × Int × List Int) a w' => ∃ (H : Frz) (q : Option Addr) (g : Nat) (t : Nat) (xss4 : List Value), Frz.le g1 H ∧ HS F w [] H [.row 3 1 q g t xss4] w' ∧ (RowN (Rp.int .i64) H g xss4 s.2.2) ∧ Has 43 a [(1, .slice x G o), (5, .slice q g t), (6, .int .i64 s.1), (12, .int .i64 (v1.length : Int)), (13, .int .i64 s.2.1)]) (fun (y : List Int) a w' => ∃ (I : Frz) (J : Option Addr) (L : Nat) (M : Nat) (xss5 : List Value), Frz.le g1 I ∧ HS F w [] I [.row 3 1 J L M xss5] w' ∧ (RowN (Rp.int .i64) I L xss5 y) ∧ Has 43 a [(5, .slice J L M)]) (fun _ => Y) ?_ ?_ hm ⟨_, gh, gi, Q, xss3, Yf, gg.Yp [0] Y Y, g2, g7.cut (l := [1, 5, 6, 12, 13]) Y⟩
 clear hm; rintro l2 a h0 hm ⟨I, J, L, M, xss5, h1, g3, g4, g8⟩
 rw [hkont1] at hm
 replace hm := hm
 refine a2c (e := .exit 0) g8 (a1m (a0c (a0g (a0a (a0d Y Y Y ?_)))))
 obtain ⟨v2, gj, hm⟩ := Yb hm
 refine b3v ent118 Y Y Y Y (a7n _ _ _ gj (b1a _) (g3.viewRow (p := 0) Y Y g4)) ?_
 intro g5 hles6 hvs6
 obtain ⟨gk, g6⟩ := g3.cutN (p := 0) Y g4 hles6
 rw [← hvs6] at g6
 refine a0b Y Y Y (a0e (a0c (a1c (a1n Y Y ?_))))
 obtain rfl := Yo hm
 exact ⟨_, _, _, Y, gk.Yp [0] Y Y, J, g5, M, (xss5.take (g5 * ((Rp.int .i64)).k)), Y, Y, g6⟩
 clear hm hkont1; intro hk1 mx1 K ihx1
 rintro ⟨borrow1, i1, l1⟩ a gl hm ⟨H, q, g, t, xss4, R, u, N, g9⟩
 simp only [b4j] at hm
 refine a1l g9 (a0g (a0a (a0u Y Y Y Y Y (a0e (a0c (a0g ?_))))))
 rcases a0h hm with ⟨T, hm⟩ | ⟨T, hm⟩
 refine a0r 14 Y T (a0x Y (a1b (a0c (a0g (a1j (a0g (a0a (a0d Y Y Y (a0b Y Y Y (a0e (a0c (a0g (a0a (a0d Y Y Y (a0d Y Y Y ?_)))))))))))))))
 obtain ⟨ex1, gm, hm⟩ := Yb hm
 refine a4y (r := (Rp.int .i64)) u28 sz3 Y Y u Y Y (p := 0) Y Y N gm ?_
 intro b2 o1 z ga ho1 gn hp1
 have go : z = [.int .i64 ex1] := gn
 subst go
 refine a4q (j := 0) ag3 Y Y u Y (p := 0) Y Y ga ho1 hp1 Y (a0d Y Y Y (a0u Y Y Y Y Y (a0b Y Y Y (a0e (a0c (a0g (a0g (a0a (a0d Y Y Y (a0d Y Y Y (a1y g0.len u28 Y Y Y (a0u Y Y Y Y Y (a0e (a0c ?_))))))))))))))
 obtain ⟨nx1, i, hm⟩ := Yb hm
 refine a6f (fun a w' => gl = w' ∧ Has 43 a [(1, .slice x G o), (5, .slice q g t), (7, .int .i64 i1), (8, .int .i64 nx1), (12, .int .i64 (v1.length : Int)), (13, .int .i64 i1)]) ?_ ?_
 rintro a h2 ⟨rfl, gb⟩
 refine a1l gb (a0g (a0a (a0d Y Y Y ?_)))
 obtain ⟨q1, hq1, hm⟩ := Yb hm
 refine c6y Y Y Y Y hq1 (a0u Y Y Y Y Y (a0b Y Y Y (a0e (a0c (a0a (a0d Y Y Y (a0d Y Y Y (a0d Y Y Y (a0u Y Y Y Y Y ?_)))))))))
 obtain ⟨ex2, gp, hm⟩ := Yb hm
 refine a4y (r := (Rp.int .i64)) u28 sz3 Y Y u Y Y (p := 0) Y Y N gp ?_
 intro b3 o2 o gc ho2 gq hp2
 have gr : o = [.int .i64 ex2] := gq
 subst gr
 obtain ⟨l3, gs, hm⟩ := Yb hm
 refine a7m (r := (Rp.int .i64)) sz3 Y u Y Y Y Y Y (p := 0) Y Y gc ho2 N Y Y gs ?_
 intro h3 xs1 gt gu
 refine a0e (a1o (a0c (a0a (a0u Y Y Y Y Y (a0d Y Y Y (a0e (a0k (fun a ha => ihx1 ((iand .i64 q1 1), (iadd .i64 i1 1), l3) a _ hm ?_))))))))
 exact ⟨_, q, g, t, xs1, R, gt.Yp [0] Y Y, gu, ha.cut (l := [1, 5, 6, 12, 13]) Y⟩
 clear hm
 rcases a0h i with ⟨U, i⟩ | ⟨U, i⟩
 refine a0r 25 Y U (a0x Y (a0a (a0d Y Y Y (a0d Y Y Y (a0d Y Y Y ?_)))))
 obtain ⟨ex3, gv, i⟩ := Yb i
 refine a2r (r := (Rp.int .i64)) u28 sz3 Y Y Y Y ((g0.mono gf).mono R) gv ?_
 intro b4 o3 Q gw gx
 have gy : Q = [.int .i64 ex3] := gx
 subst gy
 refine a2j (j := 0) ag3 Y Y u gw Y Y (a0u Y Y Y Y Y (a0b Y Y Y (a0e (a0k (fun a ha => ?_)))))
 cases i
 exact ⟨Y, ha.cut (l := [1, 5, 7, 8, 12, 13]) Y⟩
 refine a0r 25 Y U (a0p Y (a1b (a0k (fun a ha => ?_))))
 cases i
 exact ⟨Y, ha.cut (l := [1, 5, 7, 8, 12, 13]) Y⟩
 refine a0r 14 Y T (a0p Y (a3p (a0w (a0w (fun a ha => hk1 l1 a _ hm ?_)))))
 exact ⟨_, q, g, t, xss4, R, u.Yp [0] Y Y, N, ha.cut (l := [5]) Y⟩
def a8y (n : Nat) (b1 : (List Int)) (i1 : Int) (ex1 : Int) (kont2 : Int → (List Int) → Option (List Int)) : Nat → Int → Int → (List Int) → Option (List Int)
 | 0, _, _, _ => none
 | mx2 + 1, carry1, i2, l4 =>
  bif decide (i2 < (b1.length : Int)) then
   (ix b1 i2).bind fun ex4 =>
   (ix l4 (iadd .i64 i1 i2)).bind fun ex5 =>
   (shr .i64 (iadd .i64 (iadd .i64 ex5 (imul .i64 ex1 ex4)) carry1) 20).bind fun q1 =>
   (ix l4 (iadd .i64 i1 i2)).bind fun _ =>
   (lset l4 (iadd .i64 i1 i2) (iand .i64 (iadd .i64 (iadd .i64 ex5 (imul .i64 ex1 ex4)) carry1) 1048575)).bind fun l7 =>
   a8y n b1 i1 ex1 kont2 mx2 q1 (iadd .i64 i2 1) l7
  else
   kont2 carry1 l4
theorem b4p (n : Nat) (b1 : (List Int)) (i1 : Int) (ex1 : Int) (kont2 : Int → (List Int) → Option (List Int)) (mx2 : Nat) (carry1 : Int) (i2 : Int) (l4 : List Int) : a8y n b1 i1 ex1 kont2 (mx2 + 1) carry1 i2 l4 =
  bif decide (i2 < (b1.length : Int)) then
   (ix b1 i2).bind fun ex4 =>
   (ix l4 (iadd .i64 i1 i2)).bind fun ex5 =>
   (shr .i64 (iadd .i64 (iadd .i64 ex5 (imul .i64 ex1 ex4)) carry1) 20).bind fun q1 =>
   (ix l4 (iadd .i64 i1 i2)).bind fun _ =>
   (lset l4 (iadd .i64 i1 i2) (iand .i64 (iadd .i64 (iadd .i64 ex5 (imul .i64 ex1 ex4)) carry1) 1048575)).bind fun l7 =>
   a8y n b1 i1 ex1 kont2 mx2 q1 (iadd .i64 i2 1) l7
  else
   kont2 carry1 l4 := rfl
def a7w (n : Nat) (ax1 : (List Int)) (b1 : (List Int)) (kont1 : (List Int) → Option (List Int)) : Nat → Int → (List Int) → Option (List Int)
 | 0, _, _ => none
 | mx1 + 1, i1, l2 =>
  bif decide (i1 < (ax1.length : Int)) then
   (ix ax1 i1).bind fun ex1 =>
   a8y n b1 i1 ex1 (fun (carry2 : Int) (l5 : List Int) =>
    (ix l5 (iadd .i64 i1 (b1.length : Int))).bind fun ex2 =>
    (ix l5 (iadd .i64 i1 (b1.length : Int))).bind fun _ =>
    (lset l5 (iadd .i64 i1 (b1.length : Int)) (iadd .i64 ex2 carry2)).bind fun l6 =>
    a7w n ax1 b1 kont1 mx1 (iadd .i64 i1 1) l6) n 0 0 l2
  else
   kont1 l2
theorem b4r (n : Nat) (ax1 : (List Int)) (b1 : (List Int)) (kont1 : (List Int) → Option (List Int)) (mx1 : Nat) (i1 : Int) (l2 : List Int) : a7w n ax1 b1 kont1 (mx1 + 1) i1 l2 =
  bif decide (i1 < (ax1.length : Int)) then
   (ix ax1 i1).bind fun ex1 =>
   a8y n b1 i1 ex1 (fun (carry2 : Int) (l5 : List Int) =>
    (ix l5 (iadd .i64 i1 (b1.length : Int))).bind fun ex2 =>
    (ix l5 (iadd .i64 i1 (b1.length : Int))).bind fun _ =>
    (lset l5 (iadd .i64 i1 (b1.length : Int)) (iadd .i64 ex2 carry2)).bind fun l6 =>
    a7w n ax1 b1 kont1 mx1 (iadd .i64 i1 1) l6) n 0 0 l2
  else
   kont1 l2 := rfl
def b2l (n : Nat) (ax1 : (List Int)) (b1 : (List Int)) : Option (List Int) :=
 (mks 8 0 (iadd .i64 (ax1.length : Int) (b1.length : Int))).bind fun l1 =>
 a7w n ax1 b1 (fun (l3 : List Int) =>
  (a3r n l3).bind fun v1 =>
  some v1) n 0 l1
theorem b6y (n : Nat) (ax1 : (List Int)) (b1 : (List Int)) (r : (List Int)) (hm : b2l n ax1 b1 = some r) {w : World} {F : Frz} (hs : Sat F w) {J t : Option Addr} {L i u g : Nat} (g6 : SlR (Rp.int .i64) F J L i ax1) (R : SlR (Rp.int .i64) F t u g b1) :
  Calls Tryz.prog 120 #[.slice J L i, .slice t u g] w fun e w' => ∃ v F' O', e = .returned v ∧ HS F w [] F' O' w' ∧ (∃ (a0_0 : Option Addr) (n0_0 : Nat) (c0_0 : Nat) (xs0_0 : List Value), v = .slice a0_0 n0_0 c0_0 ∧ O' = [.row 3 1 a0_0 n0_0 c0_0 xs0_0] ∧ RowN (Rp.int .i64) F' n0_0 xs0_0 r) := by
 unfold b2l at hm
 have h := HS.init hs
 refine a1a 67 Tryz.func120 Y Y Y (a0g (a0a (a0b Y Y Y (a0e (a0c (a0g (a0a (a0d Y Y Y (a1y g6.len u28 Y Y Y (a0d Y Y Y (a1y R.len u28 Y Y Y (a0u Y Y Y Y Y ?_))))))))))))
 obtain ⟨l1, gs, hm⟩ := Yb hm
 refine c1t (r := (Rp.int .i64)) ap28 zi3 (fun _ => Y) Y Y Y h Y Y gs ?_
 intro b2 hq xs1 gt gu
 refine a0b Y Y Y (a0e (a0c (a0g (a0g (a0a (a0d Y Y Y (a1y g6.len u28 Y Y Y (a0d Y Y Y (a0e (a0c (a1j ?_)))))))))))
 intro a gc
 obtain ⟨kont1, hkont1⟩ : ∃ kont1 : (List Int) → Option (List Int), kont1 = (fun (l3 : List Int) => (a3r n l3).bind fun v1 => some v1) := ⟨_, Y⟩
 replace hm : (fun m (s : Int × List Int) => a7w n ax1 b1 kont1 m s.1 s.2) n (0, l1) = some r := by rw [hkont1]; exact hm
 refine a5j (id := 0) (fun m (s : Int × List Int) => a7w n ax1 b1 kont1 m s.1 s.2) (fun (y : List Int) => kont1 y) r (fun (s : Int × List Int) a w' => ∃ (x : Frz) (M : Option Addr) (z : Nat) (o : Nat) (xss3 : List Value), Frz.le F x ∧ HS F w [] x [.row 3 1 M z o xss3] w' ∧ (RowN (Rp.int .i64) x z xss3 s.2) ∧ Has 67 a [(1, .slice t u g), (5, .slice M z o), (18, .slice J L i), (19, .int .i64 (ax1.length : Int)), (20, .int .i64 s.1)]) (fun (y : List Int) a w' => ∃ (T : Frz) (U : Option Addr) (V : Nat) (G : Nat) (xss4 : List Value), Frz.le F T ∧ HS F w [] T [.row 3 1 U V G xss4] w' ∧ (RowN (Rp.int .i64) T V xss4 y) ∧ Has 67 a [(5, .slice U V G)]) (fun _ => Y) ?_ ?_ hm ⟨_, (some ⟨b2, 0, none⟩), ((iadd .i64 (ax1.length : Int) (b1.length : Int)).toNat), ((iadd .i64 (ax1.length : Int) (b1.length : Int)).toNat), xs1, Yf, gt.Yp [0] Y Y, gu, gc.cut (l := [1, 5, 18, 19, 20]) Y⟩
 clear hm; rintro l3 a hr hm ⟨T, U, V, G, xss4, ht, gd, ge, gi⟩
 rw [hkont1] at hm
 replace hm := hm
 refine a2c (e := .exit 0) gi (a1m (a0c (a0g (a0a (a0d Y Y Y ?_)))))
 obtain ⟨v1, gv, hm⟩ := Yb hm
 refine b3v ent118 Y Y Y Y (a7n _ _ _ gv (b1a _) (gd.viewRow (p := 0) Y Y ge)) ?_
 intro gf hles5 hvs5
 obtain ⟨gw, gg⟩ := gd.cutN (p := 0) Y ge hles5
 rw [← hvs5] at gg
 refine a0b Y Y Y (a0e (a0c (a1c (a1n Y Y ?_))))
 obtain rfl := Yo hm
 exact ⟨_, _, _, Y, gw.Yp [0] Y Y, U, gf, G, (xss4.take (gf * ((Rp.int .i64)).k)), Y, Y, gg⟩
 clear hm hkont1; intro hk1 mx1 K ihx1
 rintro ⟨i1, l2⟩ a hu hm ⟨x, M, z, o, xss3, Z, g7, gh, gj⟩
 simp only [b4r] at hm
 refine a1l gj (a0g (a0a (a0u Y Y Y Y Y (a0e (a0c (a0g ?_))))))
 rcases a0h hm with ⟨g8, hm⟩ | ⟨g8, hm⟩
 refine a0r 21 Y g8 (a0x Y (a1b (a0c (a0g (a1j (a0g (a0a (a0d Y Y Y ?_))))))))
 obtain ⟨ex1, gx, hm⟩ := Yb hm
 refine a2r (r := (Rp.int .i64)) u28 sz3 Y Y Y Y (g6.mono Z) gx ?_
 intro b3 o1 i gy gz
 have h0 : i = [.int .i64 ex1] := gz
 subst h0
 refine a2j (j := 0) ag3 Y Y g7 gy Y Y (a0b Y Y Y (a0b Y Y Y (a0e (a0c (a0g (a0a (a0b Y Y Y (a0e (a0c (a0g (a0g (a0a (a0d Y Y Y (a1y R.len u28 Y Y Y (a0d Y Y Y (a0e (a0c (a1j ?_))))))))))))))))))
 intro a gk
 obtain ⟨kont2, hkont2⟩ : ∃ kont2 : Int → (List Int) → Option (List Int), kont2 = (fun (carry2 : Int) (l5 : List Int) => (ix l5 (iadd .i64 i1 (b1.length : Int))).bind fun ex2 => (ix l5 (iadd .i64 i1 (b1.length : Int))).bind fun ex3 => (lset l5 (iadd .i64 i1 (b1.length : Int)) (iadd .i64 ex2 carry2)).bind fun l6 => a7w n ax1 b1 kont1 mx1 (iadd .i64 i1 1) l6) := ⟨_, Y⟩
 replace hm : (fun m (s : Int × Int × List Int) => a8y n b1 i1 ex1 kont2 m s.1 s.2.1 s.2.2) n (0, 0, l2) = some r := by rw [hkont2]; exact hm
 refine a5j (id := 2) (fun m (s : Int × Int × List Int) => a8y n b1 i1 ex1 kont2 m s.1 s.2.1 s.2.2) (fun (y : Int × List Int) => kont2 y.1 y.2) r (fun (s : Int × Int × List Int) a w' => ∃ (g0 : Frz) (N : Option Addr) (H : Nat) (q : Nat) (xss6 : List Value), Frz.le x g0 ∧ HS F w [] g0 [.row 3 1 N H q xss6] w' ∧ (RowN (Rp.int .i64) g0 H xss6 s.2.2) ∧ Has 67 a [(1, .slice t u g), (5, .slice N H q), (6, .int .i64 i1), (7, .int .i64 ex1), (8, .int .i64 s.1), (18, .slice J L i), (19, .int .i64 (ax1.length : Int)), (20, .int .i64 i1), (25, .slice t u g), (26, .int .i64 (b1.length : Int)), (27, .int .i64 s.2.1)]) (fun (y : Int × List Int) a w' => ∃ (g1 : Frz) (g2 : Option Addr) (Q : Nat) (g3 : Nat) (xss7 : List Value), Frz.le x g1 ∧ HS F w [] g1 [.row 3 1 g2 Q g3 xss7] w' ∧ (RowN (Rp.int .i64) g1 Q xss7 y.2) ∧ Has 67 a [(1, .slice t u g), (5, .slice g2 Q g3), (6, .int .i64 i1), (8, .int .i64 y.1), (18, .slice J L i), (19, .int .i64 (ax1.length : Int)), (20, .int .i64 i1)]) (fun _ => Y) ?_ ?_ hm ⟨_, M, z, o, xss3, Yf, g7.Yp [0] Y Y, gh, gk.cut (l := [1, 5, 6, 7, 8, 18, 19, 20, 25, 26, 27]) Y⟩
 clear hm; rintro ⟨carry2, l5⟩ a hv hm ⟨g1, g2, Q, g3, xss7, h1, g4, g9, gl⟩
 rw [hkont2] at hm
 replace hm := hm
 refine a2c (e := .exit 2) gl (a1m (a0c (a0a (a0d Y Y Y (a0d Y Y Y (a0d Y Y Y (a1y R.len u28 Y Y Y (a0u Y Y Y Y Y ?_))))))))
 obtain ⟨ex2, h2, hm⟩ := Yb hm
 refine a4y (r := (Rp.int .i64)) u28 sz3 Y Y g4 Y Y (p := 0) Y Y g9 h2 ?_
 intro b4 o2 g gm ho1 h3 hp1
 have h4 : g = [.int .i64 ex2] := h3
 subst h4
 refine a4q (j := 0) ag3 Y Y g4 Y (p := 0) Y Y gm ho1 hp1 Y (a0d Y Y Y (a0u Y Y Y Y Y ?_))
 obtain ⟨ex3, h5, hm⟩ := Yb hm
 refine a4y (r := (Rp.int .i64)) u28 sz3 Y Y g4 Y Y (p := 0) Y Y g9 h5 ?_
 intro b5 o3 o gn ho2 h6 hp2
 have h7 : o = [.int .i64 ex3] := h6
 subst h7
 obtain ⟨l6, h8, hm⟩ := Yb hm
 refine a7m (r := (Rp.int .i64)) sz3 Y g4 Y Y Y Y Y (p := 0) Y Y gn ho2 g9 Y Y h8 ?_
 intro hw xs2 h9 hb
 refine a0e (a1o (a0c (a0a (a0u Y Y Y Y Y (a0d Y Y Y (a0e (a0k (fun a ha => ihx1 ((iadd .i64 i1 1), l6) a _ hm ?_))))))))
 exact ⟨_, g2, Q, g3, xs2, (Z.trans h1), h9.Yp [0] Y Y, hb, ha.cut (l := [1, 5, 18, 19, 20]) Y⟩
 clear hm hkont2; intro hk2 mx2 K ihx2
 rintro ⟨carry1, i2, l4⟩ a hx hm ⟨g0, N, H, q, xss6, ga, I, g5, go⟩
 simp only [b4p] at hm
 refine a1l go (a0g (a0a (a0u Y Y Y Y Y (a0e (a0c (a0g ?_))))))
 rcases a0h hm with ⟨gb, hm⟩ | ⟨gb, hm⟩
 refine a0r 28 Y gb (a0x Y (a1b (a0c (a0g (a1j (a0g (a0a (a0d Y Y Y ?_))))))))
 obtain ⟨ex4, hc, hm⟩ := Yb hm
 refine a2r (r := (Rp.int .i64)) u28 sz3 Y Y Y Y ((R.mono Z).mono ga) hc ?_
 intro b6 o4 G hd he
 have hf : G = [.int .i64 ex4] := he
 subst hf
 refine a2j (j := 0) ag3 Y Y I hd Y Y (a0b Y Y Y (a0b Y Y Y (a0e (a0c (a0g (a0a (a0d Y Y Y (a0d Y Y Y (a0d Y Y Y (a0u Y Y Y Y Y ?_))))))))))
 obtain ⟨ex5, hg, hm⟩ := Yb hm
 refine a4y (r := (Rp.int .i64)) u28 sz3 Y Y I Y Y (p := 0) Y Y g5 hg ?_
 intro b7 o5 hh gp ho3 hi hp3
 have hj : hh = [.int .i64 ex5] := hi
 subst hj
 refine a4q (j := 0) ag3 Y Y I Y (p := 0) Y Y gp ho3 hp3 Y (a0d Y Y Y (a0d Y Y Y (a0u Y Y Y Y Y (a0u Y Y Y Y Y (a0d Y Y Y (a0u Y Y Y Y Y (a0b Y Y Y (a0e (a0c (a0a (a0d Y Y Y (a0d Y Y Y (a0d Y Y Y ?_)))))))))))))
 refine a0u Y Y Y Y Y (a0d Y Y Y (a0u Y Y Y Y Y (a0d Y Y Y ?_)))
 obtain ⟨q1, hq1, hm⟩ := Yb hm
 refine c6y Y Y Y Y hq1 ?_
 obtain ⟨ex6, hk, hm⟩ := Yb hm
 refine a4y (r := (Rp.int .i64)) u28 sz3 Y Y I Y Y (p := 0) Y Y g5 hk ?_
 intro b8 o6 q gq ho4 hl hp4
 have hn : q = [.int .i64 ex6] := hl
 subst hn
 obtain ⟨l7, ho, hm⟩ := Yb hm
 refine a7m (r := (Rp.int .i64)) sz3 Y I Y Y Y Y Y (p := 0) Y Y gq ho4 g5 Y Y ho ?_
 intro hy xs3 hp gr
 refine a0b Y Y Y (a0e (a1o (a0c (a0a (a0u Y Y Y Y Y (a0d Y Y Y (a0e (a0k (fun a ha => ihx2 (q1, (iadd .i64 i2 1), l7) a _ hm ?_)))))))))
 exact ⟨_, N, H, q, xs3, ga, hp.Yp [0] Y Y, gr, ha.cut (l := [1, 5, 6, 7, 8, 18, 19, 20, 25, 26, 27]) Y⟩
 refine a0r 28 Y gb (a0p Y (a3p (a0w (a0w (fun a ha => hk2 (carry1, l4) a _ hm ?_)))))
 exact ⟨_, N, H, q, xss6, ga, I.Yp [0] Y Y, g5, ha.cut (l := [1, 5, 6, 8, 18, 19, 20]) Y⟩
 refine a0r 21 Y g8 (a0p Y (a3p (a0w (a0w (fun a ha => hk1 l2 a _ hm ?_)))))
 exact ⟨_, M, z, o, xss3, Z, g7.Yp [0] Y Y, gh, ha.cut (l := [5]) Y⟩
def a7u (n : Nat) (ax1 : (List Int)) (d1 : Int) (kont1 : Int → (List Int) → Option ((List Int) × Int)) : Nat → Int → Int → (List Int) → Option ((List Int) × Int)
 | 0, _, _, _ => none
 | mx1 + 1, rx1, i1, l2 =>
  bif decide (0 ≤ i1) then
   (shl .i64 rx1 20).bind fun q1 =>
   (ix ax1 i1).bind fun ex1 =>
   (quo .i64 (ior .i64 q1 ex1) d1).bind fun q2 =>
   (ix l2 i1).bind fun _ =>
   (lset l2 i1 q2).bind fun l4 =>
   (rem (ior .i64 q1 ex1) d1).bind fun q3 =>
   a7u n ax1 d1 kont1 mx1 q3 (isub .i64 i1 1) l4
  else
   kont1 rx1 l2
theorem b2i (n : Nat) (ax1 : (List Int)) (d1 : Int) (kont1 : Int → (List Int) → Option ((List Int) × Int)) (mx1 : Nat) (rx1 : Int) (i1 : Int) (l2 : List Int) : a7u n ax1 d1 kont1 (mx1 + 1) rx1 i1 l2 =
  bif decide (0 ≤ i1) then
   (shl .i64 rx1 20).bind fun q1 =>
   (ix ax1 i1).bind fun ex1 =>
   (quo .i64 (ior .i64 q1 ex1) d1).bind fun q2 =>
   (ix l2 i1).bind fun _ =>
   (lset l2 i1 q2).bind fun l4 =>
   (rem (ior .i64 q1 ex1) d1).bind fun q3 =>
   a7u n ax1 d1 kont1 mx1 q3 (isub .i64 i1 1) l4
  else
   kont1 rx1 l2 := rfl
def a8r (n : Nat) (ax1 : (List Int)) (d1 : Int) : Option ((List Int) × Int) :=
 (mks 8 0 (ax1.length : Int)).bind fun l1 =>
 a7u n ax1 d1 (fun (rx2 : Int) (l3 : List Int) =>
  (a3r n l3).bind fun v1 =>
  some (v1, rx2)) n 0 (isub .i64 (ax1.length : Int) 1) l1
theorem b7r (n : Nat) (ax1 : (List Int)) (d1 : Int) (r : ((List Int) × Int)) (hm : a8r n ax1 d1 = some r) {w : World} {F : Frz} (hs : Sat F w) {I : Option Addr} {J : Nat} {o : Nat} (L : SlR (Rp.int .i64) F I J o ax1) :
  Calls Tryz.prog 124 #[.slice I J o, .int .i64 d1] w fun e w' => ∃ v F' O', e = .returned v ∧ HS F w [] F' O' w' ∧ (∃ (a0_0 : Option Addr) (n0_0 : Nat) (c0_0 : Nat) (xs0_0 : List Value), v = .tuple #[.slice a0_0 n0_0 c0_0, .int .i64 r.2] ∧ O' = [.row 3 1 a0_0 n0_0 c0_0 xs0_0] ∧ RowN (Rp.int .i64) F' n0_0 xs0_0 r.1) := by
 unfold a8r at hm
 have h := HS.init hs
 refine a1a 38 Tryz.func124 Y Y Y (a0g (a0a (a0b Y Y Y (a0b Y Y Y (a0e (a0c (a0g (a0a (a0d Y Y Y (a1y L.len u28 Y Y Y ?_))))))))))
 obtain ⟨l1, g3, hm⟩ := Yb hm
 refine c1t (r := (Rp.int .i64)) ap28 zi3 (fun _ => Y) Y Y Y h Y Y g3 ?_
 intro b1 gi xs1 g4 g5
 refine a0b Y Y Y (a0e (a0c (a0g (a0a (a0b Y Y Y (a0e (a0c (a0g (a0g (a0a (a0d Y Y Y (a1y L.len u28 Y Y Y (a0u Y Y Y Y Y (a0b Y Y Y (a0e (a0c (a1j ?_)))))))))))))))))
 intro a Z
 obtain ⟨kont1, hkont1⟩ : ∃ kont1 : Int → (List Int) → Option ((List Int) × Int), kont1 = (fun (rx2 : Int) (l3 : List Int) => (a3r n l3).bind fun v1 => some (v1, rx2)) := ⟨_, Y⟩
 replace hm : (fun m (s : Int × Int × List Int) => a7u n ax1 d1 kont1 m s.1 s.2.1 s.2.2) n (0, (isub .i64 (ax1.length : Int) 1), l1) = some r := by rw [hkont1]; exact hm
 refine a5j (id := 0) (fun m (s : Int × Int × List Int) => a7u n ax1 d1 kont1 m s.1 s.2.1 s.2.2) (fun (y : Int × List Int) => kont1 y.1 y.2) r (fun (s : Int × Int × List Int) a w' => ∃ (x : Frz) (q : Option Addr) (i : Nat) (g : Nat) (xss2 : List Value), Frz.le F x ∧ HS F w [] x [.row 3 1 q i g xss2] w' ∧ (RowN (Rp.int .i64) x i xss2 s.2.2) ∧ Has 38 a [(0, .slice I J o), (1, .int .i64 d1), (6, .slice q i g), (7, .int .i64 s.1), (8, .int .i64 s.2.1)]) (fun (y : Int × List Int) a w' => ∃ (z : Frz) (t : Option Addr) (G : Nat) (u : Nat) (xss3 : List Value), Frz.le F z ∧ HS F w [] z [.row 3 1 t G u xss3] w' ∧ (RowN (Rp.int .i64) z G xss3 y.2) ∧ Has 38 a [(6, .slice t G u), (7, .int .i64 y.1)]) (fun _ => Y) ?_ ?_ hm ⟨_, (some ⟨b1, 0, none⟩), ((ax1.length : Int).toNat), ((ax1.length : Int).toNat), xs1, Yf, g4.Yp [0] Y Y, g5, Z.cut (l := [0, 1, 6, 7, 8]) Y⟩
 clear hm; rintro ⟨rx2, l3⟩ a gj hm ⟨z, t, G, u, xss3, gk, T, U, g0⟩
 rw [hkont1] at hm
 replace hm := hm
 refine a2c (e := .exit 0) g0 (a1m (a0c (a0g (a0a (a0d Y Y Y ?_)))))
 obtain ⟨v1, g6, hm⟩ := Yb hm
 refine b3v ent118 Y Y Y Y (a7n _ _ _ g6 (b1a _) (T.viewRow (p := 0) Y Y U)) ?_
 intro M hles4 hvs4
 obtain ⟨g7, V⟩ := T.cutN (p := 0) Y U hles4
 rw [← hvs4] at V
 refine a0d Y Y Y (a0b Y Y Y (a0b Y Y Y (a0e (a0c (a1c (a1q (vl := [.slice t M u, .int .i64 rx2]) Y ⟨a1p Y, a1p Y, trivial⟩ (by simp) ?_))))))
 obtain rfl := Yo hm
 exact ⟨_, _, _, Y, g7.Yp [0] Y Y, t, M, u, (xss3.take (M * ((Rp.int .i64)).k)), Y, Y, V⟩
 clear hm hkont1; intro hk1 mx1 K ihx1
 rintro ⟨rx1, i1, l2⟩ a gl hm ⟨x, q, i, g, xss2, N, H, Q, g1⟩
 simp only [b2i] at hm
 refine a1l g1 (a0g (a0g (a0a (a0d Y Y Y (a0u Y Y Y Y Y (a0e (a0c ?_)))))))
 rcases a0h hm with ⟨R, hm⟩ | ⟨R, hm⟩
 refine a0r 16 Y R (a0x Y (a1b (a0c (a0g (a1j (a0g (a0a (a0d Y Y Y ?_))))))))
 obtain ⟨q1, hq1, hm⟩ := Yb hm
 refine d2o Y Y Y Y hq1 (a0d Y Y Y (a0d Y Y Y ?_))
 obtain ⟨ex1, g8, hm⟩ := Yb hm
 refine a2r (r := (Rp.int .i64)) u28 sz3 Y Y Y Y (L.mono N) g8 ?_
 intro b2 o1 o g9 ga
 have gb : o = [.int .i64 ex1] := ga
 subst gb
 refine a2j (j := 0) ag3 Y Y H g9 Y Y (a0u Y Y Y Y Y (a0b Y Y Y (a0e (a0c (a0g (a0a (a0d Y Y Y (a0d Y Y Y (a0d Y Y Y (a0d Y Y Y ?_))))))))))
 obtain ⟨q2, hq2, hm⟩ := Yb hm
 refine c7r Y Y Y Y hq2 ?_
 obtain ⟨ex2, gc, hm⟩ := Yb hm
 refine a4y (r := (Rp.int .i64)) u28 sz3 Y Y H Y Y (p := 0) Y Y Q gc ?_
 intro b3 o2 g g2 ho1 gd hp1
 have ge : g = [.int .i64 ex2] := gd
 subst ge
 obtain ⟨l4, gf, hm⟩ := Yb hm
 refine a7m (r := (Rp.int .i64)) sz3 Y H Y Y Y Y Y (p := 0) Y Y g2 ho1 Q Y Y gf ?_
 intro gm xs2 gg gh
 refine a0e (a0c (a0a (a0d Y Y Y (a0d Y Y Y ?_))))
 obtain ⟨q3, hq3, hm⟩ := Yb hm
 refine c8b Y Y Y Y hq3 (a0b Y Y Y (a0e (a1o (a0c (a0a (a0d Y Y Y (a0u Y Y Y Y Y (a0b Y Y Y (a0e (a0k (fun a ha => ihx1 (q3, (isub .i64 i1 1), l4) a _ hm ?_)))))))))))
 exact ⟨_, q, i, g, xs2, N, gg.Yp [0] Y Y, gh, ha.cut (l := [0, 1, 6, 7, 8]) Y⟩
 refine a0r 16 Y R (a0p Y (a3p (a0w (a0w (fun a ha => hk1 (rx1, l2) a _ hm ?_)))))
 exact ⟨_, q, i, g, xss2, N, H.Yp [0] Y Y, Q, ha.cut (l := [6, 7]) Y⟩
def a5a (n : Nat) (v1 : (List Int)) (l2 : List Int) (kont1 : (List Int) → Option ((List Int) × Int)) : Nat → Int → Int → (List Int) → Option ((List Int) × Int)
 | 0, _, _, _ => none
 | mx1 + 1, carry1, i2, l3 =>
  bif decide (i2 < (l2.length : Int)) then
   (ix l3 i2).bind fun ex1 =>
   (bif decide (i2 < (v1.length : Int)) then
    (ix v1 i2).bind fun ex3 =>
    some (iadd .i64 (iadd .i64 carry1 ex1) ex3)
   else
    some (iadd .i64 carry1 ex1)).bind fun carry2 =>
   (ix l3 i2).bind fun _ =>
   (lset l3 i2 (iand .i64 carry2 1048575)).bind fun l5 =>
   (shr .i64 carry2 20).bind fun q1 =>
   a5a n v1 l2 kont1 mx1 q1 (iadd .i64 i2 1) l5
  else
   kont1 l3
theorem b1s (n : Nat) (v1 : (List Int)) (l2 : List Int) (kont1 : (List Int) → Option ((List Int) × Int)) (mx1 : Nat) (carry1 : Int) (i2 : Int) (l3 : List Int) : a5a n v1 l2 kont1 (mx1 + 1) carry1 i2 l3 =
  bif decide (i2 < (l2.length : Int)) then
   (ix l3 i2).bind fun ex1 =>
   (bif decide (i2 < (v1.length : Int)) then
    (ix v1 i2).bind fun ex3 =>
    some (iadd .i64 (iadd .i64 carry1 ex1) ex3)
   else
    some (iadd .i64 carry1 ex1)).bind fun carry2 =>
   (ix l3 i2).bind fun _ =>
   (lset l3 i2 (iand .i64 carry2 1048575)).bind fun l5 =>
   (shr .i64 carry2 20).bind fun q1 =>
   a5a n v1 l2 kont1 mx1 q1 (iadd .i64 i2 1) l5
  else
   kont1 l3 := rfl
def a6v (n : Nat) (u1 : (List Int)) (v1 : (List Int)) (guess1 : Int) (kont2 : Int → (List Int) → Option ((List Int) × Int)) : Nat → Int → Int → (List Int) → Option ((List Int) × Int)
 | 0, _, _, _ => none
 | mx2 + 1, borrow1, i1, l1 =>
  bif decide (i1 < (u1.length : Int)) then
   (ix l1 i1).bind fun ex4 =>
   (bif decide (i1 < (v1.length : Int)) then
    (ix v1 i1).bind fun ex6 =>
    some (isub .i64 (isub .i64 ex4 borrow1) (imul .i64 guess1 ex6))
   else
    some (isub .i64 ex4 borrow1)).bind fun nx1 =>
   (ix l1 i1).bind fun _ =>
   (lset l1 i1 (iand .i64 nx1 1048575)).bind fun l6 =>
   (shr .i64 nx1 20).bind fun q2 =>
   a6v n u1 v1 guess1 kont2 mx2 (IntKind.i64.wrap (0 - q2)) (iadd .i64 i1 1) l6
  else
   kont2 borrow1 l1
theorem b1j (n : Nat) (u1 : (List Int)) (v1 : (List Int)) (guess1 : Int) (kont2 : Int → (List Int) → Option ((List Int) × Int)) (mx2 : Nat) (borrow1 : Int) (i1 : Int) (l1 : List Int) : a6v n u1 v1 guess1 kont2 (mx2 + 1) borrow1 i1 l1 =
  bif decide (i1 < (u1.length : Int)) then
   (ix l1 i1).bind fun ex4 =>
   (bif decide (i1 < (v1.length : Int)) then
    (ix v1 i1).bind fun ex6 =>
    some (isub .i64 (isub .i64 ex4 borrow1) (imul .i64 guess1 ex6))
   else
    some (isub .i64 ex4 borrow1)).bind fun nx1 =>
   (ix l1 i1).bind fun _ =>
   (lset l1 i1 (iand .i64 nx1 1048575)).bind fun l6 =>
   (shr .i64 nx1 20).bind fun q2 =>
   a6v n u1 v1 guess1 kont2 mx2 (IntKind.i64.wrap (0 - q2)) (iadd .i64 i1 1) l6
  else
   kont2 borrow1 l1 := rfl
def a9g (n : Nat) (u1 : (List Int)) (v1 : (List Int)) (guess1 : Int) : Option ((List Int) × Int) :=
 a6v n u1 v1 guess1 (fun (borrow2 : Int) (l2 : List Int) =>
  bif borrow2 == 0 then
   some (l2, guess1)
  else
   a5a n v1 l2 (fun (l4 : List Int) =>
    some (l4, isub .i64 guess1 1)) n 0 0 l2) n 0 0 u1
theorem c2d (n : Nat) (u1 : (List Int)) (v1 : (List Int)) (guess1 : Int) (r : ((List Int) × Int)) (hm : a9g n u1 v1 guess1 = some r) {w : World} {F : Frz} (hs : Sat F w) {au1 : Option Addr} {nu1 : Nat} {cu1 : Nat} {preu1 xsu1 postu1 : List Value} {i : Option Addr} {k : Nat} {g : Nat} (hbu1 : (OE.win 3 1 au1 nu1 cu1 preu1 xsu1 postu1).ok w) (hfu1 : ∀ b, (OE.win 3 1 au1 nu1 cu1 preu1 xsu1 postu1).blk = some b → F b = none) (hru1 : RowN (Rp.int .i64) F nu1 xsu1 u1) (z : SlR (Rp.int .i64) F i k g v1) :
  Calls Tryz.prog 125 #[.slice au1 nu1 cu1, .slice i k g, .int .i64 guess1] w fun e w' => ∃ v F' xs' O', e = .returned v ∧ HS F w (blks (OE.win 3 1 au1 nu1 cu1 preu1 xsu1 postu1)) F' (.win 3 1 au1 nu1 cu1 preu1 xs' postu1 :: O') w' ∧ (v = .int .i64 r.2 ∧ O' = [] ∧ RowN (Rp.int .i64) F' nu1 xs' r.1) := by
 unfold a9g at hm
 have h := HS.lendE hs hbu1 hfu1
 refine a1a 78 Tryz.func125 Y Y Y (a0g (a0a (a0b Y Y Y (a0e (a0c (a0g (a0a (a0b Y Y Y (a0e (a0c (a0g (a0g (a0a (a0d Y Y Y (a1y hru1.len u28 Y Y Y (a0d Y Y Y (a0e (a0c (a1j ?_)))))))))))))))))))
 intro a g0
 obtain ⟨kont2, hkont2⟩ : ∃ kont2 : Int → (List Int) → Option ((List Int) × Int), kont2 = (fun (borrow2 : Int) (l2 : List Int) => bif borrow2 == 0 then some (l2, guess1) else a5a n v1 l2 (fun (l4 : List Int) => some (l4, isub .i64 guess1 1)) n 0 0 l2) := ⟨_, Y⟩
 replace hm : (fun m (s : Int × Int × List Int) => a6v n u1 v1 guess1 kont2 m s.1 s.2.1 s.2.2) n (0, 0, u1) = some r := by rw [hkont2]; exact hm
 refine a5j (id := 0) (fun m (s : Int × Int × List Int) => a6v n u1 v1 guess1 kont2 m s.1 s.2.1 s.2.2) (fun (y : Int × List Int) => kont2 y.1 y.2) r (fun (s : Int × Int × List Int) a w' => ∃ (G : Frz) (xss2 : List Value), Frz.le F G ∧ HS F w (blks (OE.win 3 1 au1 nu1 cu1 preu1 xsu1 postu1)) G [.win 3 1 au1 nu1 cu1 preu1 xss2 postu1] w' ∧ (RowN (Rp.int .i64) G nu1 xss2 s.2.2) ∧ Has 78 a [(0, .slice au1 nu1 cu1), (1, .slice i k g), (2, .int .i64 guess1), (7, .int .i64 s.1), (13, .int .i64 (u1.length : Int)), (14, .int .i64 s.2.1)]) (fun (y : Int × List Int) a w' => ∃ (t : Frz) (xss3 : List Value), Frz.le F t ∧ HS F w (blks (OE.win 3 1 au1 nu1 cu1 preu1 xsu1 postu1)) t [.win 3 1 au1 nu1 cu1 preu1 xss3 postu1] w' ∧ (RowN (Rp.int .i64) t nu1 xss3 y.2) ∧ Has 78 a [(0, .slice au1 nu1 cu1), (1, .slice i k g), (2, .int .i64 guess1), (7, .int .i64 y.1)]) (fun _ => Y) ?_ ?_ hm ⟨_, xsu1, Yf, h.Yp [0] Y Y, hru1, g0.cut (l := [0, 1, 2, 7, 13, 14]) Y⟩
 clear hm; rintro ⟨borrow2, l2⟩ a he hm ⟨t, xss3, gd, g3, M, g4⟩
 rw [hkont2] at hm
 replace hm := hm
 refine a2c (e := .exit 0) g4 (a1m (a0c (a0g (a0g (a0a (a0d Y Y Y (a0u Y Y Y Y Y (a0e (a0c ?_)))))))))
 rcases a0h hm with ⟨N, hm⟩ | ⟨N, hm⟩
 refine a0r 45 Y N (a0x Y (a0g (a0a (a0d Y Y Y (a0b Y Y Y (a0e (a0c (a1c (a0j (a1n Y Y ?_))))))))))
 obtain rfl := Yo hm
 exact ⟨_, _, _, _, Y, g3.Yp [0] Y Y, Y, Y, M⟩
 refine a0r 45 Y N (a0p Y (a1b (a0c (a0g (a0a (a0b Y Y Y (a0e (a0c (a0g (a0g (a0a (a0d Y Y Y (a1y M.len u28 Y Y Y (a0d Y Y Y (a0e (a0c (a1j ?_)))))))))))))))))
 intro a g5
 obtain ⟨kont1, hkont1⟩ : ∃ kont1 : (List Int) → Option ((List Int) × Int), kont1 = (fun (l4 : List Int) => some (l4, isub .i64 guess1 1)) := ⟨_, Y⟩
 replace hm : (fun m (s : Int × Int × List Int) => a5a n v1 l2 kont1 m s.1 s.2.1 s.2.2) n (0, 0, l2) = some r := by rw [hkont1]; exact hm
 refine a5j (id := 2) (fun m (s : Int × Int × List Int) => a5a n v1 l2 kont1 m s.1 s.2.1 s.2.2) (fun (y : List Int) => kont1 y) r (fun (s : Int × Int × List Int) a w' => ∃ (H : Frz) (xss4 : List Value), Frz.le t H ∧ HS F w (blks (OE.win 3 1 au1 nu1 cu1 preu1 xsu1 postu1)) H [.win 3 1 au1 nu1 cu1 preu1 xss4 postu1] w' ∧ (RowN (Rp.int .i64) H nu1 xss4 s.2.2) ∧ Has 78 a [(0, .slice au1 nu1 cu1), (1, .slice i k g), (2, .int .i64 guess1), (10, .int .i64 s.1), (48, .int .i64 (l2.length : Int)), (49, .int .i64 s.2.1)]) (fun (y : List Int) a w' => ∃ (I : Frz) (xss5 : List Value), Frz.le t I ∧ HS F w (blks (OE.win 3 1 au1 nu1 cu1 preu1 xsu1 postu1)) I [.win 3 1 au1 nu1 cu1 preu1 xss5 postu1] w' ∧ (RowN (Rp.int .i64) I nu1 xss5 y) ∧ Has 78 a [(2, .int .i64 guess1)]) (fun _ => Y) ?_ ?_ hm ⟨_, xss3, Yf, g3.Yp [0] Y Y, M, g5.cut (l := [0, 1, 2, 10, 48, 49]) Y⟩
 clear hm; rintro l4 a hf hm ⟨I, xss5, hg, ge, gf, g6⟩
 rw [hkont1] at hm
 replace hm := hm
 refine a2c (e := .exit 2) g6 (a1m (a0c (a0g (a0a (a0d Y Y Y (a0u Y Y Y Y Y (a0b Y Y Y (a0e (a0c (a1c (a1n Y Y ?_)))))))))))
 obtain rfl := Yo hm
 exact ⟨_, _, _, _, Y, ge.Yp [0] Y Y, Y, Y, gf⟩
 clear hm hkont1; intro hk1 mx1 K ihx1
 rintro ⟨carry1, i2, l3⟩ a gg hm ⟨H, xss4, Q, u, J, g7⟩
 simp only [b1s] at hm
 refine a1l g7 (a0g (a0a (a0u Y Y Y Y Y (a0e (a0c (a0g ?_))))))
 rcases a0h hm with ⟨R, hm⟩ | ⟨R, hm⟩
 refine a0r 50 Y R (a0x Y (a1b (a0c (a0g (a1j (a0g (a0a (a0d Y Y Y (a0b Y Y Y (a0e (a0c (a0g (a0a (a0d Y Y Y (a0d Y Y Y (a0d Y Y Y ?_))))))))))))))))
 obtain ⟨ex1, gh, hm⟩ := Yb hm
 refine a4y (r := (Rp.int .i64)) u28 sz3 Y Y u Y Y (p := 0) Y Y J gh ?_
 intro b1 o1 g g8 ho1 gi hp1
 have gj : g = [.int .i64 ex1] := gi
 subst gj
 refine a4q (j := 0) ag3 Y Y u Y (p := 0) Y Y g8 ho1 hp1 Y (a0u Y Y Y Y Y (a0b Y Y Y (a0e (a0c (a0g (a0g (a0a (a0d Y Y Y (a0d Y Y Y (a1y z.len u28 Y Y Y (a0u Y Y Y Y Y (a0e (a0c ?_)))))))))))))
 obtain ⟨carry2, o, hm⟩ := Yb hm
 refine a6f (fun a w' => gg = w' ∧ Has 78 a [(0, .slice au1 nu1 cu1), (1, .slice i k g), (2, .int .i64 guess1), (10, .int .i64 carry2), (11, .int .i64 i2), (48, .int .i64 (l2.length : Int)), (49, .int .i64 i2)]) ?_ ?_
 rintro a hh ⟨rfl, g9⟩
 refine a1l g9 (a0g (a0a (a0d Y Y Y (a0d Y Y Y (a0d Y Y Y (a0u Y Y Y Y Y ?_))))))
 obtain ⟨ex2, gk, hm⟩ := Yb hm
 refine a4y (r := (Rp.int .i64)) u28 sz3 Y Y u Y Y (p := 0) Y Y J gk ?_
 intro b2 o2 gl ga ho2 gm hp2
 have gn : gl = [.int .i64 ex2] := gm
 subst gn
 obtain ⟨l5, go, hm⟩ := Yb hm
 refine a7m (r := (Rp.int .i64)) sz3 Y u Y Y Y Y Y (p := 0) Y Y ga ho2 J Y Y go ?_
 intro hi xs1 gp gq
 refine a0e (a0c (a0a (a0d Y Y Y ?_)))
 obtain ⟨q1, hq1, hm⟩ := Yb hm
 refine c6y Y Y Y Y hq1 (a0b Y Y Y (a0e (a1o (a0c (a0a (a0u Y Y Y Y Y (a0d Y Y Y (a0e (a0k (fun a ha => ihx1 (q1, (iadd .i64 i2 1), l5) a _ hm ?_))))))))))
 exact ⟨_, xs1, Q, gp.Yp [0] Y Y, gq, ha.cut (l := [0, 1, 2, 10, 48, 49]) Y⟩
 clear hm
 rcases a0h o with ⟨T, o⟩ | ⟨T, o⟩
 refine a0r 61 Y T (a0x Y (a0a (a0d Y Y Y (a0d Y Y Y (a0d Y Y Y ?_)))))
 obtain ⟨ex3, gr, o⟩ := Yb o
 refine a2r (r := (Rp.int .i64)) u28 sz3 Y Y Y Y ((z.mono gd).mono Q) gr ?_
 intro b3 o3 gs gt gu
 have gv : gs = [.int .i64 ex3] := gu
 subst gv
 refine a2j (j := 0) ag3 Y Y u gt Y Y (a0u Y Y Y Y Y (a0b Y Y Y (a0e (a0k (fun a ha => ?_)))))
 cases o
 exact ⟨Y, ha.cut (l := [0, 1, 2, 10, 11, 48, 49]) Y⟩
 refine a0r 61 Y T (a0p Y (a1b (a0k (fun a ha => ?_))))
 cases o
 exact ⟨Y, ha.cut (l := [0, 1, 2, 10, 11, 48, 49]) Y⟩
 refine a0r 50 Y R (a0p Y (a3p (a0w (a0w (fun a ha => hk1 l3 a _ hm ?_)))))
 exact ⟨_, xss4, Q, u.Yp [0] Y Y, J, ha.cut (l := [2]) Y⟩
 clear hm hkont2; intro hk2 mx2 K ihx2
 rintro ⟨borrow1, i1, l1⟩ a gw hm ⟨G, xss2, U, x, L, gb⟩
 simp only [b1j] at hm
 refine a1l gb (a0g (a0a (a0u Y Y Y Y Y (a0e (a0c (a0g ?_))))))
 rcases a0h hm with ⟨V, hm⟩ | ⟨V, hm⟩
 refine a0r 15 Y V (a0x Y (a1b (a0c (a0g (a1j (a0g (a0a (a0d Y Y Y (a0b Y Y Y (a0e (a0c (a0g (a0a (a0d Y Y Y (a0d Y Y Y ?_)))))))))))))))
 obtain ⟨ex4, gx, hm⟩ := Yb hm
 refine a4y (r := (Rp.int .i64)) u28 sz3 Y Y x Y Y (p := 0) Y Y L gx ?_
 intro b4 o4 gy gc ho3 gz hp3
 have h0 : gy = [.int .i64 ex4] := gz
 subst h0
 refine a4q (j := 0) ag3 Y Y x Y (p := 0) Y Y gc ho3 hp3 Y (a0d Y Y Y (a0u Y Y Y Y Y (a0b Y Y Y (a0e (a0c (a0g (a0g (a0a (a0d Y Y Y (a0d Y Y Y (a1y z.len u28 Y Y Y (a0u Y Y Y Y Y (a0e (a0c ?_))))))))))))))
 obtain ⟨nx1, q, hm⟩ := Yb hm
 refine a6f (fun a w' => gw = w' ∧ Has 78 a [(0, .slice au1 nu1 cu1), (1, .slice i k g), (2, .int .i64 guess1), (8, .int .i64 i1), (9, .int .i64 nx1), (13, .int .i64 (u1.length : Int)), (14, .int .i64 i1)]) ?_ ?_
 rintro a hj ⟨rfl, g1⟩
 refine a1l g1 (a0g (a0a (a0d Y Y Y (a0d Y Y Y (a0d Y Y Y (a0u Y Y Y Y Y ?_))))))
 obtain ⟨ex5, h1, hm⟩ := Yb hm
 refine a4y (r := (Rp.int .i64)) u28 sz3 Y Y x Y Y (p := 0) Y Y L h1 ?_
 intro b5 o5 h2 g2 ho4 h3 hp4
 have h4 : h2 = [.int .i64 ex5] := h3
 subst h4
 obtain ⟨l6, h5, hm⟩ := Yb hm
 refine a7m (r := (Rp.int .i64)) sz3 Y x Y Y Y Y Y (p := 0) Y Y g2 ho4 L Y Y h5 ?_
 intro hk xs2 h6 h7
 refine a0e (a0c (a0a (a0d Y Y Y ?_)))
 obtain ⟨q2, hq2, hm⟩ := Yb hm
 refine c6y Y Y Y Y hq2 (c7i Y Y Y (a0b Y Y Y (a0e (a1o (a0c (a0a (a0u Y Y Y Y Y (a0d Y Y Y (a0e (a0k (fun a ha => ihx2 ((IntKind.i64.wrap (0 - q2)), (iadd .i64 i1 1), l6) a _ hm ?_)))))))))))
 exact ⟨_, xs2, U, h6.Yp [0] Y Y, h7, ha.cut (l := [0, 1, 2, 7, 13, 14]) Y⟩
 clear hm
 rcases a0h q with ⟨Z, q⟩ | ⟨Z, q⟩
 refine a0r 26 Y Z (a0x Y (a0a (a0d Y Y Y (a0d Y Y Y (a0d Y Y Y (a0d Y Y Y ?_))))))
 obtain ⟨ex6, h8, q⟩ := Yb q
 refine a2r (r := (Rp.int .i64)) u28 sz3 Y Y Y Y (z.mono U) h8 ?_
 intro b6 o6 h9 hb hc
 have hd : h9 = [.int .i64 ex6] := hc
 subst hd
 refine a2j (j := 0) ag3 Y Y x hb Y Y (a0u Y Y Y Y Y (a0u Y Y Y Y Y (a0b Y Y Y (a0e (a0k (fun a ha => ?_))))))
 cases q
 exact ⟨Y, ha.cut (l := [0, 1, 2, 8, 9, 13, 14]) Y⟩
 refine a0r 26 Y Z (a0p Y (a1b (a0k (fun a ha => ?_))))
 cases q
 exact ⟨Y, ha.cut (l := [0, 1, 2, 8, 9, 13, 14]) Y⟩
 refine a0r 15 Y V (a0p Y (a3p (a0w (a0w (fun a ha => hk2 (borrow1, l1) a _ hm ?_)))))
 exact ⟨_, xss2, U, x.Yp [0] Y Y, L, ha.cut (l := [0, 1, 2, 7]) Y⟩
end Go.Proofs.YtknpjecpcmajiaaGreatDoor.M

namespace Go.Proofs.YtknpjecpcmajiaaGreatDoor.M
open Go Go.RowKit Rt
theorem ent124 : Ent Tryz.prog 124 := fun _ _ => by kernel_rfl
theorem ent120 : Ent Tryz.prog 120 := fun _ _ => by kernel_rfl
theorem ent125 : Ent Tryz.prog 125 := fun _ _ => by kernel_rfl
def a9a (n : Nat) (v6 : (List Int)) (i1 : Int) (l5 : List Int) (kont2 : Int → Option ((List Int) × (List Int))) : Nat → Int → Int → Option ((List Int) × (List Int))
 | 0, _, _ => none
 | mx2 + 1, guess1, rest1 =>
  (bif decide (1048576 ≤ guess1) then
   some true
  else
   (bif decide (rest1 < 1048576) then
    (ix v6 (isub .i64 (v6.length : Int) 2)).bind fun ex8 =>
    (shl .i64 rest1 20).bind fun q4 =>
    (ix l5 (isub .i64 (iadd .i64 i1 (v6.length : Int)) 2)).bind fun ex9 =>
    some (decide ((ior .i64 q4 ex9) < (imul .i64 guess1 ex8)))
   else
    some false).bind fun v12 =>
   some v12).bind fun v11 =>
  bif v11 then
   (ix v6 (isub .i64 (v6.length : Int) 1)).bind fun ex7 =>
   a9a n v6 i1 l5 kont2 mx2 (isub .i64 guess1 1) (iadd .i64 rest1 ex7)
  else
   kont2 guess1
theorem b1v (n : Nat) (v6 : (List Int)) (i1 : Int) (l5 : List Int) (kont2 : Int → Option ((List Int) × (List Int))) (mx2 : Nat) (guess1 : Int) (rest1 : Int) : a9a n v6 i1 l5 kont2 (mx2 + 1) guess1 rest1 =
  (bif decide (1048576 ≤ guess1) then
   some true
  else
   (bif decide (rest1 < 1048576) then
    (ix v6 (isub .i64 (v6.length : Int) 2)).bind fun ex8 =>
    (shl .i64 rest1 20).bind fun q4 =>
    (ix l5 (isub .i64 (iadd .i64 i1 (v6.length : Int)) 2)).bind fun ex9 =>
    some (decide ((ior .i64 q4 ex9) < (imul .i64 guess1 ex8)))
   else
    some false).bind fun v12 =>
   some v12).bind fun v11 =>
  bif v11 then
   (ix v6 (isub .i64 (v6.length : Int) 1)).bind fun ex7 =>
   a9a n v6 i1 l5 kont2 mx2 (isub .i64 guess1 1) (iadd .i64 rest1 ex7)
  else
   kont2 guess1 := rfl
def a8h (n : Nat) (v6 : (List Int)) (kont1 : (List Int) → (List Int) → Option ((List Int) × (List Int))) : Nat → Int → (List Int) → (List Int) → Option ((List Int) × (List Int))
 | 0, _, _, _ => none
 | mx1 + 1, i1, l4, l5 =>
  bif decide (0 ≤ i1) then
   (ix l5 (iadd .i64 i1 (v6.length : Int))).bind fun ex2 =>
   (shl .i64 ex2 20).bind fun q1 =>
   (ix l5 (isub .i64 (iadd .i64 i1 (v6.length : Int)) 1)).bind fun ex3 =>
   (ix v6 (isub .i64 (v6.length : Int) 1)).bind fun ex4 =>
   (quo .i64 (ior .i64 q1 ex3) ex4).bind fun q2 =>
   (ix v6 (isub .i64 (v6.length : Int) 1)).bind fun ex5 =>
   (rem (ior .i64 q1 ex3) ex5).bind fun q3 =>
   a9a n v6 i1 l5 (fun (guess2 : Int) =>
    (lsl l5 i1 (iadd .i64 (iadd .i64 i1 (v6.length : Int)) 1)).bind fun l8 =>
    (a9g n l8 v6 guess2).bind fun v10 =>
    (ix l4 i1).bind fun _ =>
    (lset l4 i1 v10.2).bind fun l9 =>
    a8h n v6 kont1 mx1 (isub .i64 i1 1) l9 (lput l5 i1 v10.1 (iadd .i64 (iadd .i64 i1 (v6.length : Int)) 1))) n q2 q3
  else
   kont1 l4 l5
theorem b3x (n : Nat) (v6 : (List Int)) (kont1 : (List Int) → (List Int) → Option ((List Int) × (List Int))) (mx1 : Nat) (i1 : Int) (l4 : List Int) (l5 : List Int) : a8h n v6 kont1 (mx1 + 1) i1 l4 l5 =
  bif decide (0 ≤ i1) then
   (ix l5 (iadd .i64 i1 (v6.length : Int))).bind fun ex2 =>
   (shl .i64 ex2 20).bind fun q1 =>
   (ix l5 (isub .i64 (iadd .i64 i1 (v6.length : Int)) 1)).bind fun ex3 =>
   (ix v6 (isub .i64 (v6.length : Int) 1)).bind fun ex4 =>
   (quo .i64 (ior .i64 q1 ex3) ex4).bind fun q2 =>
   (ix v6 (isub .i64 (v6.length : Int) 1)).bind fun ex5 =>
   (rem (ior .i64 q1 ex3) ex5).bind fun q3 =>
   a9a n v6 i1 l5 (fun (guess2 : Int) =>
    (lsl l5 i1 (iadd .i64 (iadd .i64 i1 (v6.length : Int)) 1)).bind fun l8 =>
    (a9g n l8 v6 guess2).bind fun v10 =>
    (ix l4 i1).bind fun _ =>
    (lset l4 i1 v10.2).bind fun l9 =>
    a8h n v6 kont1 mx1 (isub .i64 i1 1) l9 (lput l5 i1 v10.1 (iadd .i64 (iadd .i64 i1 (v6.length : Int)) 1))) n q2 q3
  else
   kont1 l4 l5 := rfl
def a9q (n : Nat) (b1 : (List Int)) (kont3 : Int → Option ((List Int) × (List Int))) : Nat → Int → Option ((List Int) × (List Int))
 | 0, _ => none
 | mx3 + 1, shift1 =>
  (ix b1 (isub .i64 (b1.length : Int) 1)).bind fun ex10 =>
  bif decide ((imul .i64 ex10 shift1) < 524288) then
   a9q n b1 kont3 mx3 (imul .i64 shift1 2)
  else
   kont3 shift1
theorem b2c (n : Nat) (b1 : (List Int)) (kont3 : Int → Option ((List Int) × (List Int))) (mx3 : Nat) (shift1 : Int) : a9q n b1 kont3 (mx3 + 1) shift1 =
  (ix b1 (isub .i64 (b1.length : Int) 1)).bind fun ex10 =>
  bif decide ((imul .i64 ex10 shift1) < 524288) then
   a9q n b1 kont3 mx3 (imul .i64 shift1 2)
  else
   kont3 shift1 := rfl
def b3y (n : Nat) (ax1 : (List Int)) (b1 : (List Int)) : Option ((List Int) × (List Int)) :=
 (a7o n ax1 b1).bind fun v1 =>
 bif decide (v1 < 0) then
  (a1w n ax1).bind fun v2 =>
  some ([], v2)
 else
  bif (b1.length : Int) == 1 then
   (ix b1 0).bind fun ex1 =>
   (a8r n ax1 ex1).bind fun v3 =>
   (a3r n [v3.2]).bind fun v4 =>
   some (v3.1, v4)
  else
   a9q n b1 (fun (shift2 : Int) =>
    (b2l n ax1 [shift2]).bind fun v5 =>
    (app 8 v5 [0]).bind fun l1 =>
    (b2l n b1 [shift2]).bind fun v6 =>
    (bif (l1.length : Int) == (ax1.length : Int) then
     (app 8 l1 [0]).bind fun l10 =>
     some l10
    else
     some l1).bind fun l2 =>
    (mks 8 0 (isub .i64 (l2.length : Int) (v6.length : Int))).bind fun l3 =>
    a8h n v6 (fun (l6 : List Int) (l7 : List Int) =>
     (a3r n l7).bind fun v7 =>
     (a8r n v7 shift2).bind fun v8 =>
     (a3r n l6).bind fun v9 =>
     some (v9, v8.1)) n (isub .i64 (l3.length : Int) 1) l3 l2) n 1
theorem c1g (n : Nat) (ax1 : (List Int)) (b1 : (List Int)) (r : ((List Int) × (List Int))) (hm : b3y n ax1 b1 = some r) {w : World} {F : Frz} (hs : Sat F w) {gp gq : Option Addr} {gr g4 gs g5 : Nat} (gc : SlR (Rp.int .i64) F gp gr g4 ax1) (g6 : SlR (Rp.int .i64) F gq gs g5 b1) :
  Calls Tryz.prog 104 #[.slice gp gr g4, .slice gq gs g5] w fun e w' => ∃ v F' O', e = .returned v ∧ HS F w [] F' O' w' ∧ (∃ (a0_0 : Option Addr) (n0_0 : Nat) (c0_0 : Nat) (a1_0 : Option Addr) (n1_0 : Nat) (c1_0 : Nat) (xs1_0 : List Value), v = .tuple #[.slice a0_0 n0_0 c0_0, .slice a1_0 n1_0 c1_0] ∧ O' = [.row 3 1 a1_0 n1_0 c1_0 xs1_0] ∧ SlR (Rp.int .i64) F' a0_0 n0_0 c0_0 r.1 ∧ RowN (Rp.int .i64) F' n1_0 xs1_0 r.2) := by
 unfold b3y at hm
 have h := HS.init hs
 refine a1a 170 Tryz.func104 Y Y Y (a0g (a0a (a0b Y Y Y (a0b Y Y Y (a0e (a0c (a0g (a0g (a0a (a0d Y Y Y (a0d Y Y Y ?_)))))))))))
 obtain ⟨v1, k3, hm⟩ := Yb hm
 refine a0i ent96 Y Y Y Y h (b2h _ _ _ _ k3 h.sat gc g6) ?_
 rintro _ k4 _ i7 g7 R ⟨rfl, rfl⟩
 refine a0u Y Y Y Y Y (a0e (a0c ?_))
 rcases a0h hm with ⟨gx, hm⟩ | ⟨gx, hm⟩
 refine a0r 22 Y gx (a0x Y (a0g (a0a (a0d Y Y Y ?_))))
 obtain ⟨v2, k5, hm⟩ := Yb hm
 refine a0i ent50 Y Y Y Y R (a2b _ _ _ k5 R.sat (gc.mono g7)) ?_
 rintro _ mp _ mq mr k6 ⟨i8, i9, gt, xss3, rfl, rfl, k7⟩
 refine a0b Y Y Y (a0b Y Y Y (a0e (a0c (a1c (a0j (a1q (vl := [.slice none 0 0, .slice i8 i9 gt]) Y ⟨a1p Y, a1p Y, trivial⟩ (by simp) ?_))))))
 obtain rfl := Yo hm
 exact ⟨_, _, _, Y, k6.Yp [0] Y Y, none, 0, 0, i8, i9, gt, xss3, Y, Y, SlR.nil _ _, k7⟩
 refine a0r 22 Y gx (a0p Y (a1b (a0c (a0g (a0g (a0a (a0d Y Y Y (a1y g6.len u28 Y Y Y (a0u Y Y Y Y Y (a0e (a0c ?_)))))))))))
 rcases a0h hm with ⟨gy, hm⟩ | ⟨gy, hm⟩
 refine a0r 27 Y gy (a0x Y (a0g (a0a (a0d Y Y Y (a0d Y Y Y ?_)))))
 obtain ⟨ex1, k8, hm⟩ := Yb hm
 refine a2r (r := (Rp.int .i64)) u28 sz3 Y Y Y Y (g6.mono g7) k8 ?_
 intro b2 o1 g4 k9 ka
 have kb : g4 = [.int .i64 ex1] := ka
 subst kb
 refine a2j (j := 0) ag3 Y Y R k9 Y Y ?_
 obtain ⟨v3, kc, hm⟩ := Yb hm
 refine a0i ent124 Y Y Y Y R (b7r _ _ _ _ kc R.sat (gc.mono g7)) ?_
 rintro _ ia _ ms mt kd ⟨ib, ic, gu, xss4, rfl, rfl, ke⟩
 refine a0d Y Y Y (a0l Y Y Y Y (a0l Y Y Y Y (a0b Y Y Y (a0b Y Y Y (a0e (a0c (a0g (a0a (a0d Y Y Y (a0d Y Y Y (a1f (e := 3) (cs := [.int .i64 v3.2]) (q := 1) Y Y kd Y (fun _ => by kernel_rfl) Y Y ?_)))))))))))
 intro b3 mu ie
 obtain ⟨v4, kf, hm⟩ := Yb hm
 refine b3v ent118 Y Y Y Y (a7n _ _ _ kf (b1a _) (ie.viewRow (p := 0) Y Y ((show RowN (Rp.int .i64) ia 1 [.int .i64 v3.2] [v3.2] from ⟨Y, ⟨_, _, Y, Y, (Y : RowR (Rp.int .i64) _ [] [])⟩⟩)))) ?_
 intro gz hles5 hvs5
 obtain ⟨kg, ig⟩ := ie.cutN (p := 0) Y ((show RowN (Rp.int .i64) ia 1 [.int .i64 v3.2] [v3.2] from ⟨Y, ⟨_, _, Y, Y, (Y : RowR (Rp.int .i64) _ [] [])⟩⟩)) hles5
 rw [← hvs5] at ig
 refine a0b Y Y Y (a0b Y Y Y (a0e (a0c (a1c (a0j ?_)))))
 obtain ⟨mv, kh, ki, hsx1⟩ := a1g kg (i := 1) Y ke
 refine a1q (vl := [.slice ib ic gu, .slice (some ⟨b3, 0, none⟩) gz 1]) Y ⟨a1p Y, a1p Y, trivial⟩ (by simp) ?_
 obtain rfl := Yo hm
 exact ⟨_, _, _, Y, ki.Yp [0] Y Y, ib, ic, gu, (some ⟨b3, 0, none⟩), gz, 1, ([.int .i64 v3.2].take (gz * ((Rp.int .i64)).k)), Y, Y, hsx1, (ig.mono kh)⟩
 refine a0r 27 Y gy (a0p Y (a1b (a0c (a0g (a0a (a0b Y Y Y (a0e (a0c (a0g (a1j ?_))))))))))
 intro a ht
 obtain ⟨kont3, hkont3⟩ : ∃ kont3 : Int → Option ((List Int) × (List Int)), kont3 = (fun (shift2 : Int) => (b2l n ax1 [shift2]).bind fun v5 => (app 8 v5 [0]).bind fun l1 => (b2l n b1 [shift2]).bind fun v6 => (bif (l1.length : Int) == (ax1.length : Int) then (app 8 l1 [0]).bind fun l10 => some l10 else some l1).bind fun l2 => (mks 8 0 (isub .i64 (l2.length : Int) (v6.length : Int))).bind fun l3 => a8h n v6 (fun (l6 : List Int) (l7 : List Int) => (a3r n l7).bind fun v7 => (a8r n v7 shift2).bind fun v8 => (a3r n l6).bind fun v9 => some (v9, v8.1)) n (isub .i64 (l3.length : Int) 1) l3 l2) := ⟨_, Y⟩
 replace hm : (fun m (s : Int) => a9q n b1 kont3 m s) n 1 = some r := by rw [hkont3]; exact hm
 refine a5j (id := 0) (fun m (s : Int) => a9q n b1 kont3 m s) (fun (y : Int) => kont3 y) r (fun (s : Int) a w' => i7 = w' ∧ Has 170 a [(0, .slice gp gr g4), (1, .slice gq gs g5), (8, .int .i64 s)]) (fun (y : Int) a w' => i7 = w' ∧ Has 170 a [(0, .slice gp gr g4), (1, .slice gq gs g5), (8, .int .i64 y)]) (fun _ => Y) ?_ ?_ hm ⟨Y, ht.cut (l := [0, 1, 8]) Y⟩
 clear hm; rintro shift2 a mw hm ⟨rfl, iw⟩
 rw [hkont3] at hm
 replace hm := hm
 refine a2c (e := .exit 0) iw (a1m (a0c (a0g (a0a (a0d Y Y Y (a0d Y Y Y (a1f (e := 3) (cs := [.int .i64 shift2]) (q := 1) Y Y R Y (fun _ => by kernel_rfl) Y Y ?_)))))))
 intro b4 mx kj
 obtain ⟨my, ih, ii, hsx2⟩ := a1g kj (i := 0) Y ((show RowN (Rp.int .i64) k4 1 [.int .i64 shift2] [shift2] from ⟨Y, ⟨_, _, Y, Y, (Y : RowR (Rp.int .i64) _ [] [])⟩⟩))
 obtain ⟨v5, kk, hm⟩ := Yb hm
 refine a0i ent120 Y Y Y Y ii (b6y _ _ _ _ kk ii.sat ((gc.mono g7).mono ih) hsx2) ?_
 rintro _ ij _ mz kl km ⟨o0, ik, il, xss6, rfl, rfl, kn⟩
 refine a1f (e := 3) (cs := [.int .i64 0]) (q := 1) Y Y km Y (fun _ => by kernel_rfl) Y Y ?_
 intro b5 oa iy
 obtain ⟨l1, ko, hm⟩ := Yb hm
 refine a4n (r := (Rp.int .i64)) ap28 Y Y iy Y Y (i := 1) (j := 0) Y Y kn ((show RowN (Rp.int .i64) ij 1 [.int .i64 0] [0] from ⟨Y, ⟨_, _, Y, Y, (Y : RowR (Rp.int .i64) _ [] [])⟩⟩)) ko ?_
 intro kp h0 ob iz h1
 refine a0d Y Y Y (a0d Y Y Y (a1f (e := 3) (cs := [.int .i64 shift2]) (q := 1) Y Y iz Y (fun _ => by kernel_rfl) Y Y ?_))
 intro b6 lx j0
 obtain ⟨oc, h2, h3, hsx3⟩ := a1g j0 (i := 0) Y ((show RowN (Rp.int .i64) ij 1 [.int .i64 shift2] [shift2] from ⟨Y, ⟨_, _, Y, Y, (Y : RowR (Rp.int .i64) _ [] [])⟩⟩))
 have kq := ((g7.trans ih).trans kl).trans h2
 obtain ⟨v6, kr, hm⟩ := Yb hm
 refine a0i ent120 Y Y Y Y h3 (b6y _ _ _ _ kr h3.sat (g6.mono kq) hsx3) ?_
 rintro _ im _ ly io h4 ⟨T, U, L, xss8, rfl, rfl, ip⟩
 refine a0b Y Y Y (a0b Y Y Y (a0e (a0c (a0g (a0g (a0a (a0d Y Y Y (a1y h1.len u28 Y Y Y (a0d Y Y Y (a1y gc.len u28 Y Y Y (a0u Y Y Y Y Y (a0e (a0c ?_)))))))))))))
 obtain ⟨l2, V, hm⟩ := Yb hm
 refine a6f (fun a w' => ∃ (gv : Frz) (gw : Option Addr) (gd : Nat) (g8 : Nat) (xss9 : List Value), Frz.le im gv ∧ HS F w [] gv [.row 3 1 T U L xss8, .row 3 1 (some ⟨b5, 0, none⟩) 1 1 [.int .i64 0], .row 3 1 gw gd g8 xss9] w' ∧ (RowN (Rp.int .i64) gv gd xss9 l2) ∧ Has 170 a [(8, .int .i64 shift2), (9, .slice gw gd g8), (10, .slice T U L)]) ?_ ?_
 rintro a lz ⟨gv, gw, gd, g8, xss9, ks, j1, iq, j2⟩
 refine a1l j2 (a0g (a0a (a0d Y Y Y (a1y ip.len u28 Y Y Y (a0b Y Y Y (a0e (a0c (a0g (a0a (a0d Y Y Y (a1y iq.len u28 Y Y Y (a0d Y Y Y (a0u Y Y Y Y Y ?_)))))))))))))
 obtain ⟨l3, kt, hm⟩ := Yb hm
 refine c1t (r := (Rp.int .i64)) ap28 zi3 (fun _ => Y) Y Y Y j1 Y Y kt ?_
 intro b7 m0 xs1 j3 ir
 refine a0b Y Y Y (a0e (a0c (a0g (a0g (a0a (a0d Y Y Y (a1y ir.len u28 Y Y Y (a0u Y Y Y Y Y (a0b Y Y Y (a0e (a0c (a1j ?_))))))))))))
 obtain ⟨h5, h6, j4, hsx4⟩ := a1g j3 (i := 1) Y (ip.mono ks)
 intro a hu
 obtain ⟨kont1, hkont1⟩ : ∃ kont1 : (List Int) → (List Int) → Option ((List Int) × (List Int)), kont1 = (fun (l6 : List Int) (l7 : List Int) => (a3r n l7).bind fun v7 => (a8r n v7 shift2).bind fun v8 => (a3r n l6).bind fun v9 => some (v9, v8.1)) := ⟨_, Y⟩
 replace hm : (fun m (s : Int × List Int × List Int) => a8h n v6 kont1 m s.1 s.2.1 s.2.2) n ((isub .i64 (l3.length : Int) 1), l3, l2) = some r := by rw [hkont1]; exact hm
 refine a5j (id := 2) (fun m (s : Int × List Int × List Int) => a8h n v6 kont1 m s.1 s.2.1 s.2.2) (fun (y : List Int × List Int) => kont1 y.1 y.2) r (fun (s : Int × List Int × List Int) a w' => ∃ (Z : Frz) (u : Option Addr) (o : Nat) (g : Nat) (xss10 : List Value) (x : Option Addr) (t : Nat) (z : Nat) (xss11 : List Value), Frz.le h5 Z ∧ HS F w [] Z [.row 3 1 u o g xss10, .row 3 1 x t z xss11] w' ∧ (RowN (Rp.int .i64) Z o xss10 s.2.1) ∧ (RowN (Rp.int .i64) Z t xss11 s.2.2) ∧ Has 170 a [(8, .int .i64 shift2), (9, .slice x t z), (10, .slice T U L), (11, .int .i64 (v6.length : Int)), (12, .slice u o g), (13, .int .i64 s.1)]) (fun (y : List Int × List Int) a w' => ∃ (g0 : Frz) (g1 : Option Addr) (g9 : Nat) (g2 : Nat) (xss12 : List Value) (ge : Option Addr) (ga : Nat) (gf : Nat) (xss13 : List Value), Frz.le h5 g0 ∧ HS F w [] g0 [.row 3 1 g1 g9 g2 xss12, .row 3 1 ge ga gf xss13] w' ∧ (RowN (Rp.int .i64) g0 g9 xss12 y.1) ∧ (RowN (Rp.int .i64) g0 ga xss13 y.2) ∧ Has 170 a [(8, .int .i64 shift2), (9, .slice ge ga gf), (12, .slice g1 g9 g2)]) (fun _ => Y) ?_ ?_ hm ⟨_, (some ⟨b7, 0, none⟩), ((isub .i64 (l2.length : Int) (v6.length : Int)).toNat), ((isub .i64 (l2.length : Int) (v6.length : Int)).toNat), xs1, gw, gd, g8, xss9, Yf, j4.Yp [0, 2] Y Y, (ir.mono h6), (iq.mono h6), hu.cut (l := [8, 9, 10, 11, 12, 13]) Y⟩
 clear hm; rintro ⟨l6, l7⟩ a m1 hm ⟨g0, g1, g9, g2, xss12, ge, ga, gf, xss13, m2, h7, h8, h9, j5⟩
 rw [hkont1] at hm
 replace hm := hm
 refine a2c (e := .exit 2) j5 (a1m (a0c (a0g (a0a (a0d Y Y Y ?_)))))
 obtain ⟨v7, ku, hm⟩ := Yb hm
 refine b3v ent118 Y Y Y Y (a7n _ _ _ ku (b1a _) (h7.viewRow (p := 1) Y Y h9)) ?_
 intro m3 hles14 hvs14
 obtain ⟨j6, it⟩ := h7.cutN (p := 1) Y h9 hles14
 rw [← hvs14] at it
 refine a0d Y Y Y ?_
 obtain ⟨m4, hb, hc, hsx5⟩ := a1g j6 (i := 1) Y it
 obtain ⟨v8, kv, hm⟩ := Yb hm
 refine a0i ent124 Y Y Y Y hc (b7r _ _ _ _ kv hc.sat hsx5) ?_
 rintro _ m5 _ m6 hd he ⟨hf, hg, hh, xss15, rfl, rfl, j7⟩
 refine a0d Y Y Y (a0l Y Y Y Y (a0l Y Y Y Y (a0b Y Y Y (a0b Y Y Y (a0e (a0c (a0g (a0a (a0d Y Y Y ?_)))))))))
 obtain ⟨v9, kw, hm⟩ := Yb hm
 refine b3v ent118 Y Y Y Y (a7n _ _ _ kw (b1a _) (he.viewRow (p := 1) Y Y ((h8.mono hb).mono hd))) ?_
 intro hi hles16 hvs16
 obtain ⟨j8, iu⟩ := he.cutN (p := 1) Y ((h8.mono hb).mono hd) hles16
 rw [← hvs16] at iu
 refine a0d Y Y Y (a0b Y Y Y (a0b Y Y Y (a0e (a0c (a1c ?_)))))
 obtain ⟨m7, j9, ja, hsx6⟩ := a1g j8 (i := 1) Y iu
 refine a1q (vl := [.slice g1 hi g2, .slice hf hg hh]) Y ⟨a1p Y, a1p Y, trivial⟩ (by simp) ?_
 obtain rfl := Yo hm
 exact ⟨_, _, _, Y, ja.Yp [0] Y Y, g1, hi, g2, hf, hg, hh, xss15, Y, Y, hsx6, (j7.mono j9)⟩
 clear hm hkont1; intro hk1 mx1 K ihx1
 rintro ⟨i1, l4, l5⟩ a m8 hm ⟨Z, u, o, g, xss10, x, t, z, xss11, J, gb, gg, M, jb⟩
 simp only [b3x] at hm
 refine a1l jb (a0g (a0g (a0a (a0d Y Y Y (a0u Y Y Y Y Y (a0e (a0c ?_)))))))
 rcases a0h hm with ⟨hj, hm⟩ | ⟨hj, hm⟩
 refine a0r 80 Y hj (a0x Y (a1b (a0c (a0g (a1j (a0g (a3n (by kernel_rfl) (by kernel_rfl) gb (a1e Y Y Y Y (fun _ _ _ _ => a0d Y Y Y Yn) (a1e Y Y Y Y (fun _ _ _ _ => a0d Y Y Y Yn) (a1e Y Y Y Y (fun _ _ _ _ => a0d Y Y Y Yn) (a1e Y Y Y Y (fun _ _ _ _ => a0u Y Y Y Y Y Yn) ?_)))))))))))
 obtain ⟨ex2, kx, hm⟩ := Yb hm
 obtain ⟨b8, o2, g5, jc, ho1, ky, hp1, hv⟩ := a7c (P := Tryz.prog) (r := (Rp.int .i64)) u28 sz3 gb (p := 1) Y Y M kx
 have kz : g5 = [.int .i64 ex2] := ky
 subst kz
 refine a2s Y Y Y Y hv (a1e Y Y Y Y (fun _ _ _ hq => a4q (j := 0) ag3 Y Y hq Y (p := 1) Y Y jc ho1 hp1 Y Yn) ?_)
 obtain ⟨q1, hq1, hm⟩ := Yb hm
 refine a1e Y Y Y Y (fun _ _ _ _ => d2o Y Y Y Y hq1 Yn) (a1e Y Y Y Y (fun _ _ _ _ => a0d Y Y Y Yn) (a1e Y Y Y Y (fun _ _ _ _ => a0d Y Y Y Yn) (a1e Y Y Y Y (fun _ _ _ _ => a0d Y Y Y Yn) (a1e Y Y Y Y (fun _ _ _ _ => a0u Y Y Y Y Y Yn) (a1e Y Y Y Y (fun _ _ _ _ => a0u Y Y Y Y Y Yn) ?_)))))
 obtain ⟨ex3, l0, hm⟩ := Yb hm
 obtain ⟨b9, o3, gt, jd, ho2, la, hp2, hw⟩ := a7c (P := Tryz.prog) (r := (Rp.int .i64)) u28 sz3 gb (p := 1) Y Y M l0
 have lb : gt = [.int .i64 ex3] := la
 subst lb
 refine a2s Y Y Y Y hw (a1e Y Y Y Y (fun _ _ _ hq => a4q (j := 0) ag3 Y Y hq Y (p := 1) Y Y jd ho2 hp2 Y Yn) (a1e Y Y Y Y (fun _ _ _ _ => a0u Y Y Y Y Y Yn) (a1e Y Y Y Y (fun _ _ _ _ => a0b Y Y Y Yn) (b0z ?_))))
 rintro m9 ⟨ma, G, je⟩
 refine a0c (a0g (a3n (by kernel_rfl) (by kernel_rfl) je (a1e Y Y Y Y (fun _ _ _ _ => a0d Y Y Y Yn) (a1e Y Y Y Y (fun _ _ _ _ => a0d Y Y Y Yn) (a1e Y Y Y Y (fun _ _ _ _ => a0d Y Y Y Yn) (a1e Y Y Y Y (fun _ _ _ _ => a0u Y Y Y Y Y Yn) ?_))))))
 obtain ⟨ex4, lc, hm⟩ := Yb hm
 obtain ⟨b10, o4, gu, ld, lf, hx⟩ := a2k (P := Tryz.prog) (r := (Rp.int .i64)) u28 sz3 ((hsx4.mono J).mono G) lc
 have lg : gu = [.int .i64 ex4] := lf
 subst lg
 refine a2s Y Y Y Y hx (a1e Y Y Y Y (fun _ _ hleq hq => a2j (j := 0) ag3 Y Y hq (ld.mono hleq) Y Y Yn) ?_)
 obtain ⟨q2, hq2, hm⟩ := Yb hm
 refine a1e Y Y Y Y (fun _ _ _ _ => c7r Y Y Y Y hq2 Yn) (a1e Y Y Y Y (fun _ _ _ _ => a0d Y Y Y Yn) (a1e Y Y Y Y (fun _ _ _ _ => a0d Y Y Y Yn) (a1e Y Y Y Y (fun _ _ _ _ => a0d Y Y Y Yn) (a1e Y Y Y Y (fun _ _ _ _ => a0u Y Y Y Y Y Yn) ?_))))
 obtain ⟨ex5, lh, hm⟩ := Yb hm
 obtain ⟨b11, o5, li, lj, jf, hy⟩ := a2k (P := Tryz.prog) (r := (Rp.int .i64)) u28 sz3 ((hsx4.mono J).mono G) lh
 have lk : li = [.int .i64 ex5] := jf
 subst lk
 refine a2s Y Y Y Y hy (a1e Y Y Y Y (fun _ _ hleq hq => a2j (j := 0) ag3 Y Y hq (lj.mono hleq) Y Y Yn) ?_)
 obtain ⟨q3, hq3, hm⟩ := Yb hm
 refine a1e Y Y Y Y (fun _ _ _ _ => c8b Y Y Y Y hq3 Yn) (a1e Y Y Y Y (fun _ _ _ _ => a0b Y Y Y Yn) (a1e Y Y Y Y (fun _ _ _ _ => a0b Y Y Y Yn) (b0z ?_)))
 rintro mb ⟨hk, H, jg⟩
 refine a0c (a0g (a1j ?_))
 intro a hz
 obtain ⟨kont2, hkont2⟩ : ∃ kont2 : Int → Option ((List Int) × (List Int)), kont2 = (fun (guess2 : Int) => (lsl l5 i1 (iadd .i64 (iadd .i64 i1 (v6.length : Int)) 1)).bind fun l8 => (a9g n l8 v6 guess2).bind fun v10 => (ix l4 i1).bind fun ex6 => (lset l4 i1 v10.2).bind fun l9 => a8h n v6 kont1 mx1 (isub .i64 i1 1) l9 (lput l5 i1 v10.1 (iadd .i64 (iadd .i64 i1 (v6.length : Int)) 1))) := ⟨_, Y⟩
 replace hm : (fun m (s : Int × Int) => a9a n v6 i1 l5 kont2 m s.1 s.2) n (q2, q3) = some r := by rw [hkont2]; exact hm
 refine a5j (id := 4) (fun m (s : Int × Int) => a9a n v6 i1 l5 kont2 m s.1 s.2) (fun (y : Int) => kont2 y) r (fun (s : Int × Int) a w' => ∃ (gh : Frz), Frz.le hk gh ∧ HS F w [] gh [.row 3 1 u o g xss10, .row 3 1 x t z xss11] w' ∧ Has 170 a [(8, .int .i64 shift2), (9, .slice x t z), (10, .slice T U L), (11, .int .i64 (v6.length : Int)), (12, .slice u o g), (13, .int .i64 i1), (15, .int .i64 s.1), (16, .int .i64 s.2)]) (fun (y : Int) a w' => ∃ (gi : Frz), Frz.le hk gi ∧ HS F w [] gi [.row 3 1 u o g xss10, .row 3 1 x t z xss11] w' ∧ Has 170 a [(8, .int .i64 shift2), (9, .slice x t z), (10, .slice T U L), (11, .int .i64 (v6.length : Int)), (12, .slice u o g), (13, .int .i64 i1), (15, .int .i64 y)]) (fun _ => Y) ?_ ?_ hm ⟨_, Yf, jg.Yp [0, 1] Y Y, hz.cut (l := [8, 9, 10, 11, 12, 13, 15, 16]) Y⟩
 clear hm; rintro guess2 a mc hm ⟨gi, N, gj, jh⟩
 rw [hkont2] at hm
 replace hm := hm
 refine a2c (e := .exit 4) jh (a1m (a0c (a0a (a0d Y Y Y (a0d Y Y Y (a0d Y Y Y (a0d Y Y Y (a0d Y Y Y (a0d Y Y Y (a0u Y Y Y Y Y (a0u Y Y Y Y Y ?_)))))))))))
 obtain ⟨l8, iv, hm⟩ := Yb hm
 refine d2r u28 (r := (Rp.int .i64)) sz3 Y Y gj Y Y Y (p := 1) Y Y (((M.mono G).mono H).mono N) iv ?_
 intro md me mf ji
 refine a0d Y Y Y (a0d Y Y Y ?_)
 have ll := ((J.trans G).trans H).trans N
 obtain ⟨v10, jj, hm⟩ := Yb hm
 refine d4o (r := (Rp.int .i64)) ent125 Y Y Y Y gj (p := 1) Y Y (((M.mono G).mono H).mono N) ji (fun pre1 mid1 post1 hw1 hwf1 hwr1 => c2d _ _ _ _ _ jj gj.sat hw1 hwf1 (by rw [show l8 = _ from (b4x iv).2.2.2]; exact hwr1) (hsx4.mono ll)) ?_
 rintro _ mg _ _ mh xs2 gk hl hxx1 ⟨rfl, rfl, jk⟩
 obtain ⟨ex6, lm, hm⟩ := Yb hm
 refine a4y (r := (Rp.int .i64)) u28 sz3 Y Y hl Y Y (p := 0) Y Y ((((gg.mono G).mono H).mono N).mono gk) lm ?_
 intro b12 o6 il jl ho3 jm hp3
 have ln : il = [.int .i64 ex6] := jm
 subst ln
 obtain ⟨l9, lo, hm⟩ := Yb hm
 refine a7m (r := (Rp.int .i64)) sz3 Y hl Y Y Y Y Y (p := 0) Y Y jl ho3 ((((gg.mono G).mono H).mono N).mono gk) Y Y lo ?_
 intro mi xs3 jn jo
 refine a0e (a1o (a0c (a0a (a0d Y Y Y (a0u Y Y Y Y Y (a0b Y Y Y (a0e (a0k (fun a ha => ihx1 ((isub .i64 i1 1), l9, (lput l5 i1 v10.1 (iadd .i64 (iadd .i64 i1 (v6.length : Int)) 1))) a _ hm ?_)))))))))
 exact ⟨_, u, o, g, xs3, x, t, z, xs2, ((((J.trans G).trans H).trans N).trans gk), jn.Yp [0, 1] Y Y, jo, ((hxx1 _ jk)), ha.cut (l := [8, 9, 10, 11, 12, 13]) Y⟩
 clear hm hkont2; intro hk2 mx2 K ihx2
 rintro ⟨guess1, rest1⟩ a mj hm ⟨gh, g3, hn, jp⟩
 simp only [b1v] at hm
 refine a1l jp (a0g (a0g (a3n (by kernel_rfl) (by kernel_rfl) hn (a1e Y Y Y Y (fun _ _ _ _ => a0d Y Y Y Yn) (a1e Y Y Y Y (fun _ _ _ _ => a0u Y Y Y Y Y Yn) (a1e Y Y Y Y (fun _ _ _ _ => a0d Y Y Y Yn) ?_))))))
 obtain ⟨v11, Q, hm⟩ := Yb hm
 refine c4x 23 (fun a => Has 170 a [(8, .int .i64 shift2), (9, .slice x t z), (10, .slice T U L), (11, .int .i64 (v6.length : Int)), (12, .slice u o g), (13, .int .i64 i1), (15, .int .i64 guess1), (16, .int .i64 rest1), (137, .bool v11)]) ?_ ?_
 intro a i0
 refine b3m i0 (b0z ?_)
 rintro mk ⟨ml, gl, gm⟩
 refine a0c ?_
 rcases a0h hm with ⟨ho, hm⟩ | ⟨ho, hm⟩
 refine a0r 137 Y ho (a0x Y (a1b (a0c (a1j (a0g (a0a (a0d Y Y Y (a0u Y Y Y Y Y (a0b Y Y Y (a0e (a0c (a0a (a0d Y Y Y (a0d Y Y Y (a0d Y Y Y (a0u Y Y Y Y Y ?_))))))))))))))))
 obtain ⟨ex7, lp, hm⟩ := Yb hm
 refine a2r (r := (Rp.int .i64)) u28 sz3 Y Y Y Y (((((hsx4.mono J).mono G).mono H).mono g3).mono gl) lp ?_
 intro b13 o7 h0 lq jq
 have lr : h0 = [.int .i64 ex7] := jq
 subst lr
 refine a2j (j := 0) ag3 Y Y gm lq Y Y (a0u Y Y Y Y Y (a0b Y Y Y (a0e (a1o (a0k (fun a ha => ihx2 ((isub .i64 guess1 1), (iadd .i64 rest1 ex7)) a _ hm ?_))))))
 exact ⟨_, (g3.trans gl), gm.Yp [0, 1] Y Y, ha.cut (l := [8, 9, 10, 11, 12, 13, 15, 16]) Y⟩
 refine a0r 137 Y ho (a0p Y (a3p (a0w (a0w (fun a ha => hk2 guess1 a _ hm ?_)))))
 exact ⟨_, (g3.trans gl), gm.Yp [0, 1] Y Y, ha.cut (l := [8, 9, 10, 11, 12, 13, 15]) Y⟩
 clear hm
 rcases a0h Q with ⟨hp, Q⟩ | ⟨hp, Q⟩
 refine b6i 114 Y hp (a3q Y Y Y (a3q Y Y Y (a3q Y Y Y (a3q Y Y Y (a3q Y Y Y (a3q Y Y Y (a3q Y Y Y (a3q Y Y Y (a3q Y Y Y (a3q Y Y Y (a3q Y Y Y (a3q Y Y Y (a3q Y Y Y (a3q Y Y Y (a3q Y Y Y (a3q Y Y Y (a3q Y Y Y (a3q Y Y Y (a3q Y Y Y (a3q Y Y Y (a3q Y Y Y (a3q Y Y Y (a1e Y Y Y Y (fun _ _ _ _ => a0s Y Y Y Y Yn) (b6a (fun a ha => ?_)))))))))))))))))))))))))
 cases Q
 exact ha.cut (l := [8, 9, 10, 11, 12, 13, 15, 16, 137]) Y
 refine b6i 114 Y hp (a1e Y Y Y Y (fun _ _ _ _ => a0d Y Y Y Yn) (a1e Y Y Y Y (fun _ _ _ _ => a0u Y Y Y Y Y Yn) (a1e Y Y Y Y (fun _ _ _ _ => a0d Y Y Y Yn) ?_)))
 obtain ⟨v12, I, Q⟩ := Yb Q
 refine c4x 19 (fun a => Has 170 a [(8, .int .i64 shift2), (9, .slice x t z), (10, .slice T U L), (11, .int .i64 (v6.length : Int)), (12, .slice u o g), (13, .int .i64 i1), (15, .int .i64 guess1), (16, .int .i64 rest1), (114, .bool false), (136, .bool v12)]) ?_ ?_
 intro a i2
 refine b3m i2 (a1e Y Y Y Y (fun _ _ _ _ => a0m Y Y Y Y Yn) (b6a (fun a ha => ?_)))
 cases Q
 exact ha.cut (l := [8, 9, 10, 11, 12, 13, 15, 16, 137]) Y
 clear Q
 rcases a0h I with ⟨hr, I⟩ | ⟨hr, I⟩
 refine b6i 117 Y hr (a1e Y Y Y Y (fun _ _ _ _ => a0d Y Y Y Yn) (a1e Y Y Y Y (fun _ _ _ _ => a0d Y Y Y Yn) (a1e Y Y Y Y (fun _ _ _ _ => a0d Y Y Y Yn) (a1e Y Y Y Y (fun _ _ _ _ => a0u Y Y Y Y Y Yn) ?_))))
 obtain ⟨ex8, ls, I⟩ := Yb I
 obtain ⟨b14, o8, L, lt, jr, i3⟩ := a2k (P := Tryz.prog) (r := (Rp.int .i64)) u28 sz3 ((((hsx4.mono J).mono G).mono H).mono g3) ls
 have lu : L = [.int .i64 ex8] := jr
 subst lu
 refine a2s Y Y Y Y i3 (a1e Y Y Y Y (fun _ _ hleq hq => a2j (j := 0) ag3 Y Y hq (lt.mono hleq) Y Y Yn) (a1e Y Y Y Y (fun _ _ _ _ => a0u Y Y Y Y Y Yn) (a1e Y Y Y Y (fun _ _ _ _ => a0d Y Y Y Yn) ?_)))
 obtain ⟨q4, hq4, I⟩ := Yb I
 refine a1e Y Y Y Y (fun _ _ _ _ => d2o Y Y Y Y hq4 Yn) (a1e Y Y Y Y (fun _ _ _ _ => a0d Y Y Y Yn) (a1e Y Y Y Y (fun _ _ _ _ => a0d Y Y Y Yn) (a1e Y Y Y Y (fun _ _ _ _ => a0d Y Y Y Yn) (a1e Y Y Y Y (fun _ _ _ _ => a0u Y Y Y Y Y Yn) (a1e Y Y Y Y (fun _ _ _ _ => a0u Y Y Y Y Y Yn) ?_)))))
 obtain ⟨ex9, lv, I⟩ := Yb I
 obtain ⟨b15, o9, g8, i4, ho4, js, hp4, i5⟩ := a7c (P := Tryz.prog) (r := (Rp.int .i64)) u28 sz3 hn (p := 1) Y Y (((M.mono G).mono H).mono g3) lv
 have jt : g8 = [.int .i64 ex9] := js
 subst jt
 refine a2s Y Y Y Y i5 (a1e Y Y Y Y (fun _ _ _ hq => a4q (j := 0) ag3 Y Y hq Y (p := 1) Y Y i4 ho4 hp4 Y Yn) (a1e Y Y Y Y (fun _ _ _ _ => a0u Y Y Y Y Y Yn) (a1e Y Y Y Y (fun _ _ _ _ => a0u Y Y Y Y Y Yn) (a1e Y Y Y Y (fun _ _ _ _ => a0s Y Y Y Y Yn) (b6a (fun a ha => ?_))))))
 cases I
 exact ha.cut (l := [8, 9, 10, 11, 12, 13, 15, 16, 114, 136]) Y
 refine b6i 117 Y hr (a3q Y Y Y (a3q Y Y Y (a3q Y Y Y (a3q Y Y Y (a3q Y Y Y (a3q Y Y Y (a3q Y Y Y (a3q Y Y Y (a3q Y Y Y (a3q Y Y Y (a3q Y Y Y (a3q Y Y Y (a3q Y Y Y (a3q Y Y Y (a3q Y Y Y (a3q Y Y Y (a3q Y Y Y (a3q Y Y Y (a1e Y Y Y Y (fun _ _ _ _ => a0m Y Y Y Y Yn) (b6a (fun a ha => ?_)))))))))))))))))))))
 cases I
 exact ha.cut (l := [8, 9, 10, 11, 12, 13, 15, 16, 114, 136]) Y
 refine a0r 80 Y hj (a0p Y (a3p (a0w (a0w (fun a ha => hk1 (l4, l5) a _ hm ?_)))))
 exact ⟨_, u, o, g, xss10, x, t, z, xss11, J, gb.Yp [0, 1] Y Y, gg, M, ha.cut (l := [8, 9, 12]) Y⟩
 clear hm
 rcases a0h V with ⟨gn, V⟩ | ⟨gn, V⟩
 refine a0r 65 Y gn (a0x Y (a0a (a0d Y Y Y (a1f (e := 3) (cs := [.int .i64 0]) (q := 1) Y Y h4 Y (fun _ => by kernel_rfl) Y Y ?_))))
 intro b16 mm ju
 obtain ⟨l10, jv, V⟩ := Yb V
 refine a4n (r := (Rp.int .i64)) ap28 Y Y ju Y Y (i := 3) (j := 0) Y Y ((h1.mono h2).mono io) ((show RowN (Rp.int .i64) im 1 [.int .i64 0] [0] from ⟨Y, ⟨_, _, Y, Y, (Y : RowR (Rp.int .i64) _ [] [])⟩⟩)) jv ?_
 intro jw jx mn jy jz
 refine a0b Y Y Y (a0e (a0k (fun a ha => ?_)))
 cases V
 exact ⟨_, jw, ((ik + 1) + 1), jx, ((xss6 ++ [.int .i64 0]) ++ [.int .i64 0]), Yf, jy.Yp [1, 2, 3] Y Y, jz, ha.cut (l := [8, 9, 10]) Y⟩
 refine a0r 65 Y gn (a0p Y (a1b (a0k (fun a ha => ?_))))
 cases V
 exact ⟨_, kp, (ik + 1), h0, (xss6 ++ [.int .i64 0]), Yf, h4.Yp [0, 1, 2] Y Y, ((h1.mono h2).mono io), ha.cut (l := [8, 9, 10]) Y⟩
 clear hm hkont3; intro hk3 mx3 K ihx3
 rintro shift1 a mo hm ⟨rfl, i6⟩
 simp only [b2c] at hm
 refine a1l i6 (a0g (a0g (a0a (a0d Y Y Y (a0d Y Y Y (a1y g6.len u28 Y Y Y (a0u Y Y Y Y Y ?_)))))))
 obtain ⟨ex10, k0, hm⟩ := Yb hm
 refine a2r (r := (Rp.int .i64)) u28 sz3 Y Y Y Y (g6.mono g7) k0 ?_
 intro b17 o10 g lw k1
 have k2 : g = [.int .i64 ex10] := k1
 subst k2
 refine a2j (j := 0) ag3 Y Y R lw Y Y (a0d Y Y Y (a0u Y Y Y Y Y (a0u Y Y Y Y Y (a0e (a0c ?_)))))
 rcases a0h hm with ⟨go, hm⟩ | ⟨go, hm⟩
 refine a0r 48 Y go (a0x Y (a1b (a0c (a1j (a0a (a0d Y Y Y (a0u Y Y Y Y Y (a0b Y Y Y (a0e (a1o (a0k (fun a ha => ihx3 (imul .i64 shift1 2) a _ hm ?_))))))))))))
 exact ⟨Y, ha.cut (l := [0, 1, 8]) Y⟩
 refine a0r 48 Y go (a0p Y (a3p (a0w (a0w (fun a ha => hk3 shift1 a _ hm ?_)))))
 exact ⟨Y, ha.cut (l := [0, 1, 8]) Y⟩
def a4t (_n : Nat) (right1 : Bool) (c1 : Big) : Option (Big × Int) :=
 bif !right1 then
  some ((⟨0, []⟩ : Big), 1)
 else
  some (c1, 0)
theorem a5f (n : Nat) (right1 : Bool) (c1 : Big) (r : (Big × Int)) (hm : a4t n right1 c1 = some r) {w : World} {F : Frz} (hs : Sat F w) {g : Option Addr} {j : Nat} {k : Nat} (q : SlR (Rp.int .i64) F g j k c1.Digits) :
  Calls Tryz.prog 103 #[.bool right1, .agg #[.int .i64 c1.Sign, .slice g j k]] w fun e w' => ∃ v F' O', e = .returned v ∧ HS F w [] F' O' w' ∧ (∃ (a0_1 : Option Addr) (n0_1 : Nat) (c0_1 : Nat), v = .tuple #[.agg #[.int .i64 r.1.Sign, .slice a0_1 n0_1 c0_1], .int .i64 r.2] ∧ O' = [] ∧ SlR (Rp.int .i64) F' a0_1 n0_1 c0_1 r.1.Digits) := by
 unfold a4t at hm
 have h := HS.init hs
 refine a1a 10 Tryz.func103 Y Y Y (a0g (a0a (a2z Y Y Y Y h ?_)))
 intro b1 t s
 refine a1h ze35 Y Y Y s ?_
 intro b2 u l
 refine a0b Y Y Y (a0e (a0c (a0g (a0g (a0a (a0d Y Y Y (a4c Y Y Y (a0e (a0c ?_)))))))))
 rcases a0h hm with ⟨m, hm⟩ | ⟨m, hm⟩
 refine a0r 7 Y m (a0x Y (a0g (a0a (a1r (v := .agg #[.int .i64 0, .slice none 0 0]) Y Y Y (fun _ => by kernel_rfl) (a0o sz35 Y l Y Y Y Y (i := 0) Y Y Y Y ?_)))))
 intro x o
 refine a0b Y Y Y (a0e (a0c (a1c (a0j (a1q (vl := [.agg #[.int .i64 0, .slice none 0 0], .int .i64 1]) Y ⟨a2h ag35 sz35 Y o Y (i := 0) Y, a1p Y, trivial⟩ (by simp) ?_)))))
 obtain rfl := Yo hm
 exact ⟨_, _, _, Y, o.Yp [] Y Y, none, 0, 0, Y, Y, SlR.nil _ _⟩
 refine a0r 7 Y m (a0p Y (a1b (a0c (a0g (a0a (a0q ag35 sz35 Y Y l Y (i := 1) Y Y (a0o sz35 Y l Y Y Y Y (i := 0) Y Y Y Y ?_)))))))
 intro y p
 refine a0b Y Y Y (a0e (a0c (a1c (a1q (vl := [.agg #[.int .i64 c1.Sign, .slice g j k], .int .i64 0]) Y ⟨a2h ag35 sz35 Y p Y (i := 0) Y, a1p Y, trivial⟩ (by simp) ?_))))
 obtain rfl := Yo hm
 exact ⟨_, _, _, Y, p.Yp [] Y Y, g, j, k, Y, Y, q⟩
def a8d (n : Nat) (vals1 : (List Int)) (kont1 : Option Int) : Nat → Int → Option Int
 | 0, _ => none
 | mx1 + 1, i1 =>
  bif decide (i1 < (vals1.length : Int)) then
   (ix vals1 i1).bind fun ex1 =>
   bif ex1 != 0 then
    some ex1
   else
    a8d n vals1 kont1 mx1 (iadd .i64 i1 1)
  else
   kont1
theorem a9k (n : Nat) (vals1 : (List Int)) (kont1 : Option Int) (mx1 : Nat) (i1 : Int) : a8d n vals1 kont1 (mx1 + 1) i1 =
  bif decide (i1 < (vals1.length : Int)) then
   (ix vals1 i1).bind fun ex1 =>
   bif ex1 != 0 then
    some ex1
   else
    a8d n vals1 kont1 mx1 (iadd .i64 i1 1)
  else
   kont1 := rfl
def b2o (n : Nat) (vals1 : (List Int)) : Option Int :=
 a8d n vals1 (
  some 0) n 0
theorem c2a (n : Nat) (vals1 : (List Int)) (r : Int) (hm : b2o n vals1 = some r) {w : World} {F : Frz} (hs : Sat F w) {i : Option Addr} {k : Nat} {g : Nat} (q : SlR (Rp.int .i64) F i k g vals1) :
  Calls Tryz.prog 126 #[.slice i k g] w fun e w' => e = .returned (.int .i64 r) ∧ w' = w := by
 unfold b2o at hm
 have h := HS.init hs
 refine a1a 18 Tryz.func126 Y Y Y (a0g (a0a (a0b Y Y Y (a0e (a0c (a0g (a0a (a0b Y Y Y (a0e (a0c (a0g (a0g (a0a (a0d Y Y Y (a1y q.len u28 Y Y Y (a0d Y Y Y (a0e (a0c (a1j ?_)))))))))))))))))))
 intro a t
 obtain ⟨kont1, hkont1⟩ : ∃ kont1 : Option Int, kont1 = ( some 0) := ⟨_, Y⟩
 replace hm : (fun m (s : Int) => a8d n vals1 kont1 m s) n 0 = some r := by rw [hkont1]; exact hm
 refine a5j (id := 0) (fun m (s : Int) => a8d n vals1 kont1 m s) (fun (y : Unit) => kont1) r (fun (s : Int) a w' => w = w' ∧ Has 18 a [(3, .int .i64 0), (6, .slice i k g), (7, .int .i64 (vals1.length : Int)), (8, .int .i64 s)]) (fun (y : Unit) a w' => w = w' ∧ Has 18 a [(3, .int .i64 0)]) (fun _ => Y) ?_ ?_ hm ⟨Y, t.cut (l := [3, 6, 7, 8]) Y⟩
 clear hm; rintro _u a I hm ⟨rfl, u⟩
 rw [hkont1] at hm
 refine a2c (e := .exit 0) u (a1m (a0c (a0g (a0a (a0d Y Y Y (a0b Y Y Y (a0e (a0c (a1c (a1n Y Y ?_))))))))))
 obtain rfl := Yo hm
 exact ⟨Y, Y⟩
 clear hm hkont1; intro hk1 mx1 K ihx1
 rintro i1 a J hm ⟨rfl, v⟩
 simp only [a9k] at hm
 refine a1l v (a0g (a0a (a0u Y Y Y Y Y (a0e (a0c (a0g ?_))))))
 rcases a0h hm with ⟨o, hm⟩ | ⟨o, hm⟩
 refine a0r 9 Y o (a0x Y (a1b (a0c (a0g (a1j (a0g (a0a ?_)))))))
 obtain ⟨ex1, x, hm⟩ := Yb hm
 refine a2r (r := (Rp.int .i64)) u28 sz3 Y Y Y Y q x ?_
 intro b1 o1 g z G
 have H : g = [.int .i64 ex1] := G
 subst H
 refine a2j (j := 0) ag3 Y Y h z Y Y (a0b Y Y Y (a0e (a0c (a0g (a0a (a0d Y Y Y (a0d Y Y Y (a0u Y Y Y Y Y (a0e (a0c ?_))))))))))
 rcases a0h hm with ⟨p, hm⟩ | ⟨p, hm⟩
 refine a0r 14 Y p (a0x Y (a0g (a0a (a0d Y Y Y (a0b Y Y Y (a0e (a0c (a1c (a0t (a0j (a0j (a0t (a0j (a1n Y Y ?_))))))))))))))
 obtain rfl := Yo hm
 exact ⟨Y, Y⟩
 refine a0r 14 Y p (a0p Y (a1b (a1o (a0c (a0a (a0u Y Y Y Y Y (a0d Y Y Y (a0e (a0k (fun a ha => ihx1 (iadd .i64 i1 1) a _ hm ?_))))))))))
 exact ⟨Y, ha.cut (l := [3, 6, 7, 8]) Y⟩
 refine a0r 9 Y o (a0p Y (a3p (a0w (a0w (fun a ha => hk1 () a _ hm ?_)))))
 exact ⟨Y, ha.cut (l := [3]) Y⟩
theorem ent103 : Ent Tryz.prog 103 := fun _ _ => by kernel_rfl
theorem ent126 : Ent Tryz.prog 126 := fun _ _ => by kernel_rfl
theorem ent127 : Ent Tryz.prog 127 := fun _ _ => by kernel_rfl
theorem ent128 : Ent Tryz.prog 128 := fun _ _ => by kernel_rfl
def b9x (n : Nat) (ax1 : Big) (b1 : Big) : Option (Big × Int) :=
 (a3t n ax1).bind fun v1 =>
 (bif !v1 then
  some true
 else
  (a3t n b1).bind fun v15 =>
  some (!v15)).bind fun v2 =>
 bif v2 then
  (a4t n false (⟨0, []⟩ : Big)).bind fun v3 =>
  some (v3.1, v3.2)
 else
  bif decide (0 ≤ (imul .i64 ax1.Sign b1.Sign)) then
   (b2o n [ax1.Sign, b1.Sign]).bind fun v4 =>
   (b5t n ax1.Digits b1.Digits).bind fun v5 =>
   (a3o n v4 v5).bind fun v6 =>
   (a4t n true v6).bind fun v7 =>
   some (v7.1, v7.2)
  else
   (a7o n ax1.Digits b1.Digits).bind fun v8 =>
   bif decide (v8 < 0) then
    (b4k n b1.Digits ax1.Digits).bind fun v9 =>
    (a3o n b1.Sign v9).bind fun v10 =>
    (a4t n true v10).bind fun v11 =>
    some (v11.1, v11.2)
   else
    (b4k n ax1.Digits b1.Digits).bind fun v12 =>
    (a3o n ax1.Sign v12).bind fun v13 =>
    (a4t n true v13).bind fun v14 =>
    some (v14.1, v14.2)
theorem b4y (n : Nat) (ax1 : Big) (b1 : Big) (r : (Big × Int)) (hm : b9x n ax1 b1 = some r) {w : World} {F : Frz} (hs : Sat F w) {s t : Option Addr} {u x y z : Nat} (N : SlR (Rp.int .i64) F s u x ax1.Digits) (Q : SlR (Rp.int .i64) F t y z b1.Digits) :
  Calls Tryz.prog 106 #[.agg #[.int .i64 ax1.Sign, .slice s u x], .agg #[.int .i64 b1.Sign, .slice t y z]] w fun e w' => ∃ v F' O', e = .returned v ∧ HS F w [] F' O' w' ∧ (∃ (a0_1 : Option Addr) (n0_1 : Nat) (c0_1 : Nat), v = .tuple #[.agg #[.int .i64 r.1.Sign, .slice a0_1 n0_1 c0_1], .int .i64 r.2] ∧ O' = [] ∧ SlR (Rp.int .i64) F' a0_1 n0_1 c0_1 r.1.Digits) := by
 unfold b9x at hm
 have h := HS.init hs
 refine a1a 69 Tryz.func106 Y Y Y (a0g (a0a (a2z Y Y Y Y h ?_)))
 intro b2 j1 hh
 refine a2z Y Y Y Y hh ?_
 intro b3 j2 hi
 refine a1h ze35 Y Y Y hi ?_
 intro b4 j3 ga
 refine a0b Y Y Y (a0e (a0c (a0g (a0g (a0a (a0q ag35 sz35 Y Y ga Y (i := 2) Y Y ?_))))))
 obtain ⟨v1, hj, hm⟩ := Yb hm
 refine a0i ent74 Y Y Y Y ga (a3i _ _ _ hj ga.sat N) ?_
 rintro _ hk _ j4 g g6 ⟨rfl, rfl⟩
 refine a4c Y Y Y (a0d Y Y Y ?_)
 obtain ⟨v2, m, hm⟩ := Yb hm
 refine a2g 4 (fun a w' => ∃ (R : Frz), Frz.le hk R ∧ HS F w [] R [.box b4 35 [.int .i64 0, .slice none 0 0], .box b3 35 [.int .i64 b1.Sign, .slice t y z], .box b2 35 [.int .i64 ax1.Sign, .slice s u x]] w' ∧ Has 69 a [(2, .pointer (some ⟨b2, 0, none⟩)), (3, .pointer (some ⟨b3, 0, none⟩)), (4, .pointer (some ⟨b4, 0, none⟩)), (13, .bool v2)]) ?_ ?_
 rintro a j5 ⟨R, k, j, h5⟩
 refine a1d h5 (a0e (a0c ?_))
 rcases a0h hm with ⟨gb, hm⟩ | ⟨gb, hm⟩
 refine a0r 13 Y gb (a0x Y (a0g (a0a (a1r (v := .agg #[.int .i64 0, .slice none 0 0]) Y Y Y (fun _ => by kernel_rfl) ?_))))
 obtain ⟨v3, hl, hm⟩ := Yb hm
 refine a0i ent103 Y Y Y Y j (a5f _ _ _ _ hl j.sat (SlR.nil _ _)) ?_
 rintro _ j6 _ j7 j8 hn ⟨gt, gu, gv, rfl, rfl, ho⟩
 refine a0l Y Y Y Y (a0l Y Y Y Y (a0o sz35 Y hn Y Y Y Y (i := 0) Y Y Y Y ?_))
 intro j9 gw
 refine a0b Y Y Y (a0e (a0c (a1c (a0j (a1q (vl := [.agg #[.int .i64 v3.1.Sign, .slice gt gu gv], .int .i64 v3.2]) Y ⟨a2h ag35 sz35 Y gw Y (i := 0) Y, a1p Y, trivial⟩ (by simp) ?_)))))
 obtain rfl := Yo hm
 exact ⟨_, _, _, Y, gw.Yp [] Y Y, gt, gu, gv, Y, Y, ho⟩
 refine a0r 13 Y gb (a0p Y (a1b (a0c (a0g (a1j (a0g (a0a (a0f fa35_0 Y Y Y (a0n ag3 Y Y j Y (i := 2) Y Y (a0f fa35_0 Y Y Y (a0n ag3 Y Y j Y (i := 1) Y Y (a0u Y Y Y Y Y ?_))))))))))))
 refine a0u Y Y Y Y Y (a0b Y Y Y (a0e (a0c ?_)))
 rcases a0h hm with ⟨gc, hm⟩ | ⟨gc, hm⟩
 refine a0r 18 Y gc (a0x Y (a0g (a2f (SH R [.box b3 35 [.int .i64 b1.Sign, .slice t y z], .box b2 35 [.int .i64 ax1.Sign, .slice s u x]]) 17 Y (by kernel_rfl) j ?_)))
 intro ja gx
 have S0 := gx.Ys Yf [1, 2] Y Y
 refine d_tk 0 Y (by kernel_rfl) Y Y Y Y S0 (fun _ _ _ _ _ => a0f fa35_0 Y Y Y Yn) (d_tk 1 Y (by kernel_rfl) Y Y Y Y S0 (fun _ _ _ _ hq => a0n ag3 Y Y hq Y (i := 1) Y Y Yn) (d_tk 2 Y (by kernel_rfl) Y Y Y Y S0 (fun _ _ _ _ _ => a0f fa35_0 Y Y Y Yn) (d_tk 3 Y (by kernel_rfl) Y Y Y Y S0 (fun _ _ _ _ hq => a0n ag3 Y Y hq Y (i := 0) Y Y Yn) (d_tk 6 Y (by kernel_rfl) Y Y Y Y S0 (fun _ _ _ _ _ => a0f fa35_1 Y Y Y Yn) (d_tk 7 Y (by kernel_rfl) Y Y Y Y S0 (fun _ _ _ _ hq => a0n ag28 Y Y hq Y (i := 1) Y Y Yn) (d_tk 8 Y (by kernel_rfl) Y Y Y Y S0 (fun _ _ _ _ _ => a0f fa35_1 Y Y Y Yn) ?_))))))
 refine d_tk 9 Y (by kernel_rfl) Y Y Y Y S0 (fun _ _ _ _ hq => a0n ag28 Y Y hq Y (i := 0) Y Y Yn) (a0z 4 Y (by kernel_rfl) (a1f (e := 3) (cs := [.int .i64 ax1.Sign, .int .i64 b1.Sign]) (q := 1) Y Y gx Y (fun _ => by kernel_rfl) Y Y ?_))
 intro b5 jb T
 refine a0v (T.Ys Yf [2, 3] Y Y) (a0z 5 Y (by kernel_rfl) ?_)
 obtain ⟨v4, hp, hm⟩ := Yb hm
 refine a2t ent126 Y Y Y Y (c2a _ _ _ hp (b1a _) (T.viewRow (p := 0) Y Y ((show RowN (Rp.int .i64) R 2 [.int .i64 ax1.Sign, .int .i64 b1.Sign] [ax1.Sign, b1.Sign] from ⟨Y, ⟨_, _, Y, Y, ⟨_, _, Y, Y, (Y : RowR (Rp.int .i64) _ [] [])⟩⟩⟩)))) (a0v (T.Ys Yf [2, 3] Y Y) (a0z 10 Y (by kernel_rfl) ?_))
 obtain ⟨v5, hr, hm⟩ := Yb hm
 refine a0i ent127 Y Y Y Y T (c1s _ _ _ _ hr T.sat ((N.mono g).mono k) ((Q.mono g).mono k)) ?_
 rintro _ jc _ i4 U gd ⟨jd, je, jf, xss4, rfl, rfl, ht⟩
 refine a0v (gd.Ys U [3, 4] Y Y) (a0z 11 Y (by kernel_rfl) ?_)
 obtain ⟨jg, g7, ge, hsx1⟩ := a1g gd (i := 0) Y ht
 obtain ⟨v6, hu, hm⟩ := Yb hm
 refine a0i ent94 Y Y Y Y ge (a4f _ _ _ _ hu ge.sat hsx1) ?_
 rintro _ jh _ i5 g8 Z ⟨ji, jj, jk, rfl, rfl, hv⟩
 refine a0v (Z.Ys ((U.trans g7).trans g8) [2, 3] Y Y) (a0z 12 Y (by kernel_rfl) ?_)
 obtain ⟨v7, hw, hm⟩ := Yb hm
 refine a0i ent103 Y Y Y Y Z (a5f _ _ _ _ hw Z.sat hv) ?_
 rintro _ jl _ i6 gf gg ⟨gy, gz, h0, rfl, rfl, hx⟩
 have S1 := gg.Ys (((U.trans g7).trans g8).trans gf) [2, 3] Y Y
 refine a0v S1 (d_tk 13 Y (by kernel_rfl) Y Y Y Y S1 (fun _ _ _ _ _ => a0l Y Y Y Y Yn) (d_tk 14 Y (by kernel_rfl) Y Y Y Y S1 (fun _ _ _ _ _ => a0l Y Y Y Y Yn) (a0z 15 Y (by kernel_rfl) (a0o sz35 Y gg Y Y Y Y (i := 1) Y Y Y Y ?_))))
 intro i7 G
 refine a0v (G.Ys (((U.trans g7).trans g8).trans gf) [2, 3] Y Y) (d_tk 16 Y (by kernel_rfl) Y Y Y Y (G.Ys (((U.trans g7).trans g8).trans gf) [2, 3] Y Y) (fun _ _ _ _ _ => a0b Y Y Y Yn) (a2u (by kernel_rfl) (a0c (a1c (a0t (a0j (a1q (vl := [.agg #[.int .i64 v7.1.Sign, .slice gy gz h0], .int .i64 v7.2]) Y ⟨a2h ag35 sz35 Y G Y (i := 1) Y, a1p Y, trivial⟩ (by simp) ?_)))))))
 obtain rfl := Yo hm
 exact ⟨_, _, _, Y, G.Yp [] Y Y, gy, gz, h0, Y, Y, hx⟩
 refine a0r 18 Y gc (a0p Y (a0g (a0a (a0f fa35_1 Y Y Y (a0n ag28 Y Y j Y (i := 2) Y Y (a0f fa35_1 Y Y Y (a0n ag28 Y Y j Y (i := 1) Y Y ?_)))))))
 obtain ⟨v8, hy, hm⟩ := Yb hm
 refine a0i ent96 Y Y Y Y j (b2h _ _ _ _ hy j.sat ((N.mono g).mono k) ((Q.mono g).mono k)) ?_
 rintro _ h1 _ i8 g9 gh ⟨rfl, rfl⟩
 refine a0u Y Y Y Y Y (a0b Y Y Y (a0e (a0c ?_)))
 rcases a0h hm with ⟨gi, hm⟩ | ⟨gi, hm⟩
 refine a0r 40 Y gi (a0x Y (a0g (a2f (SH h1 [.box b3 35 [.int .i64 b1.Sign, .slice t y z], .box b2 35 [.int .i64 ax1.Sign, .slice s u x]]) 13 Y (by kernel_rfl) gh ?_)))
 intro i9 g0
 have S2 := g0.Ys Yf [1, 2] Y Y
 refine d_tk 0 Y (by kernel_rfl) Y Y Y Y S2 (fun _ _ _ _ _ => a0f fa35_0 Y Y Y Yn) (d_tk 1 Y (by kernel_rfl) Y Y Y Y S2 (fun _ _ _ _ hq => a0n ag3 Y Y hq Y (i := 0) Y Y Yn) (d_tk 2 Y (by kernel_rfl) Y Y Y Y S2 (fun _ _ _ _ _ => a0f fa35_1 Y Y Y Yn) (d_tk 3 Y (by kernel_rfl) Y Y Y Y S2 (fun _ _ _ _ hq => a0n ag28 Y Y hq Y (i := 0) Y Y Yn) (d_tk 4 Y (by kernel_rfl) Y Y Y Y S2 (fun _ _ _ _ _ => a0f fa35_1 Y Y Y Yn) (d_tk 5 Y (by kernel_rfl) Y Y Y Y S2 (fun _ _ _ _ hq => a0n ag28 Y Y hq Y (i := 1) Y Y Yn) (a0z 6 Y (by kernel_rfl) ?_))))))
 obtain ⟨v9, hz, hm⟩ := Yb hm
 refine a0i ent128 Y Y Y Y g0 (b7a _ _ _ _ hz g0.sat (((Q.mono g).mono k).mono g9) (((N.mono g).mono k).mono g9)) ?_
 rintro _ jm _ ia V gj ⟨jn, jo, jp, xss7, rfl, rfl, i0⟩
 refine a0v (gj.Ys V [2, 3] Y Y) (a0z 7 Y (by kernel_rfl) ?_)
 obtain ⟨ib, H, gk, hsx2⟩ := a1g gj (i := 0) Y i0
 obtain ⟨v10, i1, hm⟩ := Yb hm
 refine a0i ent94 Y Y Y Y gk (a4f _ _ _ _ i1 gk.sat hsx2) ?_
 rintro _ ic _ id I g1 ⟨jq, jr, js, rfl, rfl, i2⟩
 refine a0v (g1.Ys ((V.trans H).trans I) [1, 2] Y Y) (a0z 8 Y (by kernel_rfl) ?_)
 obtain ⟨v11, h6, hm⟩ := Yb hm
 refine a0i ent103 Y Y Y Y g1 (a5f _ _ _ _ h6 g1.sat i2) ?_
 rintro _ ie _ ig g2 gl ⟨h2, h3, h4, rfl, rfl, i3⟩
 have S3 := gl.Ys (((V.trans H).trans I).trans g2) [1, 2] Y Y
 refine a0v S3 (d_tk 9 Y (by kernel_rfl) Y Y Y Y S3 (fun _ _ _ _ _ => a0l Y Y Y Y Yn) (d_tk 10 Y (by kernel_rfl) Y Y Y Y S3 (fun _ _ _ _ _ => a0l Y Y Y Y Yn) (a0z 11 Y (by kernel_rfl) (a0o sz35 Y gl Y Y Y Y (i := 0) Y Y Y Y ?_))))
 intro ih J
 refine a0v (J.Ys (((V.trans H).trans I).trans g2) [1, 2] Y Y) (d_tk 12 Y (by kernel_rfl) Y Y Y Y (J.Ys (((V.trans H).trans I).trans g2) [1, 2] Y Y) (fun _ _ _ _ _ => a0b Y Y Y Yn) (a2u (by kernel_rfl) (a0c (a1c (a0t (a0j (a1q (vl := [.agg #[.int .i64 v11.1.Sign, .slice h2 h3 h4], .int .i64 v11.2]) Y ⟨a2h ag35 sz35 Y J Y (i := 0) Y, a1p Y, trivial⟩ (by simp) ?_)))))))
 obtain rfl := Yo hm
 exact ⟨_, _, _, Y, J.Yp [] Y Y, h2, h3, h4, Y, Y, i3⟩
 refine a0r 40 Y gi (a0p Y (a1b (a1o (a0c (a0g (a2f (SH h1 [.box b3 35 [.int .i64 b1.Sign, .slice t y z], .box b2 35 [.int .i64 ax1.Sign, .slice s u x]]) 13 Y (by kernel_rfl) gh ?_))))))
 intro ii g3
 have S4 := g3.Ys Yf [1, 2] Y Y
 refine d_tk 0 Y (by kernel_rfl) Y Y Y Y S4 (fun _ _ _ _ _ => a0f fa35_0 Y Y Y Yn) (d_tk 1 Y (by kernel_rfl) Y Y Y Y S4 (fun _ _ _ _ hq => a0n ag3 Y Y hq Y (i := 1) Y Y Yn) (d_tk 2 Y (by kernel_rfl) Y Y Y Y S4 (fun _ _ _ _ _ => a0f fa35_1 Y Y Y Yn) (d_tk 3 Y (by kernel_rfl) Y Y Y Y S4 (fun _ _ _ _ hq => a0n ag28 Y Y hq Y (i := 1) Y Y Yn) (d_tk 4 Y (by kernel_rfl) Y Y Y Y S4 (fun _ _ _ _ _ => a0f fa35_1 Y Y Y Yn) (d_tk 5 Y (by kernel_rfl) Y Y Y Y S4 (fun _ _ _ _ hq => a0n ag28 Y Y hq Y (i := 0) Y Y Yn) (a0z 6 Y (by kernel_rfl) ?_))))))
 obtain ⟨v12, h7, hm⟩ := Yb hm
 refine a0i ent128 Y Y Y Y g3 (b7a _ _ _ _ h7 g3.sat (((N.mono g).mono k).mono g9) (((Q.mono g).mono k).mono g9)) ?_
 rintro _ ij _ ik o gm ⟨il, im, io, xss10, rfl, rfl, h8⟩
 refine a0v (gm.Ys o [2, 3] Y Y) (a0z 7 Y (by kernel_rfl) ?_)
 obtain ⟨ip, K, gn, hsx3⟩ := a1g gm (i := 0) Y h8
 obtain ⟨v13, h9, hm⟩ := Yb hm
 refine a0i ent94 Y Y Y Y gn (a4f _ _ _ _ h9 gn.sat hsx3) ?_
 rintro _ iq _ ir L g4 ⟨it, iu, iv, rfl, rfl, hb⟩
 refine a0v (g4.Ys ((o.trans K).trans L) [1, 2] Y Y) (a0z 8 Y (by kernel_rfl) ?_)
 obtain ⟨v14, hc, hm⟩ := Yb hm
 refine a0i ent103 Y Y Y Y g4 (a5f _ _ _ _ hc g4.sat hb) ?_
 rintro _ iw _ ix g5 go ⟨gp, gq, gr, rfl, rfl, hd⟩
 have S5 := go.Ys (((o.trans K).trans L).trans g5) [1, 2] Y Y
 refine a0v S5 (d_tk 9 Y (by kernel_rfl) Y Y Y Y S5 (fun _ _ _ _ _ => a0l Y Y Y Y Yn) (d_tk 10 Y (by kernel_rfl) Y Y Y Y S5 (fun _ _ _ _ _ => a0l Y Y Y Y Yn) (a0z 11 Y (by kernel_rfl) (a0o sz35 Y go Y Y Y Y (i := 0) Y Y Y Y ?_))))
 intro iy M
 refine a0v (M.Ys (((o.trans K).trans L).trans g5) [1, 2] Y Y) (d_tk 12 Y (by kernel_rfl) Y Y Y Y (M.Ys (((o.trans K).trans L).trans g5) [1, 2] Y Y) (fun _ _ _ _ _ => a0b Y Y Y Yn) (a2u (by kernel_rfl) (a0c (a1c (a1q (vl := [.agg #[.int .i64 v14.1.Sign, .slice gp gq gr], .int .i64 v14.2]) Y ⟨a2h ag35 sz35 Y M Y (i := 0) Y, a1p Y, trivial⟩ (by simp) ?_)))))
 obtain rfl := Yo hm
 exact ⟨_, _, _, Y, M.Yp [] Y Y, gp, gq, gr, Y, Y, hd⟩
 clear hm
 rcases a0h m with ⟨gs, m⟩ | ⟨gs, m⟩
 refine a1k 9 Y gs (a0y Y (by decide) Y (a0y Y (by decide) Y (a0y Y (by decide) Y (a0s Y Y Y Y (a0e (a0k (fun a ha => ?_)))))))
 cases m
 exact ⟨_, Yf, g6.Yp [0, 1, 2] Y Y, ha.cut (l := [2, 3, 4, 13]) Y⟩
 refine a1k 9 Y gs (a0q ag35 sz35 Y Y g6 Y (i := 1) Y Y ?_)
 obtain ⟨v15, he, m⟩ := Yb m
 refine a0i ent74 Y Y Y Y g6 (a3i _ _ _ he g6.sat (Q.mono g)) ?_
 rintro _ iz _ j0 hf hg ⟨rfl, rfl⟩
 refine a4c Y Y Y (a0m Y Y Y Y (a0e (a0k (fun a ha => ?_))))
 cases m
 exact ⟨_, hf, hg.Yp [0, 1, 2] Y Y, ha.cut (l := [2, 3, 4, 13]) Y⟩
def b9g (n : Nat) (ax1 : Big) (b1 : Big) : Option (Big × Int) :=
 (a3t n ax1).bind fun v1 =>
 (bif !v1 then
  some true
 else
  (a3t n b1).bind fun v7 =>
  some (!v7)).bind fun v2 =>
 bif v2 then
  (a4t n false (⟨0, []⟩ : Big)).bind fun v3 =>
  some (v3.1, v3.2)
 else
  (b2l n ax1.Digits b1.Digits).bind fun v4 =>
  (a3o n (imul .i64 ax1.Sign b1.Sign) v4).bind fun v5 =>
  (a4t n true v5).bind fun v6 =>
  some (v6.1, v6.2)
theorem c7d (n : Nat) (ax1 : Big) (b1 : Big) (r : (Big × Int)) (hm : b9g n ax1 b1 = some r) {w : World} {F : Frz} (hs : Sat F w) {o p : Option Addr} {q s t u : Nat} (T : SlR (Rp.int .i64) F o q s ax1.Digits) (U : SlR (Rp.int .i64) F p t u b1.Digits) :
  Calls Tryz.prog 97 #[.agg #[.int .i64 ax1.Sign, .slice o q s], .agg #[.int .i64 b1.Sign, .slice p t u]] w fun e w' => ∃ v F' O', e = .returned v ∧ HS F w [] F' O' w' ∧ (∃ (a0_1 : Option Addr) (n0_1 : Nat) (c0_1 : Nat), v = .tuple #[.agg #[.int .i64 r.1.Sign, .slice a0_1 n0_1 c0_1], .int .i64 r.2] ∧ O' = [] ∧ SlR (Rp.int .i64) F' a0_1 n0_1 c0_1 r.1.Digits) := by
 unfold b9g at hm
 have h := HS.init hs
 refine a1a 32 Tryz.func97 Y Y Y (a0g (a0a (a2z Y Y Y Y h ?_)))
 intro b2 gs g9
 refine a2z Y Y Y Y g9 ?_
 intro b3 gt ga
 refine a1h ze35 Y Y Y ga ?_
 intro b4 gu H
 refine a0b Y Y Y (a0e (a0c (a0g (a0g (a0a (a0q ag35 sz35 Y Y H Y (i := 2) Y Y ?_))))))
 obtain ⟨v1, gb, hm⟩ := Yb hm
 refine a0i ent74 Y Y Y Y H (a3i _ _ _ gb H.sat T) ?_
 rintro _ gc _ gv I x ⟨rfl, rfl⟩
 refine a4c Y Y Y (a0d Y Y Y ?_)
 obtain ⟨v2, g, hm⟩ := Yb hm
 refine a2g 4 (fun a w' => ∃ (y : Frz), Frz.le gc y ∧ HS F w [] y [.box b4 35 [.int .i64 0, .slice none 0 0], .box b3 35 [.int .i64 b1.Sign, .slice p t u], .box b2 35 [.int .i64 ax1.Sign, .slice o q s]] w' ∧ Has 32 a [(2, .pointer (some ⟨b2, 0, none⟩)), (3, .pointer (some ⟨b3, 0, none⟩)), (4, .pointer (some ⟨b4, 0, none⟩)), (13, .bool v2)]) ?_ ?_
 rintro a gw ⟨y, V, J, g7⟩
 refine a1d g7 (a0e (a0c ?_))
 rcases a0h hm with ⟨K, hm⟩ | ⟨K, hm⟩
 refine a0r 13 Y K (a0x Y (a0g (a0a (a1r (v := .agg #[.int .i64 0, .slice none 0 0]) Y Y Y (fun _ => by kernel_rfl) ?_))))
 obtain ⟨v3, gd, hm⟩ := Yb hm
 refine a0i ent103 Y Y Y Y J (a5f _ _ _ _ gd J.sat (SlR.nil _ _)) ?_
 rintro _ gx _ gy gz ge ⟨Z, g0, g1, rfl, rfl, gf⟩
 refine a0l Y Y Y Y (a0l Y Y Y Y (a0o sz35 Y ge Y Y Y Y (i := 0) Y Y Y Y ?_))
 intro h0 g2
 refine a0b Y Y Y (a0e (a0c (a1c (a0j (a1q (vl := [.agg #[.int .i64 v3.1.Sign, .slice Z g0 g1], .int .i64 v3.2]) Y ⟨a2h ag35 sz35 Y g2 Y (i := 0) Y, a1p Y, trivial⟩ (by simp) ?_)))))
 obtain rfl := Yo hm
 exact ⟨_, _, _, Y, g2.Yp [] Y Y, Z, g0, g1, Y, Y, gf⟩
 refine a0r 13 Y K (a0p Y (a1b (a0c (a0g (a2f (SH y [.box b3 35 [.int .i64 b1.Sign, .slice p t u], .box b2 35 [.int .i64 ax1.Sign, .slice o q s]]) 16 Y (by kernel_rfl) J ?_)))))
 intro h1 L
 have S0 := L.Ys Yf [1, 2] Y Y
 refine d_tk 0 Y (by kernel_rfl) Y Y Y Y S0 (fun _ _ _ _ _ => a0f fa35_0 Y Y Y Yn) (d_tk 1 Y (by kernel_rfl) Y Y Y Y S0 (fun _ _ _ _ hq => a0n ag3 Y Y hq Y (i := 1) Y Y Yn) (d_tk 2 Y (by kernel_rfl) Y Y Y Y S0 (fun _ _ _ _ _ => a0f fa35_0 Y Y Y Yn) (d_tk 3 Y (by kernel_rfl) Y Y Y Y S0 (fun _ _ _ _ hq => a0n ag3 Y Y hq Y (i := 0) Y Y Yn) (d_tk 4 Y (by kernel_rfl) Y Y Y Y S0 (fun _ _ _ _ _ => a0u Y Y Y Y Y Yn) (d_tk 5 Y (by kernel_rfl) Y Y Y Y S0 (fun _ _ _ _ _ => a0f fa35_1 Y Y Y Yn) (d_tk 6 Y (by kernel_rfl) Y Y Y Y S0 (fun _ _ _ _ hq => a0n ag28 Y Y hq Y (i := 1) Y Y Yn) ?_))))))
 refine d_tk 7 Y (by kernel_rfl) Y Y Y Y S0 (fun _ _ _ _ _ => a0f fa35_1 Y Y Y Yn) (d_tk 8 Y (by kernel_rfl) Y Y Y Y S0 (fun _ _ _ _ hq => a0n ag28 Y Y hq Y (i := 0) Y Y Yn) (a0z 9 Y (by kernel_rfl) ?_))
 obtain ⟨v4, gg, hm⟩ := Yb hm
 refine a0i ent120 Y Y Y Y L (b6y _ _ _ _ gg L.sat ((T.mono I).mono V) ((U.mono I).mono V)) ?_
 rintro _ h2 _ h3 k g3 ⟨h4, h5, h6, xss4, rfl, rfl, gh⟩
 refine a0v (g3.Ys k [2, 3] Y Y) (a0z 10 Y (by kernel_rfl) ?_)
 obtain ⟨h7, z, M, hsx1⟩ := a1g g3 (i := 0) Y gh
 obtain ⟨v5, gi, hm⟩ := Yb hm
 refine a0i ent94 Y Y Y Y M (a4f _ _ _ _ gi M.sat hsx1) ?_
 rintro _ h8 _ go G m ⟨h9, hb, hc, rfl, rfl, gj⟩
 refine a0v (m.Ys ((k.trans z).trans G) [1, 2] Y Y) (a0z 11 Y (by kernel_rfl) ?_)
 obtain ⟨v6, gk, hm⟩ := Yb hm
 refine a0i ent103 Y Y Y Y m (a5f _ _ _ _ gk m.sat gj) ?_
 rintro _ hd _ gp N Q ⟨g4, g5, g6, rfl, rfl, gl⟩
 have S1 := Q.Ys (((k.trans z).trans G).trans N) [1, 2] Y Y
 refine a0v S1 (d_tk 12 Y (by kernel_rfl) Y Y Y Y S1 (fun _ _ _ _ _ => a0l Y Y Y Y Yn) (d_tk 13 Y (by kernel_rfl) Y Y Y Y S1 (fun _ _ _ _ _ => a0l Y Y Y Y Yn) (a0z 14 Y (by kernel_rfl) (a0o sz35 Y Q Y Y Y Y (i := 0) Y Y Y Y ?_))))
 intro gq j
 refine a0v (j.Ys (((k.trans z).trans G).trans N) [1, 2] Y Y) (d_tk 15 Y (by kernel_rfl) Y Y Y Y (j.Ys (((k.trans z).trans G).trans N) [1, 2] Y Y) (fun _ _ _ _ _ => a0b Y Y Y Yn) (a2u (by kernel_rfl) (a0c (a1c (a1q (vl := [.agg #[.int .i64 v6.1.Sign, .slice g4 g5 g6], .int .i64 v6.2]) Y ⟨a2h ag35 sz35 Y j Y (i := 0) Y, a1p Y, trivial⟩ (by simp) ?_)))))
 obtain rfl := Yo hm
 exact ⟨_, _, _, Y, j.Yp [] Y Y, g4, g5, g6, Y, Y, gl⟩
 clear hm
 rcases a0h g with ⟨R, g⟩ | ⟨R, g⟩
 refine a1k 9 Y R (a0y Y (by decide) Y (a0y Y (by decide) Y (a0y Y (by decide) Y (a0s Y Y Y Y (a0e (a0k (fun a ha => ?_)))))))
 cases g
 exact ⟨_, Yf, x.Yp [0, 1, 2] Y Y, ha.cut (l := [2, 3, 4, 13]) Y⟩
 refine a1k 9 Y R (a0q ag35 sz35 Y Y x Y (i := 1) Y Y ?_)
 obtain ⟨v7, gm, g⟩ := Yb g
 refine a0i ent74 Y Y Y Y x (a3i _ _ _ gm x.sat (U.mono I)) ?_
 rintro _ he _ gr gn g8 ⟨rfl, rfl⟩
 refine a4c Y Y Y (a0m Y Y Y Y (a0e (a0k (fun a ha => ?_))))
 cases g
 exact ⟨_, gn, g8.Yp [0, 1, 2] Y Y, ha.cut (l := [2, 3, 4, 13]) Y⟩
theorem ent104 : Ent Tryz.prog 104 := fun _ _ => by kernel_rfl
def b2k (n : Nat) (ax1 : Big) (b1 : Big) : Option (Big × Big × Int) :=
 (a3t n ax1).bind fun v1 =>
 (bif !v1 then
  some true
 else
  (a3t n b1).bind fun v11 =>
  some (!v11)).bind fun v2 =>
 bif v2 then
  some ((⟨0, []⟩ : Big), (⟨0, []⟩ : Big), 1)
 else
  bif b1.Sign == 0 then
   some ((⟨0, []⟩ : Big), (⟨0, []⟩ : Big), 14)
  else
   (b3y n ax1.Digits b1.Digits).bind fun v3 =>
   (bif decide ((imul .i64 ax1.Sign b1.Sign) < 0) then
    some (decide (0 < (v3.2.length : Int)))
   else
    some false).bind fun v4 =>
   bif v4 then
    (b5t n v3.1 [1]).bind fun v5 =>
    (a3o n (-1) v5).bind fun v6 =>
    (b4k n b1.Digits v3.2).bind fun v7 =>
    (a3o n b1.Sign v7).bind fun v8 =>
    some (v6, v8, 0)
   else
    (a3o n (imul .i64 ax1.Sign b1.Sign) v3.1).bind fun v9 =>
    (a3o n ax1.Sign v3.2).bind fun v10 =>
    some (v9, v10, 0)
theorem a9b (n : Nat) (ax1 : Big) (b1 : Big) (r : (Big × Big × Int)) (hm : b2k n ax1 b1 = some r) {w : World} {F : Frz} (hs : Sat F w) {K L : Option Addr} {M N Q R : Nat} (gv : SlR (Rp.int .i64) F K M N ax1.Digits) (g1 : SlR (Rp.int .i64) F L Q R b1.Digits) :
  Calls Tryz.prog 129 #[.agg #[.int .i64 ax1.Sign, .slice K M N], .agg #[.int .i64 b1.Sign, .slice L Q R]] w fun e w' => ∃ v F' O', e = .returned v ∧ HS F w [] F' O' w' ∧ (∃ (a0_1 : Option Addr) (n0_1 : Nat) (c0_1 : Nat) (a1_1 : Option Addr) (n1_1 : Nat) (c1_1 : Nat), v = .tuple #[.agg #[.int .i64 r.1.Sign, .slice a0_1 n0_1 c0_1], .agg #[.int .i64 r.2.1.Sign, .slice a1_1 n1_1 c1_1], .int .i64 r.2.2] ∧ O' = [] ∧ SlR (Rp.int .i64) F' a0_1 n0_1 c0_1 r.1.Digits ∧ SlR (Rp.int .i64) F' a1_1 n1_1 c1_1 r.2.1.Digits) := by
 unfold b2k at hm
 have h := HS.init hs
 refine a1a 67 Tryz.func129 Y Y Y (a0g (a0a (a2z Y Y Y Y h ?_)))
 intro b2 ix hd
 refine a2z Y Y Y Y hd ?_
 intro b3 iy he
 refine a1h ze35 Y Y Y he ?_
 intro b4 iz hf
 refine a1h ze35 Y Y Y hf ?_
 intro b5 j0 g2
 refine a0b Y Y Y (a0e (a0c (a0g (a1j (a0g (a0a (a0q ag35 sz35 Y Y g2 Y (i := 3) Y Y ?_)))))))
 obtain ⟨v1, hg, hm⟩ := Yb hm
 refine a0i ent74 Y Y Y Y g2 (a3i _ _ _ hg g2.sat gv) ?_
 rintro _ hh _ j1 Z g0 ⟨rfl, rfl⟩
 refine a4c Y Y Y (a0d Y Y Y ?_)
 obtain ⟨v2, p, hm⟩ := Yb hm
 refine a2g 4 (fun a w' => ∃ (g3 : Frz), Frz.le hh g3 ∧ HS F w [] g3 [.box b5 35 [.int .i64 0, .slice none 0 0], .box b4 35 [.int .i64 0, .slice none 0 0], .box b3 35 [.int .i64 b1.Sign, .slice L Q R], .box b2 35 [.int .i64 ax1.Sign, .slice K M N]] w' ∧ Has 67 a [(2, .pointer (some ⟨b2, 0, none⟩)), (3, .pointer (some ⟨b3, 0, none⟩)), (4, .pointer (some ⟨b4, 0, none⟩)), (5, .pointer (some ⟨b5, 0, none⟩)), (17, .bool v2)]) ?_ ?_
 rintro a j2 ⟨g3, g4, s, h6⟩
 refine a1d h6 (a0b Y Y Y (a0e (a0c ?_)))
 rcases a0h hm with ⟨g5, hm⟩ | ⟨g5, hm⟩
 refine a0r 9 Y g5 (a0x Y (a0g (a0a (a1r (v := .agg #[.int .i64 0, .slice none 0 0]) Y Y Y (fun _ => by kernel_rfl) (a1r (v := .agg #[.int .i64 0, .slice none 0 0]) Y Y Y (fun _ => by kernel_rfl) (a0o sz35 Y s Y Y Y Y (i := 1) Y Y Y Y ?_))))))
 intro j3 hi
 refine a0o sz35 Y hi Y Y Y Y (i := 0) Y Y Y Y ?_
 intro j4 g6
 refine a0b Y Y Y (a0e (a0c (a1c (a0t (a0j (a1q (vl := [.agg #[.int .i64 0, .slice none 0 0], .agg #[.int .i64 0, .slice none 0 0], .int .i64 1]) Y ⟨a2h ag35 sz35 Y g6 Y (i := 1) Y, a2h ag35 sz35 Y g6 Y (i := 0) Y, a1p Y, trivial⟩ (by simp) ?_))))))
 obtain rfl := Yo hm
 exact ⟨_, _, _, Y, g6.Yp [] Y Y, none, 0, 0, none, 0, 0, Y, Y, SlR.nil _ _, SlR.nil _ _⟩
 refine a0r 9 Y g5 (a0p Y (a0g (a0a (a0f fa35_0 Y Y Y (a0n ag3 Y Y s Y (i := 2) Y Y (a0u Y Y Y Y Y (a0b Y Y Y (a0e (a0c ?_)))))))))
 rcases a0h hm with ⟨g7, hm⟩ | ⟨g7, hm⟩
 refine a0r 20 Y g7 (a0x Y (a0g (a0a (a1r (v := .agg #[.int .i64 0, .slice none 0 0]) Y Y Y (fun _ => by kernel_rfl) (a1r (v := .agg #[.int .i64 0, .slice none 0 0]) Y Y Y (fun _ => by kernel_rfl) (a0o sz35 Y s Y Y Y Y (i := 1) Y Y Y Y ?_))))))
 intro j5 hj
 refine a0o sz35 Y hj Y Y Y Y (i := 0) Y Y Y Y ?_
 intro i8 U
 refine a0b Y Y Y (a0e (a0c (a1c (a0t (a0j (a1q (vl := [.agg #[.int .i64 0, .slice none 0 0], .agg #[.int .i64 0, .slice none 0 0], .int .i64 14]) Y ⟨a2h ag35 sz35 Y U Y (i := 1) Y, a2h ag35 sz35 Y U Y (i := 0) Y, a1p Y, trivial⟩ (by simp) ?_))))))
 obtain rfl := Yo hm
 exact ⟨_, _, _, Y, U.Yp [] Y Y, none, 0, 0, none, 0, 0, Y, Y, SlR.nil _ _, SlR.nil _ _⟩
 refine a0r 20 Y g7 (a0p Y (a1b (a1o (a0c (a0g (a0a (a0f fa35_1 Y Y Y (a0n ag28 Y Y s Y (i := 3) Y Y (a0f fa35_1 Y Y Y (a0n ag28 Y Y s Y (i := 2) Y Y ?_))))))))))
 obtain ⟨v3, hk, hm⟩ := Yb hm
 refine a0i ent104 Y Y Y Y s (c1g _ _ _ _ hk s.sat ((gv.mono Z).mono g4) ((g1.mono Z).mono g4)) ?_
 rintro _ g8 _ h7 hl J ⟨hn, ho, hp, hr, ht, hu, xss4, rfl, rfl, gw, g9⟩
 refine a0d Y Y Y (a0l Y Y Y Y (a0l Y Y Y Y (a0b Y Y Y (a0b Y Y Y (a0e (a0c (a0g (a0g (a0a (a0f fa35_0 Y Y Y (a0n ag3 Y Y J Y (i := 4) Y Y (a0f fa35_0 Y Y Y (a0n ag3 Y Y J Y (i := 3) Y Y (a0u Y Y Y Y Y (a0u Y Y Y Y Y ?_)))))))))))))))
 refine a0d Y Y Y ?_
 obtain ⟨v4, T, hm⟩ := Yb hm
 refine a2g 4 (fun a w' => h7 = w' ∧ Has 67 a [(2, .pointer (some ⟨b2, 0, none⟩)), (3, .pointer (some ⟨b3, 0, none⟩)), (4, .pointer (some ⟨b4, 0, none⟩)), (5, .pointer (some ⟨b5, 0, none⟩)), (7, .slice hn ho hp), (8, .slice hr ht hu), (44, .bool v4)]) ?_ ?_
 rintro a i9 ⟨rfl, h8⟩
 refine a1d h8 (a0e (a0c ?_))
 rcases a0h hm with ⟨ga, hm⟩ | ⟨ga, hm⟩
 refine a0r 44 Y ga (a0x Y (a0g (a2f (SH g8 [.box b3 35 [.int .i64 b1.Sign, .slice L Q R], .box b2 35 [.int .i64 ax1.Sign, .slice K M N]]) 14 Y (by kernel_rfl) J ?_)))
 intro ia gb
 have S0 := gb.Ys Yf [3, 4] Y Y
 refine d_tk 0 Y (by kernel_rfl) Y Y Y Y S0 (fun _ _ _ _ _ => a0d Y Y Y Yn) (d_tk 4 Y (by kernel_rfl) Y Y Y Y S0 (fun _ _ _ _ _ => a0f fa35_0 Y Y Y Yn) (d_tk 5 Y (by kernel_rfl) Y Y Y Y S0 (fun _ _ _ _ hq => a0n ag3 Y Y hq Y (i := 0) Y Y Yn) (d_tk 6 Y (by kernel_rfl) Y Y Y Y S0 (fun _ _ _ _ _ => a0f fa35_1 Y Y Y Yn) (d_tk 7 Y (by kernel_rfl) Y Y Y Y S0 (fun _ _ _ _ hq => a0n ag28 Y Y hq Y (i := 0) Y Y Yn) (d_tk 8 Y (by kernel_rfl) Y Y Y Y S0 (fun _ _ _ _ _ => a0d Y Y Y Yn) (a0z 1 Y (by kernel_rfl) ?_))))))
 refine a1f (e := 3) (cs := [.int .i64 1]) (q := 1) Y Y gb Y (fun _ => by kernel_rfl) Y Y ?_
 intro b6 ib gc
 refine a0v (gc.Ys Yf [4, 5] Y Y) (a0z 2 Y (by kernel_rfl) ?_)
 obtain ⟨j6, g, gd, hsx1⟩ := a1g gc (i := 0) Y ((show RowN (Rp.int .i64) g8 1 [.int .i64 1] [1] from ⟨Y, ⟨_, _, Y, Y, (Y : RowR (Rp.int .i64) _ [] [])⟩⟩))
 obtain ⟨v5, hv, hm⟩ := Yb hm
 refine a0i ent127 Y Y Y Y gd (c1s _ _ _ _ hv gd.sat (gw.mono g) hsx1) ?_
 rintro _ j7 _ ic j ge ⟨j8, j9, ja, xss5, rfl, rfl, hw⟩
 refine a0v (ge.Ys (g.trans j) [4, 5] Y Y) (a0z 3 Y (by kernel_rfl) ?_)
 obtain ⟨jb, m, gf, hsx2⟩ := a1g ge (i := 0) Y hw
 obtain ⟨v6, hx, hm⟩ := Yb hm
 refine a0i ent94 Y Y Y Y gf (a4f _ _ _ _ hx gf.sat hsx2) ?_
 rintro _ jc _ id o gg ⟨gx, gy, gz, rfl, rfl, hy⟩
 refine a0v (gg.Ys (((g.trans j).trans m).trans o) [3, 4] Y Y) (a0z 9 Y (by kernel_rfl) ?_)
 obtain ⟨jd, t, gh, hsx3⟩ := a1g gg (i := 0) Y ((((g9.mono g).mono j).mono m).mono o)
 have hz := ((((((Z.trans g4).trans hl).trans g).trans j).trans m).trans o).trans t
 obtain ⟨v7, i0, hm⟩ := Yb hm
 refine a0i ent128 Y Y Y Y gh (b7a _ _ _ _ i0 gh.sat (g1.mono hz) hsx3) ?_
 rintro _ je _ ie I gi ⟨jf, jg, jh, xss7, rfl, rfl, i1⟩
 refine a0v (gi.sh (((((g.trans j).trans m).trans o).trans t).trans I) [3, 4] (by decide) Y) (a0z 10 Y (by kernel_rfl) ?_)
 obtain ⟨ig, u, gj, hsx4⟩ := a1g gi (i := 0) Y i1
 obtain ⟨v8, i2, hm⟩ := Yb hm
 refine a0i ent94 Y Y Y Y gj (a4f _ _ _ _ i2 gj.sat hsx4) ?_
 rintro _ ih _ ii x gk ⟨h0, h1, h2, rfl, rfl, i3⟩
 refine a0v (gk.sh (((((((g.trans j).trans m).trans o).trans t).trans I).trans u).trans x) [2, 3] (by decide) Y) (a0z 11 Y (by kernel_rfl) (a0o sz35 Y gk Y Y Y Y (i := 1) Y Y Y Y ?_))
 intro ij gl
 refine a0v (gl.sh (((((((g.trans j).trans m).trans o).trans t).trans I).trans u).trans x) [2, 3] (by decide) Y) (a0z 12 Y (by kernel_rfl) (a0o sz35 Y gl Y Y Y Y (i := 0) Y Y Y Y ?_))
 intro ik y
 refine a0v (y.sh (((((((g.trans j).trans m).trans o).trans t).trans I).trans u).trans x) [2, 3] (by decide) Y) (d_tk 13 Y (by kernel_rfl) Y Y Y Y (y.sh (((((((g.trans j).trans m).trans o).trans t).trans I).trans u).trans x) [2, 3] (by decide) Y) (fun _ _ _ _ _ => a0b Y Y Y Yn) (a2u (by kernel_rfl) (a0c (a1c (a0j (a1q (vl := [.agg #[.int .i64 v6.Sign, .slice gx gy gz], .agg #[.int .i64 v8.Sign, .slice h0 h1 h2], .int .i64 0]) Y ⟨a2h ag35 sz35 Y y Y (i := 1) Y, a2h ag35 sz35 Y y Y (i := 0) Y, a1p Y, trivial⟩ (by simp) ?_))))))
 obtain rfl := Yo hm
 exact ⟨_, _, _, Y, y.Yp [] Y Y, gx, gy, gz, h0, h1, h2, Y, Y, ((((hy.mono t).mono I).mono u).mono x), i3⟩
 refine a0r 44 Y ga (a0p Y (a1b (a0c (a0g (a2f (SH g8 [.box b3 35 [.int .i64 b1.Sign, .slice L Q R], .box b2 35 [.int .i64 ax1.Sign, .slice K M N]]) 14 Y (by kernel_rfl) J ?_)))))
 intro il V
 have S1 := V.Ys Yf [3, 4] Y Y
 refine d_tk 0 Y (by kernel_rfl) Y Y Y Y S1 (fun _ _ _ _ _ => a0f fa35_0 Y Y Y Yn) (d_tk 1 Y (by kernel_rfl) Y Y Y Y S1 (fun _ _ _ _ hq => a0n ag3 Y Y hq Y (i := 1) Y Y Yn) (d_tk 2 Y (by kernel_rfl) Y Y Y Y S1 (fun _ _ _ _ _ => a0f fa35_0 Y Y Y Yn) (d_tk 3 Y (by kernel_rfl) Y Y Y Y S1 (fun _ _ _ _ hq => a0n ag3 Y Y hq Y (i := 0) Y Y Yn) (d_tk 4 Y (by kernel_rfl) Y Y Y Y S1 (fun _ _ _ _ _ => a0u Y Y Y Y Y Yn) (d_tk 5 Y (by kernel_rfl) Y Y Y Y S1 (fun _ _ _ _ _ => a0d Y Y Y Yn) (d_tk 7 Y (by kernel_rfl) Y Y Y Y S1 (fun _ _ _ _ _ => a0f fa35_0 Y Y Y Yn) ?_))))))
 refine d_tk 8 Y (by kernel_rfl) Y Y Y Y S1 (fun _ _ _ _ hq => a0n ag3 Y Y hq Y (i := 1) Y Y Yn) (d_tk 9 Y (by kernel_rfl) Y Y Y Y S1 (fun _ _ _ _ _ => a0d Y Y Y Yn) (a0z 6 Y (by kernel_rfl) ?_))
 obtain ⟨v9, i4, hm⟩ := Yb hm
 refine a0i ent94 Y Y Y Y V (a4f _ _ _ _ i4 V.sat gw) ?_
 rintro _ im _ io k gm ⟨h3, h4, h5, rfl, rfl, i5⟩
 refine a0v (gm.Ys k [3, 4] Y Y) (a0z 10 Y (by kernel_rfl) ?_)
 obtain ⟨ip, z, gn, hsx5⟩ := a1g gm (i := 0) Y (g9.mono k)
 obtain ⟨v10, i6, hm⟩ := Yb hm
 refine a0i ent94 Y Y Y Y gn (a4f _ _ _ _ i6 gn.sat hsx5) ?_
 rintro _ iq _ ir G go ⟨gp, gq, gr, rfl, rfl, h9⟩
 refine a0v (go.Ys ((k.trans z).trans G) [2, 3] Y Y) (a0z 11 Y (by kernel_rfl) (a0o sz35 Y go Y Y Y Y (i := 1) Y Y Y Y ?_))
 intro it gs
 refine a0v (gs.Ys ((k.trans z).trans G) [2, 3] Y Y) (a0z 12 Y (by kernel_rfl) (a0o sz35 Y gs Y Y Y Y (i := 0) Y Y Y Y ?_))
 intro iu H
 refine a0v (H.Ys ((k.trans z).trans G) [2, 3] Y Y) (d_tk 13 Y (by kernel_rfl) Y Y Y Y (H.Ys ((k.trans z).trans G) [2, 3] Y Y) (fun _ _ _ _ _ => a0b Y Y Y Yn) (a2u (by kernel_rfl) (a0c (a1c (a1q (vl := [.agg #[.int .i64 v9.Sign, .slice h3 h4 h5], .agg #[.int .i64 v10.Sign, .slice gp gq gr], .int .i64 0]) Y ⟨a2h ag35 sz35 Y H Y (i := 1) Y, a2h ag35 sz35 Y H Y (i := 0) Y, a1p Y, trivial⟩ (by simp) ?_)))))
 obtain rfl := Yo hm
 exact ⟨_, _, _, Y, H.Yp [] Y Y, h3, h4, h5, gp, gq, gr, Y, Y, ((i5.mono z).mono G), h9⟩
 clear hm
 rcases a0h T with ⟨gt, T⟩ | ⟨gt, T⟩
 refine a1k 40 Y gt (a0d Y Y Y (a1y g9.len u28 Y Y Y (a0u Y Y Y Y Y (a0s Y Y Y Y (a0e (a0k (fun a ha => ?_)))))))
 cases T
 exact ⟨Y, ha.cut (l := [2, 3, 4, 5, 7, 8, 44]) Y⟩
 refine a1k 40 Y gt (a0y Y (by decide) Y (a0y Y (by decide) Y (a0y Y (by decide) Y (a0m Y Y Y Y (a0e (a0k (fun a ha => ?_)))))))
 cases T
 exact ⟨Y, ha.cut (l := [2, 3, 4, 5, 7, 8, 44]) Y⟩
 clear hm
 rcases a0h p with ⟨gu, p⟩ | ⟨gu, p⟩
 refine a1k 13 Y gu (a0y Y (by decide) Y (a0y Y (by decide) Y (a0y Y (by decide) Y (a0s Y Y Y Y (a0e (a0k (fun a ha => ?_)))))))
 cases p
 exact ⟨_, Yf, g0.Yp [0, 1, 2, 3] Y Y, ha.cut (l := [2, 3, 4, 5, 17]) Y⟩
 refine a1k 13 Y gu (a0q ag35 sz35 Y Y g0 Y (i := 2) Y Y ?_)
 obtain ⟨v11, i7, p⟩ := Yb p
 refine a0i ent74 Y Y Y Y g0 (a3i _ _ _ i7 g0.sat (g1.mono Z)) ?_
 rintro _ iv _ iw hb hc ⟨rfl, rfl⟩
 refine a4c Y Y Y (a0m Y Y Y Y (a0e (a0k (fun a ha => ?_))))
 cases p
 exact ⟨_, hb, hc.Yp [0, 1, 2, 3] Y Y, ha.cut (l := [2, 3, 4, 5, 17]) Y⟩
def a9f (n : Nat) (kont1 : (List Int) → Option (Big × Int)) : Nat → (List Int) → (List Int) → Option (Big × Int)
 | 0, _, _ => none
 | mx1 + 1, x1, y1 =>
  bif decide (0 < (y1.length : Int)) then
   (b3y n x1 y1).bind fun v8 =>
   a9f n kont1 mx1 y1 v8.2
  else
   kont1 x1
theorem b4n (n : Nat) (kont1 : (List Int) → Option (Big × Int)) (mx1 : Nat) (x1 : (List Int)) (y1 : (List Int)) : a9f n kont1 (mx1 + 1) x1 y1 =
  bif decide (0 < (y1.length : Int)) then
   (b3y n x1 y1).bind fun v8 =>
   a9f n kont1 mx1 y1 v8.2
  else
   kont1 x1 := rfl
def b4g (n : Nat) (ax1 : Big) (b1 : Big) : Option (Big × Int) :=
 (a3t n ax1).bind fun v1 =>
 (bif !v1 then
  some true
 else
  (a3t n b1).bind fun v9 =>
  some (!v9)).bind fun v2 =>
 bif v2 then
  (a4t n false (⟨0, []⟩ : Big)).bind fun v3 =>
  some (v3.1, v3.2)
 else
  (a1w n ax1.Digits).bind fun v4 =>
  a9f n (fun (x2 : (List Int)) =>
   (a1w n x2).bind fun v5 =>
   (a3o n 1 v5).bind fun v6 =>
   (a4t n true v6).bind fun v7 =>
   some (v7.1, v7.2)) n v4 b1.Digits
theorem b2q (n : Nat) (ax1 : Big) (b1 : Big) (r : (Big × Int)) (hm : b4g n ax1 b1 = some r) {w : World} {F : Frz} (hs : Sat F w) {t j : Option Addr} {u x k o : Nat} (gf : SlR (Rp.int .i64) F t u x ax1.Digits) (gg : SlR (Rp.int .i64) F j k o b1.Digits) :
  Calls Tryz.prog 75 #[.agg #[.int .i64 ax1.Sign, .slice t u x], .agg #[.int .i64 b1.Sign, .slice j k o]] w fun e w' => ∃ v F' O', e = .returned v ∧ HS F w [] F' O' w' ∧ (∃ (a0_1 : Option Addr) (n0_1 : Nat) (c0_1 : Nat), v = .tuple #[.agg #[.int .i64 r.1.Sign, .slice a0_1 n0_1 c0_1], .int .i64 r.2] ∧ O' = [] ∧ SlR (Rp.int .i64) F' a0_1 n0_1 c0_1 r.1.Digits) := by
 unfold b4g at hm
 have h := HS.init hs
 refine a1a 44 Tryz.func75 Y Y Y (a0g (a0a (a2z Y Y Y Y h ?_)))
 intro b2 ih h7
 refine a2z Y Y Y Y h7 ?_
 intro b3 ii h8
 refine a1h ze35 Y Y Y h8 ?_
 intro b4 ij R
 refine a0b Y Y Y (a0e (a0c (a0g (a0g (a0a (a0q ag35 sz35 Y Y R Y (i := 2) Y Y ?_))))))
 obtain ⟨v1, h9, hm⟩ := Yb hm
 refine a0i ent74 Y Y Y Y R (a3i _ _ _ h9 R.sat gf) ?_
 rintro _ hb _ ik T z ⟨rfl, rfl⟩
 refine a4c Y Y Y (a0d Y Y Y ?_)
 obtain ⟨v2, g, hm⟩ := Yb hm
 refine a2g 4 (fun a w' => ∃ (G : Frz), Frz.le hb G ∧ HS F w [] G [.box b4 35 [.int .i64 0, .slice none 0 0], .box b3 35 [.int .i64 b1.Sign, .slice j k o], .box b2 35 [.int .i64 ax1.Sign, .slice t u x]] w' ∧ Has 44 a [(2, .pointer (some ⟨b2, 0, none⟩)), (3, .pointer (some ⟨b3, 0, none⟩)), (4, .pointer (some ⟨b4, 0, none⟩)), (17, .bool v2)]) ?_ ?_
 rintro a il ⟨G, gh, U, gr⟩
 refine a1d gr (a0e (a0c ?_))
 rcases a0h hm with ⟨V, hm⟩ | ⟨V, hm⟩
 refine a0r 17 Y V (a0x Y (a0g (a0a (a1r (v := .agg #[.int .i64 0, .slice none 0 0]) Y Y Y (fun _ => by kernel_rfl) ?_))))
 obtain ⟨v3, hc, hm⟩ := Yb hm
 refine a0i ent103 Y Y Y Y U (a5f _ _ _ _ hc U.sat (SlR.nil _ _)) ?_
 rintro _ im _ io ip hd ⟨gi, gj, gk, rfl, rfl, he⟩
 refine a0l Y Y Y Y (a0l Y Y Y Y (a0o sz35 Y hd Y Y Y Y (i := 0) Y Y Y Y ?_))
 intro iq gl
 refine a0b Y Y Y (a0e (a0c (a1c (a0j (a1q (vl := [.agg #[.int .i64 v3.1.Sign, .slice gi gj gk], .int .i64 v3.2]) Y ⟨a2h ag35 sz35 Y gl Y (i := 0) Y, a1p Y, trivial⟩ (by simp) ?_)))))
 obtain rfl := Yo hm
 exact ⟨_, _, _, Y, gl.Yp [] Y Y, gi, gj, gk, Y, Y, he⟩
 refine a0r 17 Y V (a0p Y (a1b (a0c (a0g (a2f (SH G [.box b4 35 [.int .i64 0, .slice none 0 0], .box b3 35 [.int .i64 b1.Sign, .slice j k o], .box b2 35 [.int .i64 ax1.Sign, .slice t u x]]) 7 Y (by kernel_rfl) U ?_)))))
 intro ir Z
 have S0 := Z.Ys Yf [0, 1, 2] Y Y
 refine d_tk 0 Y (by kernel_rfl) Y Y Y Y S0 (fun _ _ _ _ _ => a0f fa35_1 Y Y Y Yn) (d_tk 1 Y (by kernel_rfl) Y Y Y Y S0 (fun _ _ _ _ hq => a0n ag28 Y Y hq Y (i := 2) Y Y Yn) (d_tk 3 Y (by kernel_rfl) Y Y Y Y S0 (fun _ _ _ _ _ => a0f fa35_1 Y Y Y Yn) (d_tk 4 Y (by kernel_rfl) Y Y Y Y S0 (fun _ _ _ _ hq => a0n ag28 Y Y hq Y (i := 1) Y Y Yn) (a0z 2 Y (by kernel_rfl) ?_))))
 obtain ⟨v4, hf, hm⟩ := Yb hm
 refine a0i ent50 Y Y Y Y Z (a2b _ _ _ hf Z.sat ((gf.mono T).mono gh)) ?_
 rintro _ it _ iu gm gn ⟨hg, hh, hi, xss4, rfl, rfl, hj⟩
 have S1 := gn.Ys gm [1, 2, 3] Y Y
 refine a0v S1 (d_tk 5 Y (by kernel_rfl) Y Y Y Y S1 (fun _ _ _ _ _ => a0b Y Y Y Yn) (d_tk 6 Y (by kernel_rfl) Y Y Y Y S1 (fun _ _ _ _ _ => a0b Y Y Y Yn) (a2u (by kernel_rfl) (a0c (a0g (a1j ?_))))))
 obtain ⟨go, hk, gs, hsx1⟩ := a1g gn (i := 0) Y hj
 intro a gt
 obtain ⟨kont1, hkont1⟩ : ∃ kont1 : (List Int) → Option (Big × Int), kont1 = (fun (x2 : (List Int)) => (a1w n x2).bind fun v5 => (a3o n 1 v5).bind fun v6 => (a4t n true v6).bind fun v7 => some (v7.1, v7.2)) := ⟨_, Y⟩
 replace hm : (fun m (s : (List Int) × (List Int)) => a9f n kont1 m s.1 s.2) n (v4, b1.Digits) = some r := by rw [hkont1]; exact hm
 refine a5j (id := 0) (fun m (s : (List Int) × (List Int)) => a9f n kont1 m s.1 s.2) (fun (y : (List Int)) => kont1 y) r (fun (s : (List Int) × (List Int)) a w' => ∃ (p : Frz) (H : Option Addr) (I : Nat) (J : Nat) (L : Option Addr) (M : Nat) (N : Nat), Frz.le go p ∧ HS F w [] p [.box b4 35 [.int .i64 0, .slice none 0 0]] w' ∧ (SlR (Rp.int .i64) p H I J s.1) ∧ (SlR (Rp.int .i64) p L M N s.2) ∧ Has 44 a [(4, .pointer (some ⟨b4, 0, none⟩)), (6, .slice H I J), (7, .slice L M N)]) (fun (y : (List Int)) a w' => ∃ (Q : Frz) (g0 : Option Addr) (g1 : Nat) (g2 : Nat), Frz.le go Q ∧ HS F w [] Q [.box b4 35 [.int .i64 0, .slice none 0 0]] w' ∧ (SlR (Rp.int .i64) Q g0 g1 g2 y) ∧ Has 44 a [(4, .pointer (some ⟨b4, 0, none⟩)), (6, .slice g0 g1 g2)]) (fun _ => Y) ?_ ?_ hm ⟨_, hg, hh, hi, j, k, o, Yf, gs.Yp [0] Y Y, hsx1, ((((gg.mono T).mono gh).mono gm).mono hk), gt.cut (l := [4, 6, 7]) Y⟩
 clear hm; rintro x2 a hw hm ⟨Q, g0, g1, g2, iv, g3, hl, gu⟩
 rw [hkont1] at hm
 replace hm := hm
 refine a2c (e := .exit 0) gu (a1m (a0c (a0g (a0a (a0d Y Y Y ?_)))))
 obtain ⟨v5, hn, hm⟩ := Yb hm
 refine a0i ent50 Y Y Y Y g3 (a2b _ _ _ hn g3.sat hl) ?_
 rintro _ iw _ hx ix gv ⟨iy, iz, j0, xss8, rfl, rfl, ho⟩
 obtain ⟨j1, j2, g4, hsx2⟩ := a1g gv (i := 0) Y ho
 obtain ⟨v6, hp, hm⟩ := Yb hm
 refine a0i ent94 Y Y Y Y g4 (a4f _ _ _ _ hp g4.sat hsx2) ?_
 rintro _ hy _ hz i0 g5 ⟨j3, j4, j5, rfl, rfl, hr⟩
 obtain ⟨v7, ht, hm⟩ := Yb hm
 refine a0i ent103 Y Y Y Y g5 (a5f _ _ _ _ ht g5.sat hr) ?_
 rintro _ i1 _ i2 i3 gw ⟨g6, g7, g8, rfl, rfl, gx⟩
 refine a0l Y Y Y Y (a0l Y Y Y Y (a0o sz35 Y gw Y Y Y Y (i := 0) Y Y Y Y ?_))
 intro i4 g9
 refine a0b Y Y Y (a0e (a0c (a1c (a1q (vl := [.agg #[.int .i64 v7.1.Sign, .slice g6 g7 g8], .int .i64 v7.2]) Y ⟨a2h ag35 sz35 Y g9 Y (i := 0) Y, a1p Y, trivial⟩ (by simp) ?_))))
 obtain rfl := Yo hm
 exact ⟨_, _, _, Y, g9.Yp [] Y Y, g6, g7, g8, Y, Y, gx⟩
 clear hm hkont1; intro hk1 mx1 K ihx1
 rintro ⟨x1, y1⟩ a i5 hm ⟨p, H, I, J, L, M, N, gp, q, gq, ga, gy⟩
 simp only [b4n] at hm
 refine a1l gy (a0g (a0g (a0a (a0d Y Y Y (a1y ga.len u28 Y Y Y (a0u Y Y Y Y Y (a0e (a0c ?_))))))))
 rcases a0h hm with ⟨gb, hm⟩ | ⟨gb, hm⟩
 refine a0r 29 Y gb (a0x Y (a1b (a0c (a1j (a0g (a0a (a0d Y Y Y (a0d Y Y Y ?_))))))))
 obtain ⟨v8, hu, hm⟩ := Yb hm
 refine a0i ent104 Y Y Y Y q (c1g _ _ _ _ hu q.sat gq ga) ?_
 rintro _ i6 _ i7 gc gz ⟨i8, i9, ia, h0, h1, h2, xss12, rfl, rfl, ib, h3⟩
 refine a0d Y Y Y (a0l Y Y Y Y (a0l Y Y Y Y (a0b Y Y Y (a0b Y Y Y (a0e (a0c (a0a (a0d Y Y Y (a0d Y Y Y (a0b Y Y Y (a0b Y Y Y (a0e (a1o ?_)))))))))))))
 obtain ⟨ic, gd, h4, hsx3⟩ := a1g gz (i := 0) Y h3
 refine a0k (fun a ha => ihx1 (y1, v8.2) a _ hm ?_)
 exact ⟨_, L, M, N, h0, h1, h2, ((gp.trans gc).trans gd), h4.Yp [0] Y Y, ((ga.mono gc).mono gd), hsx3, ha.cut (l := [4, 6, 7]) Y⟩
 refine a0r 29 Y gb (a0p Y (a3p (a0w (a0w (fun a ha => hk1 x1 a _ hm ?_)))))
 exact ⟨_, H, I, J, gp, q.Yp [0] Y Y, gq, ha.cut (l := [4, 6]) Y⟩
 clear hm
 rcases a0h g with ⟨ge, g⟩ | ⟨ge, g⟩
 refine a1k 13 Y ge (a0y Y (by decide) Y (a0y Y (by decide) Y (a0y Y (by decide) Y (a0s Y Y Y Y (a0e (a0k (fun a ha => ?_)))))))
 cases g
 exact ⟨_, Yf, z.Yp [0, 1, 2] Y Y, ha.cut (l := [2, 3, 4, 17]) Y⟩
 refine a1k 13 Y ge (a0q ag35 sz35 Y Y z Y (i := 1) Y Y ?_)
 obtain ⟨v9, hv, g⟩ := Yb g
 refine a0i ent74 Y Y Y Y z (a3i _ _ _ hv z.sat (gg.mono T)) ?_
 rintro _ ie _ ig h5 h6 ⟨rfl, rfl⟩
 refine a4c Y Y Y (a0m Y Y Y Y (a0e (a0k (fun a ha => ?_))))
 cases g
 exact ⟨_, h5, h6.Yp [0, 1, 2] Y Y, ha.cut (l := [2, 3, 4, 17]) Y⟩
theorem u126 : Tryz.prog.underlying 126 = some (.int .u64) := by kernel_rfl
def a9i (n : Nat) (kont1 : (List Int) → Option Big) : Nat → Int → (List Int) → Option Big
 | 0, _, _ => none
 | mx1 + 1, u2, l1 =>
  bif decide (0 < u2) then
   (app 8 l1 [IntKind.i64.wrap (iand .u64 u2 1048575)]).bind fun l3 =>
   (shr .u64 u2 20).bind fun q1 =>
   a9i n kont1 mx1 q1 l3
  else
   kont1 l1
theorem c0i (n : Nat) (kont1 : (List Int) → Option Big) (mx1 : Nat) (u2 : Int) (l1 : List Int) : a9i n kont1 (mx1 + 1) u2 l1 =
  bif decide (0 < u2) then
   (app 8 l1 [IntKind.i64.wrap (iand .u64 u2 1048575)]).bind fun l3 =>
   (shr .u64 u2 20).bind fun q1 =>
   a9i n kont1 mx1 q1 l3
  else
   kont1 l1 := rfl
def b6c (n : Nat) (nx1 : Int) : Option Big :=
 (bif decide (nx1 < 0) then
  some ((-1), IntKind.u64.wrap (0 - (IntKind.u64.wrap nx1)))
 else
  some (1, IntKind.u64.wrap nx1)).bind fun (sign1, u1) =>
 a9i n (fun (l2 : List Int) =>
  (a3o n sign1 l2).bind fun v1 =>
  some v1) n u1 ([] : List Int)
theorem c4s (n : Nat) (nx1 : Int) (r : Big) (hm : b6c n nx1 = some r) {w : World} {F : Frz} (hs : Sat F w)  :
  Calls Tryz.prog 63 #[.int .i64 nx1] w fun e w' => ∃ v F' O', e = .returned v ∧ HS F w [] F' O' w' ∧ (∃ (a0_1 : Option Addr) (n0_1 : Nat) (c0_1 : Nat), v = .agg #[.int .i64 r.Sign, .slice a0_1 n0_1 c0_1] ∧ O' = [] ∧ SlR (Rp.int .i64) F' a0_1 n0_1 c0_1 r.Digits) := by
 unfold b6c at hm
 have h := HS.init hs
 refine a1a 25 Tryz.func63 Y Y Y (a0g (a0a (a1h ze35 Y Y Y h ?_)))
 intro b1 Z g0
 refine a0e (a0c (a0g (a0a (a0d Y Y Y (c1f u3 u126 Y Y Y (a0b Y Y Y (a0b Y Y Y (a0e (a0c (a0g (a0g (a0a (a0d Y Y Y (a0u Y Y Y Y Y (a0e (a0c ?_))))))))))))))))
 obtain ⟨⟨sign1, u1⟩, k, hm⟩ := Yb hm
 refine a6f (fun a w' => Z = w' ∧ Has 25 a [(2, .pointer (some ⟨b1, 0, none⟩)), (3, .int .i64 sign1), (4, .int .u64 u1)]) ?_ ?_
 rintro a gg ⟨rfl, R⟩
 refine a1l R (a0g (a0a (a0b Y Y Y (a0e (a0c (a0g (a1j ?_)))))))
 have g1 := g0.nilRow 3 1
 intro a T
 obtain ⟨kont1, hkont1⟩ : ∃ kont1 : (List Int) → Option Big, kont1 = (fun (l2 : List Int) => (a3o n sign1 l2).bind fun v1 => some v1) := ⟨_, Y⟩
 replace hm : (fun m (s : Int × List Int) => a9i n kont1 m s.1 s.2) n (u1, ([] : List Int)) = some r := by rw [hkont1]; exact hm
 refine a5j (id := 0) (fun m (s : Int × List Int) => a9i n kont1 m s.1 s.2) (fun (y : List Int) => kont1 y) r (fun (s : Int × List Int) a w' => ∃ (o : Frz) (p : Option Addr) (g : Nat) (t : Nat) (xss1 : List Value), Frz.le F o ∧ HS F w [] o [.row 3 1 p g t xss1, .box b1 35 [.int .i64 0, .slice none 0 0]] w' ∧ (RowN (Rp.int .i64) o g xss1 s.2) ∧ Has 25 a [(2, .pointer (some ⟨b1, 0, none⟩)), (3, .int .i64 sign1), (4, .int .u64 s.1), (5, .slice p g t)]) (fun (y : List Int) a w' => ∃ (u : Frz) (z : Option Addr) (x : Nat) (G : Nat) (xss2 : List Value), Frz.le F u ∧ HS F w [] u [.row 3 1 z x G xss2, .box b1 35 [.int .i64 0, .slice none 0 0]] w' ∧ (RowN (Rp.int .i64) u x xss2 y) ∧ Has 25 a [(2, .pointer (some ⟨b1, 0, none⟩)), (3, .int .i64 sign1), (5, .slice z x G)]) (fun _ => Y) ?_ ?_ hm ⟨_, none, 0, 0, [], Yf, g1.Yp [0, 1] Y Y, ((show RowN (Rp.int .i64) _ 0 [] [] from ⟨Y, Y⟩)), T.cut (l := [2, 3, 4, 5]) Y⟩
 clear hm; rintro l2 a gh hm ⟨u, z, x, G, xss2, gi, g2, g3, U⟩
 rw [hkont1] at hm
 replace hm := hm
 refine a2c (e := .exit 0) U (a1m (a0c (a0g (a0a (a0d Y Y Y (a0d Y Y Y ?_))))))
 obtain ⟨gj, gk, J, hsx1⟩ := a1g g2 (i := 0) Y g3
 obtain ⟨v1, g4, hm⟩ := Yb hm
 refine a0i ent94 Y Y Y Y J (a4f _ _ _ _ g4 J.sat hsx1) ?_
 rintro _ gl _ gm gn g5 ⟨g6, g7, g8, rfl, rfl, g9⟩
 refine a0o sz35 Y g5 Y Y Y Y (i := 0) Y Y Y Y ?_
 intro go L
 refine a0e (a0c (a1c (a3h Y ag35 sz35 Y L Y (i := 0) Y ?_)))
 obtain rfl := Yo hm
 exact ⟨_, _, _, Y, L.Yp [] Y Y, g6, g7, g8, Y, Y, g9⟩
 clear hm hkont1; intro hk1 mx1 K ihx1
 rintro ⟨u2, l1⟩ a gp hm ⟨o, p, g, t, xss1, M, N, Q, V⟩
 simp only [c0i] at hm
 refine a1l V (a0g (a0g (a0a (a0d Y Y Y (a0u Y Y Y Y Y (a0e (a0c ?_)))))))
 rcases a0h hm with ⟨H, hm⟩ | ⟨H, hm⟩
 refine a0r 13 Y H (a0x Y (a1b (a0c (a0g (a1j (a0a (a0d Y Y Y (a0d Y Y Y (a0u Y Y Y Y Y (c1f u126 u3 Y Y Y (a1f (e := 3) (cs := [.int .i64 (IntKind.i64.wrap (iand .u64 u2 1048575))]) (q := 1) Y Y N Y (fun _ => by kernel_rfl) Y Y ?_)))))))))))
 intro b2 gq ga
 obtain ⟨l3, gb, hm⟩ := Yb hm
 refine a4n (r := (Rp.int .i64)) ap28 Y Y ga Y Y (i := 1) (j := 0) Y Y Q ((show RowN (Rp.int .i64) o 1 [.int .i64 (IntKind.i64.wrap (iand .u64 u2 1048575))] [IntKind.i64.wrap (iand .u64 u2 1048575)] from ⟨Y, ⟨_, _, Y, Y, (Y : RowR (Rp.int .i64) _ [] [])⟩⟩)) gb ?_
 intro gc gd gr ge gf
 refine a0b Y Y Y (a0e (a1o (a0c (a0a (a0d Y Y Y ?_)))))
 obtain ⟨q1, hq1, hm⟩ := Yb hm
 refine c6y Y Y Y Y hq1 (a0b Y Y Y (a0e (a0k (fun a ha => ihx1 (q1, l3) a _ hm ?_))))
 exact ⟨_, gc, (g + 1), gd, (xss1 ++ [.int .i64 (IntKind.i64.wrap (iand .u64 u2 1048575))]), M, ge.Yp [1, 2] Y Y, gf, ha.cut (l := [2, 3, 4, 5]) Y⟩
 refine a0r 13 Y H (a0p Y (a3p (a0w (a0w (fun a ha => hk1 l1 a _ hm ?_)))))
 exact ⟨_, p, g, t, xss1, M, N.Yp [0, 1] Y Y, Q, ha.cut (l := [2, 3, 5]) Y⟩
 clear hm
 rcases a0h k with ⟨I, k⟩ | ⟨I, k⟩
 refine a0r 9 Y I (a0x Y (a0a (a0d Y Y Y (c7i Y Y Y (a0b Y Y Y (a0b Y Y Y (a0e (a0k (fun a ha => ?_)))))))))
 cases k
 exact ⟨Y, ha.cut (l := [2, 3, 4]) Y⟩
 refine a0r 9 Y I (a0p Y (a1b (a0k (fun a ha => ?_))))
 cases k
 exact ⟨Y, ha.cut (l := [2, 3, 4]) Y⟩
def a9w (n : Nat) (ax1 : Big) (kont1 : Int → Option (Int × Bool)) : Nat → Int → Int → Option (Int × Bool)
 | 0, _, _ => none
 | mx1 + 1, u1, i1 =>
  bif decide (i1 < (ax1.Digits.length : Int)) then
   (ix ax1.Digits i1).bind fun ex1 =>
   (bif i1 == 3 then
    some (decide (8 < ex1))
   else
    some false).bind fun v5 =>
   bif v5 then
    some (0, false)
   else
    (shl .u64 (IntKind.u64.wrap ex1) (imul .i64 20 i1)).bind fun q1 =>
    a9w n ax1 kont1 mx1 (ior .u64 u1 q1) (iadd .i64 i1 1)
  else
   kont1 u1
theorem b4i (n : Nat) (ax1 : Big) (kont1 : Int → Option (Int × Bool)) (mx1 : Nat) (u1 : Int) (i1 : Int) : a9w n ax1 kont1 (mx1 + 1) u1 i1 =
  bif decide (i1 < (ax1.Digits.length : Int)) then
   (ix ax1.Digits i1).bind fun ex1 =>
   (bif i1 == 3 then
    some (decide (8 < ex1))
   else
    some false).bind fun v5 =>
   bif v5 then
    some (0, false)
   else
    (shl .u64 (IntKind.u64.wrap ex1) (imul .i64 20 i1)).bind fun q1 =>
    a9w n ax1 kont1 mx1 (ior .u64 u1 q1) (iadd .i64 i1 1)
  else
   kont1 u1 := rfl
def b9b (n : Nat) (ax1 : Big) : Option (Int × Bool) :=
 (a3t n ax1).bind fun v1 =>
 (bif !v1 then
  some true
 else
  some (decide (4 < (ax1.Digits.length : Int)))).bind fun v2 =>
 bif v2 then
  some (0, false)
 else
  a9w n ax1 (fun (u2 : Int) =>
   (bif decide (ax1.Sign < 0) then
    some (decide (u2 ≤ 9223372036854775808))
   else
    some false).bind fun v3 =>
   bif v3 then
    some (IntKind.i64.wrap (IntKind.u64.wrap (0 - u2)), true)
   else
    (bif decide (0 ≤ ax1.Sign) then
     some (decide (u2 < 9223372036854775808))
    else
     some false).bind fun v4 =>
    bif v4 then
     some (IntKind.i64.wrap u2, true)
    else
     some (0, false)) n 0 0
theorem c7p (n : Nat) (ax1 : Big) (r : (Int × Bool)) (hm : b9b n ax1 = some r) {w : World} {F : Frz} (hs : Sat F w) {H : Option Addr} {I : Nat} {o : Nat} (J : SlR (Rp.int .i64) F H I o ax1.Digits) :
  Calls Tryz.prog 105 #[.agg #[.int .i64 ax1.Sign, .slice H I o]] w fun e w' => ∃ v F' O', e = .returned v ∧ HS F w [] F' O' w' ∧ (v = .tuple #[.int .i64 r.1, .bool r.2] ∧ O' = []) := by
 unfold b9b at hm
 have h := HS.init hs
 refine a1a 59 Tryz.func105 Y Y Y (a0g (a0a (a2z Y Y Y Y h ?_)))
 intro b1 gb L
 refine a0b Y Y Y (a0b Y Y Y (a0e (a0c (a0g (a0g (a0a (a0q ag35 sz35 Y Y L Y (i := 0) Y Y ?_)))))))
 obtain ⟨v1, g5, hm⟩ := Yb hm
 refine a0i ent74 Y Y Y Y L (a3i _ _ _ g5 L.sat J) ?_
 rintro _ gc _ p g6 g ⟨rfl, rfl⟩
 refine a4c Y Y Y (a0d Y Y Y ?_)
 obtain ⟨v2, q, hm⟩ := Yb hm
 refine a2g 5 (fun a w' => p = w' ∧ Has 59 a [(1, .pointer (some ⟨b1, 0, none⟩)), (15, .bool v2)]) ?_ ?_
 rintro a gd ⟨rfl, V⟩
 refine a1d V (a0e (a0c ?_))
 rcases a0h hm with ⟨M, hm⟩ | ⟨M, hm⟩
 refine a0r 15 Y M (a0x Y (a0g (a0a (a0b Y Y Y (a0b Y Y Y (a0e (a0c (a1c (a0j (a1q (vl := [.int .i64 0, .bool false]) Y ⟨a1p Y, a1p Y, trivial⟩ (by simp) ?_))))))))))
 obtain rfl := Yo hm
 exact ⟨_, _, _, Y, g.Yp [] Y Y, Y, Y⟩
 refine a0r 15 Y M (a0p Y (a1b (a0c (a0g (a0a (a0b Y Y Y (a0e (a0c (a0g (a0g (a0a (a0f fa35_1 Y Y Y (a0n ag28 Y Y g Y (i := 0) Y Y (a1y J.len u28 Y Y Y (a0d Y Y Y (a0e (a0c (a1j ?_))))))))))))))))))
 intro a Z
 obtain ⟨kont1, hkont1⟩ : ∃ kont1 : Int → Option (Int × Bool), kont1 = (fun (u2 : Int) => (bif decide (ax1.Sign < 0) then some (decide (u2 ≤ 9223372036854775808)) else some false).bind fun v3 => bif v3 then some (IntKind.i64.wrap (IntKind.u64.wrap (0 - u2)), true) else (bif decide (0 ≤ ax1.Sign) then some (decide (u2 < 9223372036854775808)) else some false).bind fun v4 => bif v4 then some (IntKind.i64.wrap u2, true) else some (0, false)) := ⟨_, Y⟩
 replace hm : (fun m (s : Int × Int) => a9w n ax1 kont1 m s.1 s.2) n (0, 0) = some r := by rw [hkont1]; exact hm
 refine a5j (id := 0) (fun m (s : Int × Int) => a9w n ax1 kont1 m s.1 s.2) (fun (y : Int) => kont1 y) r (fun (s : Int × Int) a w' => p = w' ∧ Has 59 a [(1, .pointer (some ⟨b1, 0, none⟩)), (4, .int .u64 s.1), (17, .slice H I o), (18, .int .i64 (ax1.Digits.length : Int)), (19, .int .i64 s.2)]) (fun (y : Int) a w' => p = w' ∧ Has 59 a [(1, .pointer (some ⟨b1, 0, none⟩)), (4, .int .u64 y)]) (fun _ => Y) ?_ ?_ hm ⟨Y, Z.cut (l := [1, 4, 17, 18, 19]) Y⟩
 clear hm; rintro u2 a ge hm ⟨rfl, g0⟩
 rw [hkont1] at hm
 replace hm := hm
 refine a2c (e := .exit 0) g0 (a1m (a0c (a0g (a1j (a0g (a0a (a0f fa35_0 Y Y Y (a0n ag3 Y Y g Y (i := 0) Y Y (a0u Y Y Y Y Y (a0d Y Y Y ?_))))))))))
 obtain ⟨v3, t, hm⟩ := Yb hm
 refine a2g 3 (fun a w' => p = w' ∧ Has 59 a [(1, .pointer (some ⟨b1, 0, none⟩)), (4, .int .u64 u2), (45, .bool v3)]) ?_ ?_
 rintro a gf ⟨rfl, g1⟩
 refine a1d g1 (a0b Y Y Y (a0e (a0c ?_)))
 rcases a0h hm with ⟨N, hm⟩ | ⟨N, hm⟩
 refine a0r 38 Y N (a0x Y (a0g (a0a (a0d Y Y Y (c7i Y Y Y (c1f u126 u3 Y Y Y (a0b Y Y Y (a0b Y Y Y (a0e (a0c (a1c (a0t (a0j (a1q (vl := [.int .i64 (IntKind.i64.wrap (IntKind.u64.wrap (0 - u2))), .bool true]) Y ⟨a1p Y, a1p Y, trivial⟩ (by simp) ?_))))))))))))))
 obtain rfl := Yo hm
 exact ⟨_, _, _, Y, g.Yp [] Y Y, Y, Y⟩
 refine a0r 38 Y N (a0p Y (a0g (a0a (a0f fa35_0 Y Y Y (a0n ag3 Y Y g Y (i := 0) Y Y (a0u Y Y Y Y Y (a0d Y Y Y ?_)))))))
 obtain ⟨v4, u, hm⟩ := Yb hm
 refine a2g 3 (fun a w' => p = w' ∧ Has 59 a [(4, .int .u64 u2), (56, .bool v4)]) ?_ ?_
 rintro a gg ⟨rfl, g2⟩
 refine a1d g2 (a0b Y Y Y (a0e (a0c ?_)))
 rcases a0h hm with ⟨Q, hm⟩ | ⟨Q, hm⟩
 refine a0r 49 Y Q (a0x Y (a0g (a0a (a0d Y Y Y (c1f u126 u3 Y Y Y (a0b Y Y Y (a0b Y Y Y (a0e (a0c (a1c (a0t (a0j (a1q (vl := [.int .i64 (IntKind.i64.wrap u2), .bool true]) Y ⟨a1p Y, a1p Y, trivial⟩ (by simp) ?_)))))))))))))
 obtain rfl := Yo hm
 exact ⟨_, _, _, Y, g.Yp [] Y Y, Y, Y⟩
 refine a0r 49 Y Q (a0p Y (a1b (a1o (a0c (a0g (a0a (a0b Y Y Y (a0b Y Y Y (a0e (a0c (a1c (a1q (vl := [.int .i64 0, .bool false]) Y ⟨a1p Y, a1p Y, trivial⟩ (by simp) ?_))))))))))))
 obtain rfl := Yo hm
 exact ⟨_, _, _, Y, g.Yp [] Y Y, Y, Y⟩
 clear hm
 rcases a0h u with ⟨R, u⟩ | ⟨R, u⟩
 refine a1k 53 Y R (a0d Y Y Y (a0u Y Y Y Y Y (a0s Y Y Y Y (a0e (a0k (fun a ha => ?_))))))
 cases u
 exact ⟨Y, ha.cut (l := [4, 56]) Y⟩
 refine a1k 53 Y R (a0y Y (by decide) Y (a0y Y (by decide) Y (a0m Y Y Y Y (a0e (a0k (fun a ha => ?_))))))
 cases u
 exact ⟨Y, ha.cut (l := [4, 56]) Y⟩
 clear hm
 rcases a0h t with ⟨T, t⟩ | ⟨T, t⟩
 refine a1k 42 Y T (a0d Y Y Y (a0u Y Y Y Y Y (a0s Y Y Y Y (a0e (a0k (fun a ha => ?_))))))
 cases t
 exact ⟨Y, ha.cut (l := [1, 4, 45]) Y⟩
 refine a1k 42 Y T (a0y Y (by decide) Y (a0y Y (by decide) Y (a0m Y Y Y Y (a0e (a0k (fun a ha => ?_))))))
 cases t
 exact ⟨Y, ha.cut (l := [1, 4, 45]) Y⟩
 clear hm hkont1; intro hk1 mx1 K ihx1
 rintro ⟨u1, i1⟩ a gh hm ⟨rfl, g3⟩
 simp only [b4i] at hm
 refine a1l g3 (a0g (a0a (a0u Y Y Y Y Y (a0e (a0c (a0g ?_))))))
 rcases a0h hm with ⟨U, hm⟩ | ⟨U, hm⟩
 refine a0r 20 Y U (a0x Y (a1b (a0c (a0g (a1j (a0g (a0a (a0d Y Y Y ?_))))))))
 obtain ⟨ex1, g7, hm⟩ := Yb hm
 refine a2r (r := (Rp.int .i64)) u28 sz3 Y Y Y Y (J.mono g6) g7 ?_
 intro b2 o1 o g8 g9
 have ga : o = [.int .i64 ex1] := g9
 subst ga
 refine a2j (j := 0) ag3 Y Y g g8 Y Y (a0b Y Y Y (a0b Y Y Y (a0e (a0c (a0g (a0g (a0a (a0d Y Y Y (a0u Y Y Y Y Y (a0d Y Y Y ?_))))))))))
 obtain ⟨v5, k, hm⟩ := Yb hm
 refine a2g 3 (fun a w' => p = w' ∧ Has 59 a [(1, .pointer (some ⟨b1, 0, none⟩)), (4, .int .u64 u1), (5, .int .i64 i1), (6, .int .i64 ex1), (17, .slice H I o), (18, .int .i64 (ax1.Digits.length : Int)), (19, .int .i64 i1), (29, .bool v5)]) ?_ ?_
 rintro a gi ⟨rfl, g4⟩
 refine a1d g4 (a0e (a0c ?_))
 rcases a0h hm with ⟨x, hm⟩ | ⟨x, hm⟩
 refine a0r 29 Y x (a0x Y (a0g (a0a (a0b Y Y Y (a0b Y Y Y (a0e (a0c (a1c (a0j (a0t (a0j (a0j (a0t (a0j (a1q (vl := [.int .i64 0, .bool false]) Y ⟨a1p Y, a1p Y, trivial⟩ (by simp) ?_)))))))))))))))
 obtain rfl := Yo hm
 exact ⟨_, _, _, Y, g.Yp [] Y Y, Y, Y⟩
 refine a0r 29 Y x (a0p Y (a1b (a0c (a0a (a0d Y Y Y (a0d Y Y Y (c1f u3 u126 Y Y Y (a0d Y Y Y (a0u Y Y Y Y Y ?_)))))))))
 obtain ⟨q1, hq1, hm⟩ := Yb hm
 refine d2o Y Y Y Y hq1 (a0u Y Y Y Y Y (a0b Y Y Y (a0e (a1o (a0c (a0a (a0u Y Y Y Y Y (a0d Y Y Y (a0e (a0k (fun a ha => ihx1 ((ior .u64 u1 q1), (iadd .i64 i1 1)) a _ hm ?_)))))))))))
 exact ⟨Y, ha.cut (l := [1, 4, 17, 18, 19]) Y⟩
 clear hm
 rcases a0h k with ⟨z, k⟩ | ⟨z, k⟩
 refine a1k 26 Y z (a0d Y Y Y (a0u Y Y Y Y Y (a0s Y Y Y Y (a0e (a0k (fun a ha => ?_))))))
 cases k
 exact ⟨Y, ha.cut (l := [1, 4, 5, 6, 17, 18, 19, 29]) Y⟩
 refine a1k 26 Y z (a0y Y (by decide) Y (a0y Y (by decide) Y (a0m Y Y Y Y (a0e (a0k (fun a ha => ?_))))))
 cases k
 exact ⟨Y, ha.cut (l := [1, 4, 5, 6, 17, 18, 19, 29]) Y⟩
 refine a0r 20 Y U (a0p Y (a3p (a0w (a0w (fun a ha => hk1 u1 a _ hm ?_)))))
 exact ⟨Y, ha.cut (l := [1, 4]) Y⟩
 clear hm
 rcases a0h q with ⟨G, q⟩ | ⟨G, q⟩
 refine a1k 10 Y G (a0y Y (by decide) Y (a0y Y (by decide) Y (a0y Y (by decide) Y (a0y Y (by decide) Y (a0s Y Y Y Y (a0e (a0k (fun a ha => ?_))))))))
 cases q
 exact ⟨Y, ha.cut (l := [1, 15]) Y⟩
 refine a1k 10 Y G (a0f fa35_1 Y Y Y (a0n ag28 Y Y g Y (i := 0) Y Y (a1y J.len u28 Y Y Y (a0u Y Y Y Y Y (a0m Y Y Y Y (a0e (a0k (fun a ha => ?_))))))))
 cases q
 exact ⟨Y, ha.cut (l := [1, 15]) Y⟩
end Go.Proofs.YtknpjecpcmajiaaGreatDoor.M

