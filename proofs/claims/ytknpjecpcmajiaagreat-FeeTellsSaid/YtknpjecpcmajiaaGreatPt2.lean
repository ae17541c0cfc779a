/- Several texts in one, for FeeTells.said: what the theorem leans on. -/
import Derived.Test.YtknpjecpcmajiaaGreatRows
import Derived.Test.YtknpjecpcmajiaaGreatPt1
set_option maxHeartbeats 1000000
set_option maxRecDepth 1000000
namespace Go.Proofs.YtknpjecpcmajiaaGreat.M
open Go Go.RowKit Rt
def a9q (_n : Nat) (c1 : Int) : Option Bool :=
 (bif decide (97 ≤ c1) then
  some (decide (c1 ≤ 122))
 else
  some false).bind fun v1 =>
 (bif v1 then
  some true
 else
  (bif decide (65 ≤ c1) then
   some (decide (c1 ≤ 90))
  else
   some false).bind fun v3 =>
  some v3).bind fun v2 =>
 some v2
theorem b4t (n : Nat) (c1 : Int) (r : Bool) (hm : a9q n c1 = some r) {w : World}  :
  Calls Tryz.prog 125 #[.int .u8 c1] w fun e w' => e = .returned (.bool r) ∧ w' = w := by
 unfold a9q at hm
 refine a1a 17 Tryz.func125 Y Y Y (a0h (a0a (a0b Y Y Y (a0g (a0c (a0h (a0a (a0d Y Y Y (a0u Y Y Y Y Y (a0d Y Y Y ?_))))))))))
 obtain ⟨v1, h, hm⟩ := Yb hm
 refine a1z 3 (fun a w' => w = w' ∧ Has 17 a [(0, .int .u8 c1), (8, .bool v1)]) ?_ ?_
 rintro a s ⟨rfl, o⟩
 refine a0z o (a0d Y Y Y ?_)
 obtain ⟨v2, g, hm⟩ := Yb hm
 refine a1z 7 (fun a w' => w = w' ∧ Has 17 a [(16, .bool v2)]) ?_ ?_
 rintro a t ⟨rfl, p⟩
 refine a0z p (a0b Y Y Y (a0g (a0c (a1d (a1j Y Y ?_)))))
 obtain rfl := Yo hm
 exact ⟨Y, Y⟩
 clear hm
 rcases a0f g with ⟨j, g⟩ | ⟨j, g⟩
 refine a1g 9 Y j (a0t Y (by decide) Y (a0t Y (by decide) Y (a0t Y (by decide) Y (a0t Y (by decide) Y (a0t Y (by decide) Y (a0t Y (by decide) Y (a0n Y Y Y Y (a0g (a0o (fun a ha => ?_))))))))))
 cases g
 exact ⟨Y, ha.cut (l := [16]) Y⟩
 refine a1g 9 Y j (a0d Y Y Y (a0u Y Y Y Y Y (a0d Y Y Y ?_)))
 obtain ⟨v3, i, g⟩ := Yb g
 refine a1z 3 (fun a w' => w = w' ∧ Has 17 a [(9, .bool false), (15, .bool v3)]) ?_ ?_
 rintro a u ⟨rfl, q⟩
 refine a0z q (a0k Y Y Y Y (a0g (a0o (fun a ha => ?_))))
 cases g
 exact ⟨Y, ha.cut (l := [16]) Y⟩
 clear g
 rcases a0f i with ⟨k, i⟩ | ⟨k, i⟩
 refine a1g 12 Y k (a0d Y Y Y (a0u Y Y Y Y Y (a0n Y Y Y Y (a0g (a0o (fun a ha => ?_))))))
 cases i
 exact ⟨Y, ha.cut (l := [9, 15]) Y⟩
 refine a1g 12 Y k (a0t Y (by decide) Y (a0t Y (by decide) Y (a0k Y Y Y Y (a0g (a0o (fun a ha => ?_))))))
 cases i
 exact ⟨Y, ha.cut (l := [9, 15]) Y⟩
 clear hm
 rcases a0f h with ⟨m, h⟩ | ⟨m, h⟩
 refine a1g 5 Y m (a0d Y Y Y (a0u Y Y Y Y Y (a0n Y Y Y Y (a0g (a0o (fun a ha => ?_))))))
 cases h
 exact ⟨Y, ha.cut (l := [0, 8]) Y⟩
 refine a1g 5 Y m (a0t Y (by decide) Y (a0t Y (by decide) Y (a0k Y Y Y Y (a0g (a0o (fun a ha => ?_))))))
 cases h
 exact ⟨Y, ha.cut (l := [0, 8]) Y⟩
def b6m (_n : Nat) (c1 : Int) : Option Bool :=
 (bif decide (48 ≤ c1) then
  some (decide (c1 ≤ 57))
 else
  some false).bind fun v1 =>
 some v1
theorem c1q (n : Nat) (c1 : Int) (r : Bool) (hm : b6m n c1 = some r) {w : World}  :
  Calls Tryz.prog 143 #[.int .u8 c1] w fun e w' => e = .returned (.bool r) ∧ w' = w := by
 unfold b6m at hm
 refine a1a 9 Tryz.func143 Y Y Y (a0h (a0a (a0b Y Y Y (a0g (a0c (a0h (a0a (a0d Y Y Y (a0u Y Y Y Y Y (a0d Y Y Y ?_))))))))))
 obtain ⟨v1, g, hm⟩ := Yb hm
 refine a1z 3 (fun a w' => w = w' ∧ Has 9 a [(8, .bool v1)]) ?_ ?_
 rintro a j ⟨rfl, i⟩
 refine a0z i (a0b Y Y Y (a0g (a0c (a1d (a1j Y Y ?_)))))
 obtain rfl := Yo hm
 exact ⟨Y, Y⟩
 clear hm
 rcases a0f g with ⟨h, g⟩ | ⟨h, g⟩
 refine a1g 5 Y h (a0d Y Y Y (a0u Y Y Y Y Y (a0n Y Y Y Y (a0g (a0o (fun a ha => ?_))))))
 cases g
 exact ⟨Y, ha.cut (l := [8]) Y⟩
 refine a1g 5 Y h (a0t Y (by decide) Y (a0t Y (by decide) Y (a0k Y Y Y Y (a0g (a0o (fun a ha => ?_))))))
 cases g
 exact ⟨Y, ha.cut (l := [8]) Y⟩
theorem ent125 : Ent Tryz.prog 125 := fun _ _ => by kernel_rfl
theorem ent143 : Ent Tryz.prog 143 := fun _ _ => by kernel_rfl
def b0n (n : Nat) (c1 : Int) : Option Bool :=
 (a9q n c1).bind fun v1 =>
 (bif v1 then
  some true
 else
  (b6m n c1).bind fun v4 =>
  some v4).bind fun v2 =>
 (bif v2 then
  some true
 else
  some (c1 == 95)).bind fun v3 =>
 some v3
theorem c1u (n : Nat) (c1 : Int) (r : Bool) (hm : b0n n c1 = some r) {w : World}  :
  Calls Tryz.prog 127 #[.int .u8 c1] w fun e w' => e = .returned (.bool r) ∧ w' = w := by
 unfold b0n at hm
 refine a1a 13 Tryz.func127 Y Y Y (a0h (a0a (a0b Y Y Y (a0g (a0c (a0h (a0a (a0d Y Y Y ?_))))))))
 obtain ⟨v1, o, hm⟩ := Yb hm
 refine a3c ent125 Y Y Y Y (b4t _ _ _ o) (a0d Y Y Y ?_)
 obtain ⟨v2, g, hm⟩ := Yb hm
 refine a1z 3 (fun a w' => w = w' ∧ Has 13 a [(0, .int .u8 c1), (8, .bool v2)]) ?_ ?_
 rintro a q ⟨rfl, k⟩
 refine a0z k (a0d Y Y Y ?_)
 obtain ⟨v3, h, hm⟩ := Yb hm
 refine a1z 3 (fun a w' => w = w' ∧ Has 13 a [(12, .bool v3)]) ?_ ?_
 rintro a s ⟨rfl, m⟩
 refine a0z m (a0b Y Y Y (a0g (a0c (a1d (a1j Y Y ?_)))))
 obtain rfl := Yo hm
 exact ⟨Y, Y⟩
 clear hm
 rcases a0f h with ⟨i, h⟩ | ⟨i, h⟩
 refine a1g 9 Y i (a0t Y (by decide) Y (a0t Y (by decide) Y (a0n Y Y Y Y (a0g (a0o (fun a ha => ?_))))))
 cases h
 exact ⟨Y, ha.cut (l := [12]) Y⟩
 refine a1g 9 Y i (a0d Y Y Y (a0u Y Y Y Y Y (a0k Y Y Y Y (a0g (a0o (fun a ha => ?_))))))
 cases h
 exact ⟨Y, ha.cut (l := [12]) Y⟩
 clear hm
 rcases a0f g with ⟨j, g⟩ | ⟨j, g⟩
 refine a1g 5 Y j (a0t Y (by decide) Y (a0t Y (by decide) Y (a0n Y Y Y Y (a0g (a0o (fun a ha => ?_))))))
 cases g
 exact ⟨Y, ha.cut (l := [0, 8]) Y⟩
 refine a1g 5 Y j (a0d Y Y Y ?_)
 obtain ⟨v4, p, g⟩ := Yb g
 refine a3c ent143 Y Y Y Y (c1q _ _ _ p) (a0k Y Y Y Y (a0g (a0o (fun a ha => ?_))))
 cases g
 exact ⟨Y, ha.cut (l := [0, 8]) Y⟩
theorem u9 : Tryz.prog.underlying 9 = some .string := by kernel_rfl
def a7g (n : Nat) (s1 : Bs) (isx1 : (Int → Option Bool)) (kont1 : Int → Option Int) : Nat → Int → Option Int
 | 0, _ => none
 | mx1 + 1, nx1 =>
  (bif decide (nx1 < (s1.length : Int)) then
   (sidx s1 nx1).bind fun c1 =>
   (isx1 c1).bind fun v2 =>
   some v2
  else
   some false).bind fun v1 =>
  bif v1 then
   a7g n s1 isx1 kont1 mx1 (iadd .i64 nx1 1)
  else
   kont1 nx1
theorem b2l (n : Nat) (s1 : Bs) (isx1 : (Int → Option Bool)) (kont1 : Int → Option Int) (mx1 : Nat) (nx1 : Int) : a7g n s1 isx1 kont1 (mx1 + 1) nx1 =
  (bif decide (nx1 < (s1.length : Int)) then
   (sidx s1 nx1).bind fun c1 =>
   (isx1 c1).bind fun v2 =>
   some v2
  else
   some false).bind fun v1 =>
  bif v1 then
   a7g n s1 isx1 kont1 mx1 (iadd .i64 nx1 1)
  else
   kont1 nx1 := rfl
def b3j (n : Nat) (s1 : Bs) (isx1 : (Int → Option Bool)) : Option Int :=
 a7g n s1 isx1 (fun (nx2 : Int) =>
  some nx2) n 0
theorem c3y (n : Nat) (s1 : Bs) (isx1 : (Int → Option Bool)) (r : Int) (hm : b3j n s1 isx1 = some r) {w : World} {fvisx1 : Value} (hpfisx1 : PFn Tryz.prog fvisx1 (fun l v => ∃ (q0 : Int) (b : Bool), l = [.int .u8 q0] ∧ v = some (.bool b) ∧ isx1 q0 = some b)) :
  Calls Tryz.prog 126 #[vs s1, fvisx1] w fun e w' => e = .returned (.int .i64 r) ∧ w' = w := by
 unfold b3j at hm
 refine a1a 20 Tryz.func126 Y Y Y (a0h (a0a (a0b Y Y Y (a0g (a0c (a0h (a0a (a0b Y Y Y (a0g (a0c (a0h (a1i ?_))))))))))))
 intro a j
 obtain ⟨kont1, hkont1⟩ : ∃ kont1 : Int → Option Int, kont1 = (fun (nx2 : Int) => some nx2) := ⟨_, Y⟩
 replace hm : (fun m (s : Int) => a7g n s1 isx1 kont1 m s) n 0 = some r := by rw [hkont1]; exact hm
 refine a5p (id := 0) (fun m (s : Int) => a7g n s1 isx1 kont1 m s) (fun (y : Int) => kont1 y) r (fun (s : Int) a w' => w = w' ∧ Has 20 a [(0, vs s1), (1, fvisx1), (5, .int .i64 s)]) (fun (y : Int) a w' => w = w' ∧ Has 20 a [(5, .int .i64 y)]) (fun _ => Y) ?_ ?_ hm ⟨Y, j.cut (l := [0, 1, 5]) Y⟩
 clear hm; rintro nx2 a u hm ⟨rfl, k⟩
 rw [hkont1] at hm
 replace hm := hm
 refine a2g (e := .exit 0) k (a1k (a0c (a0h (a0a (a0d Y Y Y (a0b Y Y Y (a0g (a0c (a1d (a1j Y Y ?_))))))))))
 obtain rfl := Yo hm
 exact ⟨Y, Y⟩
 clear hm hkont1; intro hk1 mx1 K ihx1
 rintro nx1 a x hm ⟨rfl, o⟩
 simp only [b2l] at hm
 refine a1n o (a0h (a0h (a0a (a0d Y Y Y (a0d Y Y Y (b8j u9 Y Y Y (a0u Y Y Y Y Y (a0d Y Y Y ?_))))))))
 obtain ⟨v1, g, hm⟩ := Yb hm
 refine a1z 6 (fun a w' => w = w' ∧ Has 20 a [(0, vs s1), (1, fvisx1), (5, .int .i64 nx1), (16, .bool v1)]) ?_ ?_
 rintro a z ⟨rfl, p⟩
 refine a0z p (a0g (a0c ?_))
 rcases a0f hm with ⟨h, hm⟩ | ⟨h, hm⟩
 refine a0r 16 Y h (a0y Y (a1c (a0c (a1i (a0a (a0d Y Y Y (a0u Y Y Y Y Y (a0b Y Y Y (a0g (a1q (a0o (fun a ha => ihx1 (iadd .i64 nx1 1) a _ hm ?_))))))))))))
 exact ⟨Y, ha.cut (l := [0, 1, 5]) Y⟩
 refine a0r 16 Y h (a0q Y (a3p (a0x (a0x (fun a ha => hk1 nx1 a _ hm ?_)))))
 exact ⟨Y, ha.cut (l := [5]) Y⟩
 clear hm
 rcases a0f g with ⟨i, g⟩ | ⟨i, g⟩
 refine a1g 10 Y i (a0d Y Y Y (a0d Y Y Y (a0d Y Y Y ?_)))
 obtain ⟨c1, q, g⟩ := Yb g
 refine c2h u9 Y Y Y Y q ?_
 obtain ⟨v2, t, g⟩ := Yb g
 refine d5b hpfisx1 Y Y Y Y ⟨_, _, Y, Y, t⟩ (a0n Y Y Y Y (a0g (a0o (fun a ha => ?_))))
 cases g
 exact ⟨Y, ha.cut (l := [0, 1, 5, 16]) Y⟩
 refine a1g 10 Y i (a0t Y (by decide) Y (a0t Y (by decide) Y (a0t Y (by decide) Y (a0t Y (by decide) Y (a0t Y (by decide) Y (a0k Y Y Y Y (a0g (a0o (fun a ha => ?_)))))))))
 cases g
 exact ⟨Y, ha.cut (l := [0, 1, 5, 16]) Y⟩
theorem ent127 : Ent Tryz.prog 127 := fun _ _ => by kernel_rfl
theorem pf127 : ∀ n, PFn Tryz.prog (.func (.func 127) #[] #[]) (fun l v => ∃ (q0 : Int) (b : Bool), l = [.int .u8 q0] ∧ v = some (.bool b) ∧ b0n n q0 = some b) := fun n => ⟨127, #[], #[], rfl, ent127, by
 rintro args v w ⟨q0, b, rfl, hv, hb⟩
 obtain rfl := Option.some.inj hv
 exact c1u n _ _ hb⟩
theorem ent126 : Ent Tryz.prog 126 := fun _ _ => by kernel_rfl
def a6h (n : Nat) (s1 : Bs) : Option Bool :=
 (bif !(s1 == []) then
  (sidx s1 0).bind fun c1 =>
  (a9q n c1).bind fun v5 =>
  some v5
 else
  some false).bind fun v1 =>
 (bif v1 then
  some (decide ((s1.length : Int) ≤ 20))
 else
  some false).bind fun v2 =>
 (bif v2 then
  (b3j n s1 (b0n n)).bind fun v4 =>
  some (v4 == (s1.length : Int))
 else
  some false).bind fun v3 =>
 some v3
theorem b3s (n : Nat) (s1 : Bs) (r : Bool) (hm : a6h n s1 = some r) {w : World}  :
  Calls Tryz.prog 87 #[vs s1] w fun e w' => e = .returned (.bool r) ∧ w' = w := by
 unfold a6h at hm
 refine a1a 22 Tryz.func87 Y Y Y (a0h (a0a (a0b Y Y Y (a0g (a0c (a0h (a0a (a0d Y Y Y (c6c Y Y Y Y Y (a0d Y Y Y ?_))))))))))
 obtain ⟨v1, g, hm⟩ := Yb hm
 refine a1z 4 (fun a w' => w = w' ∧ Has 22 a [(0, vs s1), (9, .bool v1)]) ?_ ?_
 rintro a v ⟨rfl, o⟩
 refine a0z o (a0d Y Y Y ?_)
 obtain ⟨v2, i, hm⟩ := Yb hm
 refine a1z 4 (fun a w' => w = w' ∧ Has 22 a [(0, vs s1), (14, .bool v2)]) ?_ ?_
 rintro a x ⟨rfl, p⟩
 refine a0z p (a0d Y Y Y ?_)
 obtain ⟨v3, h, hm⟩ := Yb hm
 refine a1z 6 (fun a w' => w = w' ∧ Has 22 a [(21, .bool v3)]) ?_ ?_
 rintro a y ⟨rfl, q⟩
 refine a0z q (a0b Y Y Y (a0g (a0c (a1d (a1j Y Y ?_)))))
 obtain rfl := Yo hm
 exact ⟨Y, Y⟩
 clear hm
 rcases a0f h with ⟨j, h⟩ | ⟨j, h⟩
 refine a1g 15 Y j (a0d Y Y Y ?_)
 obtain ⟨v4, s, h⟩ := Yb h
 refine a3c ent126 Y Y Y Y (c3y _ _ _ _ s (pf127 _)) (a0d Y Y Y (b8j u9 Y Y Y (a0u Y Y Y Y Y (a0n Y Y Y Y (a0g (a0o (fun a ha => ?_)))))))
 cases h
 exact ⟨Y, ha.cut (l := [21]) Y⟩
 refine a1g 15 Y j (a0t Y (by decide) Y (a0t Y (by decide) Y (a0t Y (by decide) Y (a0t Y (by decide) Y (a0t Y (by decide) Y (a0k Y Y Y Y (a0g (a0o (fun a ha => ?_)))))))))
 cases h
 exact ⟨Y, ha.cut (l := [21]) Y⟩
 clear hm
 rcases a0f i with ⟨k, i⟩ | ⟨k, i⟩
 refine a1g 10 Y k (a0d Y Y Y (b8j u9 Y Y Y (a0u Y Y Y Y Y (a0n Y Y Y Y (a0g (a0o (fun a ha => ?_)))))))
 cases i
 exact ⟨Y, ha.cut (l := [0, 14]) Y⟩
 refine a1g 10 Y k (a0t Y (by decide) Y (a0t Y (by decide) Y (a0t Y (by decide) Y (a0k Y Y Y Y (a0g (a0o (fun a ha => ?_)))))))
 cases i
 exact ⟨Y, ha.cut (l := [0, 14]) Y⟩
 clear hm
 rcases a0f g with ⟨m, g⟩ | ⟨m, g⟩
 refine a1g 5 Y m (a0d Y Y Y ?_)
 obtain ⟨c1, t, g⟩ := Yb g
 refine c2h u9 Y Y Y Y t ?_
 obtain ⟨v5, u, g⟩ := Yb g
 refine a3c ent125 Y Y Y Y (b4t _ _ _ u) (a0n Y Y Y Y (a0g (a0o (fun a ha => ?_))))
 cases g
 exact ⟨Y, ha.cut (l := [0, 9]) Y⟩
 refine a1g 5 Y m (a0t Y (by decide) Y (a0t Y (by decide) Y (a0t Y (by decide) Y (a0k Y Y Y Y (a0g (a0o (fun a ha => ?_)))))))
 cases g
 exact ⟨Y, ha.cut (l := [0, 9]) Y⟩
theorem u28 : Tryz.prog.underlying 28 = some (.slice 3) := by kernel_rfl
theorem sz3 : a5q Tryz.prog 3 1 := fun _ => by kernel_rfl
theorem ag3 : b0r Tryz.prog 3 false := fun _ => by kernel_rfl
def a7b (n : Nat) (l1 : (List Int)) (kont1 : Int → Option (List Int)) : Nat → Int → Option (List Int)
 | 0, _ => none
 | mx1 + 1, nx1 =>
  (bif decide (0 < nx1) then
   (ix l1 (isub .i64 nx1 1)).bind fun ex1 =>
   some (ex1 == 0)
  else
   some false).bind fun v1 =>
  bif v1 then
   a7b n l1 kont1 mx1 (isub .i64 nx1 1)
  else
   kont1 nx1
theorem b0a (n : Nat) (l1 : (List Int)) (kont1 : Int → Option (List Int)) (mx1 : Nat) (nx1 : Int) : a7b n l1 kont1 (mx1 + 1) nx1 =
  (bif decide (0 < nx1) then
   (ix l1 (isub .i64 nx1 1)).bind fun ex1 =>
   some (ex1 == 0)
  else
   some false).bind fun v1 =>
  bif v1 then
   a7b n l1 kont1 mx1 (isub .i64 nx1 1)
  else
   kont1 nx1 := rfl
def a3x (n : Nat) (l1 : (List Int)) : Option (List Int) :=
 a7b n l1 (fun (nx2 : Int) =>
  (lsl l1 0 nx2).bind fun l2 =>
  some l2) n (l1.length : Int)
theorem a7r (n : Nat) (l1 : (List Int)) (r : (List Int)) (hm : a3x n l1 = some r) {w : World} {F : Frz} (hs : Sat F w) {k : Option Addr} {o : Nat} {g : Nat} (p : SlR (Rp.int .i64) F k o g l1) :
  Calls Tryz.prog 121 #[.slice k o g] w fun e w' => ∃ m', e = .returned (.slice k m' g) ∧ w' = w ∧ m' ≤ o ∧ r = l1.take m' := by
 unfold a3x at hm
 have h := HS.init hs
 refine a1a 21 Tryz.func121 Y Y Y (a0h (a0a (a0b Y Y Y (a0g (a0c (a0h (a0a (a0d Y Y Y (a1x p.len u28 Y Y Y (a0b Y Y Y (a0g (a0c (a0h (a1i ?_))))))))))))))
 intro a u
 obtain ⟨kont1, hkont1⟩ : ∃ kont1 : Int → Option (List Int), kont1 = (fun (nx2 : Int) => (lsl l1 0 nx2).bind fun l2 => some l2) := ⟨_, Y⟩
 replace hm : (fun m (s : Int) => a7b n l1 kont1 m s) n (l1.length : Int) = some r := by rw [hkont1]; exact hm
 refine a5p (id := 0) (fun m (s : Int) => a7b n l1 kont1 m s) (fun (y : Int) => kont1 y) r (fun (s : Int) a w' => w = w' ∧ Has 21 a [(0, .slice k o g), (3, .int .i64 s)]) (fun (y : Int) a w' => w = w' ∧ Has 21 a [(0, .slice k o g), (3, .int .i64 y)]) (fun _ => Y) ?_ ?_ hm ⟨Y, u.cut (l := [0, 3]) Y⟩
 clear hm; rintro nx2 a M hm ⟨rfl, v⟩
 rw [hkont1] at hm
 replace hm := hm
 refine a2g (e := .exit 0) v (a1k (a0c (a0h (a0a (a0d Y Y Y (a0d Y Y Y ?_))))))
 obtain ⟨l2, G, hm⟩ := Yb hm
 refine d5q u28 (r := (Rp.int .i64)) sz3 Y Y Y Y p G ?_
 intro N hvs2 hns2
 refine a0b Y Y Y (a0g (a0c (a1d (a1j Y Y ?_))))
 obtain rfl := Yo hm
 exact ⟨_, Y, Y, hns2, hvs2⟩
 clear hm hkont1; intro hk1 mx1 K ihx1
 rintro nx1 a Q hm ⟨rfl, x⟩
 simp only [b0a] at hm
 refine a1n x (a0h (a0h (a0a (a0d Y Y Y (a0u Y Y Y Y Y (a0d Y Y Y ?_))))))
 obtain ⟨v1, i, hm⟩ := Yb hm
 refine a1z 7 (fun a w' => w = w' ∧ Has 21 a [(0, .slice k o g), (3, .int .i64 nx1), (15, .bool v1)]) ?_ ?_
 rintro a R ⟨rfl, z⟩
 refine a0z z (a0g (a0c ?_))
 rcases a0f hm with ⟨q, hm⟩ | ⟨q, hm⟩
 refine a0r 15 Y q (a0y Y (a1c (a0c (a1i (a0a (a0d Y Y Y (a0u Y Y Y Y Y (a0b Y Y Y (a0g (a1q (a0o (fun a ha => ihx1 (isub .i64 nx1 1) a _ hm ?_))))))))))))
 exact ⟨Y, ha.cut (l := [0, 3]) Y⟩
 refine a0r 15 Y q (a0q Y (a3p (a0x (a0x (fun a ha => hk1 nx1 a _ hm ?_)))))
 exact ⟨Y, ha.cut (l := [0, 3]) Y⟩
 clear hm
 rcases a0f i with ⟨t, i⟩ | ⟨t, i⟩
 refine a1g 8 Y t (a0d Y Y Y (a0d Y Y Y (a0u Y Y Y Y Y ?_)))
 obtain ⟨ex1, H, i⟩ := Yb i
 refine a2e (r := (Rp.int .i64)) u28 sz3 Y Y Y Y p H ?_
 intro b1 o1 g I J
 have L : g = [.int .i64 ex1] := J
 subst L
 refine a1s (j := 0) ag3 Y Y h I Y Y (a0u Y Y Y Y Y (a0n Y Y Y Y (a0g (a0o (fun a ha => ?_)))))
 cases i
 exact ⟨Y, ha.cut (l := [0, 3, 15]) Y⟩
 refine a1g 8 Y t (a0t Y (by decide) Y (a0t Y (by decide) Y (a0t Y (by decide) Y (a0t Y (by decide) Y (a0t Y (by decide) Y (a0t Y (by decide) Y (a0k Y Y Y Y (a0g (a0o (fun a ha => ?_))))))))))
 cases i
 exact ⟨Y, ha.cut (l := [0, 3, 15]) Y⟩
structure Big where
 Sign : Int
 Digits : (List Int)
 deriving DecidableEq, Inhabited
def rp_Big : Rp Big where
 k := 2
 R := fun F cs x => ∃ (a1 : Option Addr) (n1 : Nat) (c1 : Nat), cs = [.int .i64 x.Sign, .slice a1 n1 c1] ∧ SlR (Rp.int .i64) F a1 n1 c1 x.Digits
 len := by rintro F cs x ⟨a1, n1, c1, h, _⟩; simp [h]
 mono := by rintro F F' cs x hF ⟨a1, n1, c1, h, h0⟩; exact ⟨a1, n1, c1, h, h0.mono hF⟩
 one := by rintro F cs x ⟨a1, n1, c1, h, _⟩ u hu; subst h; simp at hu; rcases hu with rfl | rfl <;> rfl
theorem ze35 : c2f Tryz.prog 35 (.agg #[.int .i64 0, .slice none 0 0]) := fun _ => by kernel_rfl
theorem ent121 : Ent Tryz.prog 121 := fun _ _ => by kernel_rfl
theorem sz35 : a5q Tryz.prog 35 2 := fun _ => by kernel_rfl
theorem ag35 : b0r Tryz.prog 35 true := fun _ => by kernel_rfl
def a3u (n : Nat) (sign1 : Int) (l1 : (List Int)) : Option Big :=
 (a3x n l1).bind fun v1 =>
 bif (v1.length : Int) == 0 then
  some (⟨0, []⟩ : Big)
 else
  some (⟨sign1, v1⟩ : Big)
theorem a4p (n : Nat) (sign1 : Int) (l1 : (List Int)) (r : Big) (hm : a3u n sign1 l1 = some r) {w : World} {F : Frz} (hs : Sat F w) {g : Option Addr} {o : Nat} {j : Nat} (k : SlR (Rp.int .i64) F g o j l1) :
  Calls Tryz.prog 82 #[.int .i64 sign1, .slice g o j] w fun e w' => ∃ v F' O', e = .returned v ∧ HS F w [] F' O' w' ∧ (∃ (a0_1 : Option Addr) (n0_1 : Nat) (c0_1 : Nat), v = .agg #[.int .i64 r.Sign, .slice a0_1 n0_1 c0_1] ∧ O' = [] ∧ SlR (Rp.int .i64) F' a0_1 n0_1 c0_1 r.Digits) := by
 unfold a3u at hm
 have h := HS.init hs
 refine a1a 14 Tryz.func82 Y Y Y (a0h (a0a (a1f ze35 Y Y Y h ?_)))
 intro b1 u l
 refine a0g (a0c (a0h (a0a (a0d Y Y Y ?_))))
 obtain ⟨v1, t, hm⟩ := Yb hm
 refine b4p ent121 Y Y Y Y (a7r _ _ _ t l.sat k) ?_
 intro p hles2 hvs2
 refine a0b Y Y Y (a0g (a0c (a0h (a0h (a0a (a0d Y Y Y (a1x ((SlR.takeN k hles2 hvs2).len) u28 Y Y Y (a0u Y Y Y Y Y (a0g (a0c ?_))))))))))
 rcases a0f hm with ⟨m, hm⟩ | ⟨m, hm⟩
 refine a0r 9 Y m (a0y Y (a0h (a0a (a1y (v := .agg #[.int .i64 0, .slice none 0 0]) Y Y Y (fun _ => by kernel_rfl) (a0s sz35 Y l Y Y Y Y (i := 0) Y Y Y Y ?_)))))
 intro x q
 refine a0g (a0c (a1d (a0j (a3y Y ag35 sz35 Y q Y (i := 0) Y ?_))))
 obtain rfl := Yo hm
 exact ⟨_, _, _, Y, q.Yp [] Y Y, none, 0, 0, Y, Y, SlR.nil _ _⟩
 refine a0r 9 Y m (a0q Y (a1c (a0c (a0h (a0a (a0d Y Y Y (a0d Y Y Y (a1y (v := .agg #[.int .i64 sign1, .slice g p j]) Y Y Y (fun _ => by kernel_rfl) (a0s sz35 Y l Y Y Y Y (i := 0) Y Y Y Y ?_)))))))))
 intro y s
 refine a0g (a0c (a1d (a3y Y ag35 sz35 Y s Y (i := 0) Y ?_)))
 obtain rfl := Yo hm
 exact ⟨_, _, _, Y, s.Yp [] Y Y, g, p, j, Y, Y, ((SlR.takeN k hles2 hvs2))⟩
theorem fa35_1 : a6u Tryz.prog 35 1 1 := fun _ _ _ => by kernel_rfl
theorem ag28 : b0r Tryz.prog 28 false := fun _ => by kernel_rfl
theorem fa35_0 : a6u Tryz.prog 35 0 0 := fun _ _ _ => by kernel_rfl
def a8d (n : Nat) (ax1 : Big) (kont1 : Option Bool) : Nat → Int → Option Bool
 | 0, _ => none
 | mx1 + 1, i1 =>
  bif decide (i1 < (ax1.Digits.length : Int)) then
   (ix ax1.Digits i1).bind fun ex2 =>
   (bif decide (ex2 < 0) then
    some true
   else
    some (decide (1048575 < ex2))).bind fun v3 =>
   bif v3 then
    some false
   else
    a8d n ax1 kont1 mx1 (iadd .i64 i1 1)
  else
   kont1
theorem b3c (n : Nat) (ax1 : Big) (kont1 : Option Bool) (mx1 : Nat) (i1 : Int) : a8d n ax1 kont1 (mx1 + 1) i1 =
  bif decide (i1 < (ax1.Digits.length : Int)) then
   (ix ax1.Digits i1).bind fun ex2 =>
   (bif decide (ex2 < 0) then
    some true
   else
    some (decide (1048575 < ex2))).bind fun v3 =>
   bif v3 then
    some false
   else
    a8d n ax1 kont1 mx1 (iadd .i64 i1 1)
  else
   kont1 := rfl
def a4d (n : Nat) (ax1 : Big) : Option Bool :=
 a8d n ax1 (
  bif (ax1.Digits.length : Int) == 0 then
   some (ax1.Sign == 0)
  else
   (bif ax1.Sign == 1 then
    some true
   else
    some (ax1.Sign == (-1))).bind fun v1 =>
   (bif v1 then
    (ix ax1.Digits (isub .i64 (ax1.Digits.length : Int) 1)).bind fun ex1 =>
    some (ex1 != 0)
   else
    some false).bind fun v2 =>
   some v2) n 0
theorem a3o (n : Nat) (ax1 : Big) (r : Bool) (hm : a4d n ax1 = some r) {w : World} {F : Frz} (hs : Sat F w) {u : Option Addr} {x : Nat} {o : Nat} (z : SlR (Rp.int .i64) F u x o ax1.Digits) :
  Calls Tryz.prog 44 #[.agg #[.int .i64 ax1.Sign, .slice u x o]] w fun e w' => ∃ v F' O', e = .returned v ∧ HS F w [] F' O' w' ∧ (v = .bool r ∧ O' = []) := by
 unfold a4d at hm
 have h := HS.init hs
 refine a1a 45 Tryz.func44 Y Y Y (a0h (a0a (a2i Y Y Y Y h ?_)))
 intro b1 p g
 refine a0b Y Y Y (a0g (a0c (a0h (a0a (a0e fa35_1 Y Y Y (a0p ag28 Y Y g Y (i := 0) Y Y (a1x z.len u28 Y Y Y (a0b Y Y Y (a0g (a0c (a0h (a0h (a0a (a0e fa35_1 Y Y Y (a0p ag28 Y Y g Y (i := 0) Y Y ?_)))))))))))))))
 refine a1x z.len u28 Y Y Y (a0d Y Y Y (a0g (a0c (a1i ?_))))
 intro a N
 obtain ⟨kont1, hkont1⟩ : ∃ kont1 : Option Bool, kont1 = ( bif (ax1.Digits.length : Int) == 0 then some (ax1.Sign == 0) else (bif ax1.Sign == 1 then some true else some (ax1.Sign == (-1))).bind fun v1 => (bif v1 then (ix ax1.Digits (isub .i64 (ax1.Digits.length : Int) 1)).bind fun ex1 => some (ex1 != 0) else some false).bind fun v2 => some v2) := ⟨_, Y⟩
 replace hm : (fun m (s : Int) => a8d n ax1 kont1 m s) n 0 = some r := by rw [hkont1]; exact hm
 refine a5p (id := 0) (fun m (s : Int) => a8d n ax1 kont1 m s) (fun (y : Unit) => kont1) r (fun (s : Int) a w' => p = w' ∧ Has 45 a [(1, .pointer (some ⟨b1, 0, none⟩)), (3, .int .i64 (ax1.Digits.length : Int)), (10, .slice u x o), (11, .int .i64 (ax1.Digits.length : Int)), (12, .int .i64 s)]) (fun (y : Unit) a w' => p = w' ∧ Has 45 a [(1, .pointer (some ⟨b1, 0, none⟩)), (3, .int .i64 (ax1.Digits.length : Int))]) (fun _ => Y) ?_ ?_ hm ⟨Y, N.cut (l := [1, 3, 10, 11, 12]) Y⟩
 clear hm; rintro _u a g8 hm ⟨rfl, Q⟩
 rw [hkont1] at hm
 refine a2g (e := .exit 0) Q (a1k (a0c (a0h (a0h (a0a (a0d Y Y Y (a0u Y Y Y Y Y (a0g (a0c ?_)))))))))
 rcases a0f hm with ⟨G, hm⟩ | ⟨G, hm⟩
 refine a0r 24 Y G (a0y Y (a0h (a0a (a0e fa35_0 Y Y Y (a0p ag3 Y Y g Y (i := 0) Y Y (a0u Y Y Y Y Y (a0b Y Y Y (a0g (a0c (a1d (a0j (a1j Y Y ?_))))))))))))
 obtain rfl := Yo hm
 exact ⟨_, _, _, Y, g.Yp [] Y Y, Y, Y⟩
 refine a0r 24 Y G (a0q Y (a1c (a0c (a0h (a0a (a0e fa35_0 Y Y Y (a0p ag3 Y Y g Y (i := 0) Y Y (a0u Y Y Y Y Y (a0d Y Y Y ?_)))))))))
 obtain ⟨v1, q, hm⟩ := Yb hm
 refine a1z 4 (fun a w' => p = w' ∧ Has 45 a [(1, .pointer (some ⟨b1, 0, none⟩)), (3, .int .i64 (ax1.Digits.length : Int)), (35, .bool v1)]) ?_ ?_
 rintro a g9 ⟨rfl, R⟩
 refine a0z R (a0d Y Y Y ?_)
 obtain ⟨v2, k, hm⟩ := Yb hm
 refine a1z 8 (fun a w' => p = w' ∧ Has 45 a [(44, .bool v2)]) ?_ ?_
 rintro a ga ⟨rfl, T⟩
 refine a0z T (a0b Y Y Y (a0g (a0c (a1d (a1j Y Y ?_)))))
 obtain rfl := Yo hm
 exact ⟨_, _, _, Y, g.Yp [] Y Y, Y, Y⟩
 clear hm
 rcases a0f k with ⟨H, k⟩ | ⟨H, k⟩
 refine a1g 36 Y H (a0e fa35_1 Y Y Y (a0p ag28 Y Y g Y (i := 0) Y Y (a0d Y Y Y (a0u Y Y Y Y Y ?_))))
 obtain ⟨ex1, Z, k⟩ := Yb k
 refine a2e (r := (Rp.int .i64)) u28 sz3 Y Y Y Y z Z ?_
 intro b2 o1 o g0 g1
 have g2 : o = [.int .i64 ex1] := g1
 subst g2
 refine a1s (j := 0) ag3 Y Y g g0 Y Y (a0u Y Y Y Y Y (a0n Y Y Y Y (a0g (a0o (fun a ha => ?_)))))
 cases k
 exact ⟨Y, ha.cut (l := [44]) Y⟩
 refine a1g 36 Y H (a0t Y (by decide) Y (a0t Y (by decide) Y (a0t Y (by decide) Y (a0t Y (by decide) Y (a0t Y (by decide) Y (a0t Y (by decide) Y (a0t Y (by decide) Y (a0k Y Y Y Y (a0g (a0o (fun a ha => ?_)))))))))))
 cases k
 exact ⟨Y, ha.cut (l := [44]) Y⟩
 clear hm
 rcases a0f q with ⟨I, q⟩ | ⟨I, q⟩
 refine a1g 31 Y I (a0t Y (by decide) Y (a0t Y (by decide) Y (a0t Y (by decide) Y (a0n Y Y Y Y (a0g (a0o (fun a ha => ?_)))))))
 cases q
 exact ⟨Y, ha.cut (l := [1, 3, 35]) Y⟩
 refine a1g 31 Y I (a0e fa35_0 Y Y Y (a0p ag3 Y Y g Y (i := 0) Y Y (a0u Y Y Y Y Y (a0k Y Y Y Y (a0g (a0o (fun a ha => ?_)))))))
 cases q
 exact ⟨Y, ha.cut (l := [1, 3, 35]) Y⟩
 clear hm hkont1; intro hk1 mx1 K ihx1
 rintro i1 a gb hm ⟨rfl, U⟩
 simp only [b3c] at hm
 refine a1n U (a0h (a0a (a0u Y Y Y Y Y (a0g (a0c (a0h ?_))))))
 rcases a0f hm with ⟨J, hm⟩ | ⟨J, hm⟩
 refine a0r 13 Y J (a0y Y (a1c (a0c (a0h (a1i (a0h (a0a ?_)))))))
 obtain ⟨ex2, g3, hm⟩ := Yb hm
 refine a2e (r := (Rp.int .i64)) u28 sz3 Y Y Y Y z g3 ?_
 intro b3 o2 g4 g5 g6
 have g7 : g4 = [.int .i64 ex2] := g6
 subst g7
 refine a1s (j := 0) ag3 Y Y g g5 Y Y (a0b Y Y Y (a0g (a0c (a0h (a0a (a0d Y Y Y (a0u Y Y Y Y Y (a0d Y Y Y ?_))))))))
 obtain ⟨v3, t, hm⟩ := Yb hm
 refine a1z 3 (fun a w' => p = w' ∧ Has 45 a [(1, .pointer (some ⟨b1, 0, none⟩)), (3, .int .i64 (ax1.Digits.length : Int)), (10, .slice u x o), (11, .int .i64 (ax1.Digits.length : Int)), (12, .int .i64 i1), (21, .bool v3)]) ?_ ?_
 rintro a gc ⟨rfl, V⟩
 refine a0z V (a0g (a0c ?_))
 rcases a0f hm with ⟨L, hm⟩ | ⟨L, hm⟩
 refine a0r 21 Y L (a0y Y (a0h (a0a (a0b Y Y Y (a0g (a0c (a1d (a0v (a0j (a0j (a0v (a0j (a1j Y Y ?_)))))))))))))
 obtain rfl := Yo hm
 exact ⟨_, _, _, Y, g.Yp [] Y Y, Y, Y⟩
 refine a0r 21 Y L (a0q Y (a1c (a1q (a0c (a0a (a0u Y Y Y Y Y (a0d Y Y Y (a0g (a0o (fun a ha => ihx1 (iadd .i64 i1 1) a _ hm ?_))))))))))
 exact ⟨Y, ha.cut (l := [1, 3, 10, 11, 12]) Y⟩
 clear hm
 rcases a0f t with ⟨M, t⟩ | ⟨M, t⟩
 refine a1g 18 Y M (a0t Y (by decide) Y (a0t Y (by decide) Y (a0n Y Y Y Y (a0g (a0o (fun a ha => ?_))))))
 cases t
 exact ⟨Y, ha.cut (l := [1, 3, 10, 11, 12, 21]) Y⟩
 refine a1g 18 Y M (a0d Y Y Y (a0u Y Y Y Y Y (a0k Y Y Y Y (a0g (a0o (fun a ha => ?_))))))
 cases t
 exact ⟨Y, ha.cut (l := [1, 3, 10, 11, 12, 21]) Y⟩
 refine a0r 13 Y J (a0q Y (a3p (a0x (a0x (fun a ha => hk1 () a _ hm ?_)))))
 exact ⟨Y, ha.cut (l := [1, 3]) Y⟩
def b0h (_n : Nat) (x1 : Int) : Option Bool :=
 some (x1 != x1)
theorem b4i (n : Nat) (x1 : Int) (r : Bool) (hm : b0h n x1 = some r) {w : World}  :
  Calls Tryz.prog 124 #[.int .i64 x1] w fun e w' => e = .returned (.bool r) ∧ w' = w := by
 unfold b0h at hm
 refine a1a 6 Tryz.func124 Y Y Y (a0h (a0a (a0b Y Y Y (a0g (a0c (a0h (a0a (a0d Y Y Y (a0d Y Y Y (a0u Y Y Y Y Y (a0b Y Y Y (a0g (a0c (a1d (a1j Y Y ?_)))))))))))))))
 obtain rfl := Yo hm
 exact ⟨Y, Y⟩
theorem ent124 : Ent Tryz.prog 124 := fun _ _ => by kernel_rfl
def a5h (n : Nat) (x1 : Int) (y1 : Int) : Option Int :=
 (b0h n x1).bind fun v1 =>
 (b0h n y1).bind fun v2 =>
 bif v1 then
  bif v2 then
   some 0
  else
   some (-1)
 else
  bif v2 then
   some 1
  else
   bif decide (x1 < y1) then
    some (-1)
   else
    bif decide (y1 < x1) then
     some 1
    else
     some 0
theorem a9x (n : Nat) (x1 : Int) (y1 : Int) (r : Int) (hm : a5h n x1 y1 = some r) {w : World}  :
  Calls Tryz.prog 84 #[.int .i64 x1, .int .i64 y1] w fun e w' => e = .returned (.int .i64 r) ∧ w' = w := by
 unfold a5h at hm
 refine a1a 20 Tryz.func84 Y Y Y (a0h (a0a (a0b Y Y Y (a0g (a0c (a0h (a0a (a0d Y Y Y ?_))))))))
 obtain ⟨v1, l, hm⟩ := Yb hm
 refine a3c ent124 Y Y Y Y (b4i _ _ _ l) (a0b Y Y Y (a0g (a0c (a0h (a0a (a0d Y Y Y ?_))))))
 obtain ⟨v2, m, hm⟩ := Yb hm
 refine a3c ent124 Y Y Y Y (b4i _ _ _ m) (a0b Y Y Y (a0g (a0c (a0h (a0h (a0a (a0d Y Y Y (a0g (a0c ?_)))))))))
 rcases a0f hm with ⟨g, hm⟩ | ⟨g, hm⟩
 refine a0r 11 Y g (a0y Y (a0h (a0h (a0a (a0d Y Y Y (a0g (a0c ?_)))))))
 rcases a0f hm with ⟨h, hm⟩ | ⟨h, hm⟩
 refine a0r 12 Y h (a0y Y (a0h (a0a (a0b Y Y Y (a0g (a0c (a1d (a0j (a0j (a1j Y Y ?_))))))))))
 obtain rfl := Yo hm
 exact ⟨Y, Y⟩
 refine a0r 12 Y h (a0q Y (a1c (a0c (a0h (a0a (a0b Y Y Y (a0g (a0c (a1d (a0j (a1j Y Y ?_)))))))))))
 obtain rfl := Yo hm
 exact ⟨Y, Y⟩
 refine a0r 11 Y g (a0q Y (a1c (a0c (a0h (a0h (a0a (a0d Y Y Y (a0g (a0c ?_)))))))))
 rcases a0f hm with ⟨i, hm⟩ | ⟨i, hm⟩
 refine a0r 13 Y i (a0y Y (a0h (a0a (a0b Y Y Y (a0g (a0c (a1d (a0j (a1j Y Y ?_)))))))))
 obtain rfl := Yo hm
 exact ⟨Y, Y⟩
 refine a0r 13 Y i (a0q Y (a1c (a0c (a0h (a0h (a0a (a0d Y Y Y (a0d Y Y Y (a0u Y Y Y Y Y (a0g (a0c ?_)))))))))))
 rcases a0f hm with ⟨j, hm⟩ | ⟨j, hm⟩
 refine a0r 16 Y j (a0y Y (a0h (a0a (a0b Y Y Y (a0g (a0c (a1d (a0j (a1j Y Y ?_)))))))))
 obtain rfl := Yo hm
 exact ⟨Y, Y⟩
 refine a0r 16 Y j (a0q Y (a1c (a0c (a0h (a0h (a0a (a0d Y Y Y (a0d Y Y Y (a0u Y Y Y Y Y (a0g (a0c ?_)))))))))))
 rcases a0f hm with ⟨k, hm⟩ | ⟨k, hm⟩
 refine a0r 19 Y k (a0y Y (a0h (a0a (a0b Y Y Y (a0g (a0c (a1d (a0j (a1j Y Y ?_)))))))))
 obtain rfl := Yo hm
 exact ⟨Y, Y⟩
 refine a0r 19 Y k (a0q Y (a1c (a0c (a0h (a0a (a0b Y Y Y (a0g (a0c (a1d (a1j Y Y ?_))))))))))
 obtain rfl := Yo hm
 exact ⟨Y, Y⟩
theorem ent84 : Ent Tryz.prog 84 := fun _ _ => by kernel_rfl
def a6q (n : Nat) (ax1 : (List Int)) (b1 : (List Int)) (kont1 : Option Int) : Nat → Int → Option Int
 | 0, _ => none
 | mx1 + 1, i1 =>
  bif decide (0 ≤ i1) then
   (ix ax1 i1).bind fun ex1 =>
   (ix b1 i1).bind fun ex2 =>
   bif ex1 != ex2 then
    (ix ax1 i1).bind fun ex3 =>
    (ix b1 i1).bind fun ex4 =>
    (a5h n ex3 ex4).bind fun v2 =>
    some v2
   else
    a6q n ax1 b1 kont1 mx1 (isub .i64 i1 1)
  else
   kont1
theorem b1o (n : Nat) (ax1 : (List Int)) (b1 : (List Int)) (kont1 : Option Int) (mx1 : Nat) (i1 : Int) : a6q n ax1 b1 kont1 (mx1 + 1) i1 =
  bif decide (0 ≤ i1) then
   (ix ax1 i1).bind fun ex1 =>
   (ix b1 i1).bind fun ex2 =>
   bif ex1 != ex2 then
    (ix ax1 i1).bind fun ex3 =>
    (ix b1 i1).bind fun ex4 =>
    (a5h n ex3 ex4).bind fun v2 =>
    some v2
   else
    a6q n ax1 b1 kont1 mx1 (isub .i64 i1 1)
  else
   kont1 := rfl
def a7q (n : Nat) (ax1 : (List Int)) (b1 : (List Int)) : Option Int :=
 bif (ax1.length : Int) != (b1.length : Int) then
  (a5h n (ax1.length : Int) (b1.length : Int)).bind fun v1 =>
  some v1
 else
  a6q n ax1 b1 (
   some 0) n (isub .i64 (ax1.length : Int) 1)
theorem b3b (n : Nat) (ax1 : (List Int)) (b1 : (List Int)) (r : Int) (hm : a7q n ax1 b1 = some r) {w : World} {F : Frz} (hs : Sat F w) {q t : Option Addr} {u i x k : Nat} (o : SlR (Rp.int .i64) F q u i ax1) (p : SlR (Rp.int .i64) F t x k b1) :
  Calls Tryz.prog 85 #[.slice q u i, .slice t x k] w fun e w' => ∃ v F' O', e = .returned v ∧ HS F w [] F' O' w' ∧ (v = .int .i64 r ∧ O' = []) := by
 unfold a7q at hm
 have h := HS.init hs
 refine a1a 41 Tryz.func85 Y Y Y (a0h (a0a (a0b Y Y Y (a0g (a0c (a0h (a0h (a0a (a0d Y Y Y (a1x o.len u28 Y Y Y (a0d Y Y Y (a1x p.len u28 Y Y Y (a0u Y Y Y Y Y (a0g (a0c ?_)))))))))))))))
 rcases a0f hm with ⟨z, hm⟩ | ⟨z, hm⟩
 refine a0r 10 Y z (a0y Y (a0h (a0a (a0d Y Y Y (a1x o.len u28 Y Y Y (a0d Y Y Y (a1x p.len u28 Y Y Y ?_)))))))
 obtain ⟨v1, g1, hm⟩ := Yb hm
 refine a3c ent84 Y Y Y Y (a9x _ _ _ _ g1) (a0b Y Y Y (a0g (a0c (a1d (a0j (a1j Y Y ?_))))))
 obtain rfl := Yo hm
 exact ⟨_, _, _, Y, h.Yp [] Y Y, Y, Y⟩
 refine a0r 10 Y z (a0q Y (a1c (a0c (a0h (a0h (a0a (a0d Y Y Y (a1x o.len u28 Y Y Y (a0u Y Y Y Y Y (a0b Y Y Y (a0g (a0c (a1i ?_)))))))))))))
 intro a V
 obtain ⟨kont1, hkont1⟩ : ∃ kont1 : Option Int, kont1 = ( some 0) := ⟨_, Y⟩
 replace hm : (fun m (s : Int) => a6q n ax1 b1 kont1 m s) n (isub .i64 (ax1.length : Int) 1) = some r := by rw [hkont1]; exact hm
 refine a5p (id := 0) (fun m (s : Int) => a6q n ax1 b1 kont1 m s) (fun (y : Unit) => kont1) r (fun (s : Int) a w' => ∃ (G : Frz), Frz.le F G ∧ HS F w [] G [] w' ∧ Has 41 a [(0, .slice q u i), (1, .slice t x k), (5, .int .i64 s)]) (fun (y : Unit) a w' => ∃ (H : Frz), Frz.le F H ∧ HS F w [] H [] w' ∧ Has 41 a []) (fun _ => Y) ?_ ?_ hm ⟨_, Yf, h.Yp [] Y Y, V.cut (l := [0, 1, 5]) Y⟩
 clear hm; rintro _u a gn hm ⟨H, go, g2, Z⟩
 rw [hkont1] at hm
 refine a2g (e := .exit 0) Z (a1k (a0c (a0h (a0a (a0b Y Y Y (a0g (a0c (a1d (a1j Y Y ?_)))))))))
 obtain rfl := Yo hm
 exact ⟨_, _, _, Y, g2.Yp [] Y Y, Y, Y⟩
 clear hm hkont1; intro hk1 mx1 K ihx1
 rintro i1 a gp hm ⟨G, g, T, g0⟩
 simp only [b1o] at hm
 refine a1n g0 (a0h (a0h (a0a (a0d Y Y Y (a0u Y Y Y Y Y (a0g (a0c ?_)))))))
 rcases a0f hm with ⟨I, hm⟩ | ⟨I, hm⟩
 refine a0r 20 Y I (a0y Y (a1c (a0c (a0h (a1i (a0h (a3j (by kernel_rfl) (by kernel_rfl) T (a1e Y Y Y Y (fun _ _ _ _ => a0d Y Y Y Yn) (a1e Y Y Y Y (fun _ _ _ _ => a0d Y Y Y Yn) ?_)))))))))
 obtain ⟨ex1, g3, hm⟩ := Yb hm
 obtain ⟨b2, o1, i, g4, g5, M⟩ := a2j (P := Tryz.prog) (r := (Rp.int .i64)) u28 sz3 (o.mono g) g3
 have g6 : i = [.int .i64 ex1] := g5
 subst g6
 refine a2o Y Y Y Y M (a1e Y Y Y Y (fun _ _ hleq hq => a1s (j := 0) ag3 Y Y hq (g4.mono hleq) Y Y Yn) (a1e Y Y Y Y (fun _ _ _ _ => a0d Y Y Y Yn) (a1e Y Y Y Y (fun _ _ _ _ => a0d Y Y Y Yn) ?_)))
 obtain ⟨ex2, g7, hm⟩ := Yb hm
 obtain ⟨b3, o2, k, g8, g9, N⟩ := a2j (P := Tryz.prog) (r := (Rp.int .i64)) u28 sz3 (p.mono g) g7
 have ga : k = [.int .i64 ex2] := g9
 subst ga
 refine a2o Y Y Y Y N (a1e Y Y Y Y (fun _ _ hleq hq => a1s (j := 0) ag3 Y Y hq (g8.mono hleq) Y Y Yn) (a1e Y Y Y Y (fun _ _ _ _ => a0u Y Y Y Y Y Yn) (b0t ?_)))
 rintro gq ⟨gr, J, U⟩
 refine a0c ?_
 rcases a0f hm with ⟨L, hm⟩ | ⟨L, hm⟩
 refine a0r 31 Y L (a0y Y (a0h (a3j (by kernel_rfl) (by kernel_rfl) U (a1e Y Y Y Y (fun _ _ _ _ => a0d Y Y Y Yn) (a1e Y Y Y Y (fun _ _ _ _ => a0d Y Y Y Yn) ?_)))))
 obtain ⟨ex3, gb, hm⟩ := Yb hm
 obtain ⟨b4, o3, gc, gd, ge, Q⟩ := a2j (P := Tryz.prog) (r := (Rp.int .i64)) u28 sz3 ((o.mono g).mono J) gb
 have gf : gc = [.int .i64 ex3] := ge
 subst gf
 refine a2o Y Y Y Y Q (a1e Y Y Y Y (fun _ _ hleq hq => a1s (j := 0) ag3 Y Y hq (gd.mono hleq) Y Y Yn) (a1e Y Y Y Y (fun _ _ _ _ => a0d Y Y Y Yn) (a1e Y Y Y Y (fun _ _ _ _ => a0d Y Y Y Yn) ?_)))
 obtain ⟨ex4, gg, hm⟩ := Yb hm
 obtain ⟨b5, o4, gh, gi, gj, R⟩ := a2j (P := Tryz.prog) (r := (Rp.int .i64)) u28 sz3 ((p.mono g).mono J) gg
 have gk : gh = [.int .i64 ex4] := gj
 subst gk
 refine a2o Y Y Y Y R (a1e Y Y Y Y (fun _ _ hleq hq => a1s (j := 0) ag3 Y Y hq (gi.mono hleq) Y Y Yn) ?_)
 obtain ⟨v2, gl, hm⟩ := Yb hm
 refine a9c ent84 Y Y Y Y (fun _ _ hleq hq => a9x _ _ _ _ gl) (a1e Y Y Y Y (fun _ _ _ _ => a0b Y Y Y Yn) (b0t ?_))
 rintro gs ⟨gt, gu, gm⟩
 refine a0c (a1d (a0v (a0j (a0j (a0v (a0j (a1j Y Y ?_)))))))
 obtain rfl := Yo hm
 exact ⟨_, _, _, Y, gm.Yp [] Y Y, Y, Y⟩
 refine a0r 31 Y L (a0q Y (a1c (a1q (a0c (a0a (a0d Y Y Y (a0u Y Y Y Y Y (a0b Y Y Y (a0g (a0o (fun a ha => ihx1 (isub .i64 i1 1) a _ hm ?_)))))))))))
 exact ⟨_, (g.trans J), U.Yp [] Y Y, ha.cut (l := [0, 1, 5]) Y⟩
 refine a0r 20 Y I (a0q Y (a3p (a0x (a0x (fun a ha => hk1 () a _ hm ?_)))))
 exact ⟨_, g, T.Yp [] Y Y, ha.cut (l := []) Y⟩
theorem ent44 : Ent Tryz.prog 44 := fun _ _ => by kernel_rfl
theorem ent85 : Ent Tryz.prog 85 := fun _ _ => by kernel_rfl
def b2f (n : Nat) (ax1 : Big) (b1 : Big) : Option Int :=
 (a4d n ax1).bind fun v1 =>
 (bif !v1 then
  some true
 else
  (a4d n b1).bind fun v5 =>
  some (!v5)).bind fun v2 =>
 bif v2 then
  some 0
 else
  bif ax1.Sign != b1.Sign then
   (a5h n ax1.Sign b1.Sign).bind fun v3 =>
   some v3
  else
   (a7q n ax1.Digits b1.Digits).bind fun v4 =>
   some (imul .i64 ax1.Sign v4)
theorem c1t (n : Nat) (ax1 : Big) (b1 : Big) (r : Int) (hm : b2f n ax1 b1 = some r) {w : World} {F : Frz} (hs : Sat F w) {m o : Option Addr} {p q s t : Nat} (I : SlR (Rp.int .i64) F m p q ax1.Digits) (J : SlR (Rp.int .i64) F o s t b1.Digits) :
  Calls Tryz.prog 47 #[.agg #[.int .i64 ax1.Sign, .slice m p q], .agg #[.int .i64 b1.Sign, .slice o s t]] w fun e w' => ∃ v F' O', e = .returned v ∧ HS F w [] F' O' w' ∧ (v = .int .i64 r ∧ O' = []) := by
 unfold b2f at hm
 have h := HS.init hs
 refine a1a 31 Tryz.func47 Y Y Y (a0h (a0a (a2i Y Y Y Y h ?_)))
 intro b2 g1 M
 refine a2i Y Y Y Y M ?_
 intro b3 g2 u
 refine a0b Y Y Y (a0g (a0c (a0h (a0h (a0a (a0m ag35 sz35 Y Y u Y (i := 1) Y Y ?_))))))
 obtain ⟨v1, N, hm⟩ := Yb hm
 refine a0i ent44 Y Y Y Y u (a3o _ _ _ N u.sat I) ?_
 rintro _ Q _ g3 x k ⟨rfl, rfl⟩
 refine a3d Y Y Y (a0d Y Y Y ?_)
 obtain ⟨v2, g, hm⟩ := Yb hm
 refine a1z 4 (fun a w' => ∃ (y : Frz), Frz.le Q y ∧ HS F w [] y [.box b3 35 [.int .i64 b1.Sign, .slice o s t], .box b2 35 [.int .i64 ax1.Sign, .slice m p q]] w' ∧ Has 31 a [(2, .pointer (some ⟨b2, 0, none⟩)), (3, .pointer (some ⟨b3, 0, none⟩)), (12, .bool v2)]) ?_ ?_
 rintro a g4 ⟨y, K, j, L⟩
 refine a0z L (a0g (a0c ?_))
 rcases a0f hm with ⟨z, hm⟩ | ⟨z, hm⟩
 refine a0r 12 Y z (a0y Y (a0h (a0a (a0b Y Y Y (a0g (a0c (a1d (a0j (a1j Y Y ?_)))))))))
 obtain rfl := Yo hm
 exact ⟨_, _, _, Y, j.Yp [] Y Y, Y, Y⟩
 refine a0r 12 Y z (a0q Y (a1c (a0c (a0h (a0h (a0a (a0e fa35_0 Y Y Y (a0p ag3 Y Y j Y (i := 1) Y Y (a0e fa35_0 Y Y Y (a0p ag3 Y Y j Y (i := 0) Y Y (a0u Y Y Y Y Y ?_)))))))))))
 refine a0g (a0c ?_)
 rcases a0f hm with ⟨G, hm⟩ | ⟨G, hm⟩
 refine a0r 17 Y G (a0y Y (a0h (a0a (a0e fa35_0 Y Y Y (a0p ag3 Y Y j Y (i := 1) Y Y (a0e fa35_0 Y Y Y (a0p ag3 Y Y j Y (i := 0) Y Y ?_)))))))
 obtain ⟨v3, R, hm⟩ := Yb hm
 refine a3c ent84 Y Y Y Y (a9x _ _ _ _ R) (a0b Y Y Y (a0g (a0c (a1d (a0j (a1j Y Y ?_))))))
 obtain rfl := Yo hm
 exact ⟨_, _, _, Y, j.Yp [] Y Y, Y, Y⟩
 refine a0r 17 Y G (a0q Y (a1c (a0c (a0h (a3j (by kernel_rfl) (by kernel_rfl) j (a1e Y Y Y Y (fun _ _ _ _ => a0e fa35_0 Y Y Y Yn) (a1e Y Y Y Y (fun _ _ _ hq => a0p ag3 Y Y hq Y (i := 1) Y Y Yn) (a1e Y Y Y Y (fun _ _ _ _ => a0e fa35_1 Y Y Y Yn) (a1e Y Y Y Y (fun _ _ _ hq => a0p ag28 Y Y hq Y (i := 1) Y Y Yn) ?_)))))))))
 refine a1e Y Y Y Y (fun _ _ _ _ => a0e fa35_1 Y Y Y Yn) (a1e Y Y Y Y (fun _ _ _ hq => a0p ag28 Y Y hq Y (i := 0) Y Y Yn) ?_)
 obtain ⟨v4, T, hm⟩ := Yb hm
 refine b4e ent85 Y Y Y Y (fun _ _ hleq hq => b3b _ _ _ _ T hq.sat (((I.mono x).mono K).mono hleq) (((J.mono x).mono K).mono hleq)) (a1e Y Y Y Y (fun _ _ _ _ => a0u Y Y Y Y Y Yn) (a1e Y Y Y Y (fun _ _ _ _ => a0b Y Y Y Yn) (b0t ?_)))
 rintro g5 ⟨g6, g7, U⟩
 refine a0c (a1d (a1j Y Y ?_))
 obtain rfl := Yo hm
 exact ⟨_, _, _, Y, U.Yp [] Y Y, Y, Y⟩
 clear hm
 rcases a0f g with ⟨H, g⟩ | ⟨H, g⟩
 refine a1g 8 Y H (a0t Y (by decide) Y (a0t Y (by decide) Y (a0t Y (by decide) Y (a0n Y Y Y Y (a0g (a0o (fun a ha => ?_)))))))
 cases g
 exact ⟨_, Yf, k.Yp [0, 1] Y Y, ha.cut (l := [2, 3, 12]) Y⟩
 refine a1g 8 Y H (a0m ag35 sz35 Y Y k Y (i := 0) Y Y ?_)
 obtain ⟨v5, V, g⟩ := Yb g
 refine a0i ent44 Y Y Y Y k (a3o _ _ _ V k.sat (J.mono x)) ?_
 rintro _ g8 _ g9 Z g0 ⟨rfl, rfl⟩
 refine a3d Y Y Y (a0k Y Y Y Y (a0g (a0o (fun a ha => ?_))))
 cases g
 exact ⟨_, Z, g0.Yp [0, 1] Y Y, ha.cut (l := [2, 3, 12]) Y⟩
theorem ap28 : AppIs Tryz.prog 28 3 1 8 := AppIs.of (z := .int .i64 0) (by kernel_rfl) (by kernel_rfl) rfl (by decide) (by decide)
def a2c (_n : Nat) (s1 : (List Int)) : Option (List Int) := app 8 [] s1
theorem a2m (n : Nat) (s1 : (List Int)) (r : (List Int)) (hm : a2c n s1 = some r) {w : World} {F : Frz} (hs : Sat F w) {g : Option Addr} {j : Nat} {k : Nat} (l : SlR (Rp.int .i64) F g j k s1) :
  Calls Tryz.prog 67 #[.slice g j k] w fun e w' => ∃ v F' O', e = .returned v ∧ HS F w [] F' O' w' ∧ (∃ (a0_0 : Option Addr) (n0_0 : Nat) (c0_0 : Nat) (xs0_0 : List Value), v = .slice a0_0 n0_0 c0_0 ∧ O' = [.row 3 1 a0_0 n0_0 c0_0 xs0_0] ∧ RowN (Rp.int .i64) F' n0_0 xs0_0 r) := by
 unfold a2c at hm
 have h := HS.init hs
 refine a1a (args := [.slice g j k]) 8 Tryz.func67 Y Y Y (a0h (a0a (a0b Y Y Y (a0g (a0c (a0h (a0h (a0a (a0d Y Y Y (d6u u28 Y Y Y (a0g (a0c ?_))))))))))))
 cases g with
 | none =>
  have h0 : s1 = [] := by
   rcases l.2.2.2 with h0 | ⟨_, _, _, h0, _⟩
   ·exact h0
   ·cases h0
  subst h0
  simp only [app, List.length_nil, Nat.add_zero, Nat.zero_mul, Nat.zero_le, if_true, List.append_nil, Option.some.injEq] at hm
  subst hm
  refine a0y Y (a0h (a0a (a0b Y Y Y (a0g (a0c (a1d (a0j (a1j Y Y ?_))))))))
  exact ⟨_, _, _, Y, h.nilRow 3 1, none, 0, 0, [], Y, Y, Y, Y⟩
 | some ad =>
  refine a0q Y (a1c (a0c (a0h (a0a (a1v (e := 3) (cs := []) (q := 1) Y Y h Y (fun _ => by kernel_rfl) Y Y ?_)))))
  intro b1 w1 h1
  refine a0d Y Y Y (b9w (r := (Rp.int .i64)) ap28 Y Y Y h1 Y Y (i := 0) Y (show RowN (Rp.int .i64) _ 0 [] [] from ⟨Y, Y⟩) l hm ?_)
  intro a2 c2 w2 xs2 h2 m
  refine a0b Y Y Y (a0g (a0c (a1d (a1j Y Y ?_))))
  exact ⟨_, _, _, Y, h2, a2, _, c2, xs2, Y, Y, m⟩
theorem ent67 : Ent Tryz.prog 67 := fun _ _ => by kernel_rfl
theorem ent82 : Ent Tryz.prog 82 := fun _ _ => by kernel_rfl
def b2z (n : Nat) (ax1 : Big) : Option Big :=
 (a4d n ax1).bind fun v1 =>
 bif !v1 then
  some (⟨0, []⟩ : Big)
 else
  (a2c n ax1.Digits).bind fun v2 =>
  (a3u n (IntKind.i64.wrap (0 - ax1.Sign)) v2).bind fun v3 =>
  some v3
theorem a8r (n : Nat) (ax1 : Big) (r : Big) (hm : b2z n ax1 = some r) {w : World} {F : Frz} (hs : Sat F w) {g : Option Addr} {j : Nat} {k : Nat} (s : SlR (Rp.int .i64) F g j k ax1.Digits) :
  Calls Tryz.prog 52 #[.agg #[.int .i64 ax1.Sign, .slice g j k]] w fun e w' => ∃ v F' O', e = .returned v ∧ HS F w [] F' O' w' ∧ (∃ (a0_1 : Option Addr) (n0_1 : Nat) (c0_1 : Nat), v = .agg #[.int .i64 r.Sign, .slice a0_1 n0_1 c0_1] ∧ O' = [] ∧ SlR (Rp.int .i64) F' a0_1 n0_1 c0_1 r.Digits) := by
 unfold b2z at hm
 have h := HS.init hs
 refine a1a 14 Tryz.func52 Y Y Y (a0h (a0a (a2i Y Y Y Y h ?_)))
 intro b1 Z I
 refine a1f ze35 Y Y Y I ?_
 intro b2 g0 l
 refine a0g (a0c (a0h (a0h (a0a (a0m ag35 sz35 Y Y l Y (i := 1) Y Y ?_)))))
 obtain ⟨v1, J, hm⟩ := Yb hm
 refine a0i ent44 Y Y Y Y l (a3o _ _ _ J l.sat s) ?_
 rintro _ K _ g1 L t ⟨rfl, rfl⟩
 refine a3d Y Y Y (a0g (a0c ?_))
 rcases a0f hm with ⟨m, hm⟩ | ⟨m, hm⟩
 refine a0r 5 Y m (a0y Y (a0h (a0a (a1y (v := .agg #[.int .i64 0, .slice none 0 0]) Y Y Y (fun _ => by kernel_rfl) (a0s sz35 Y t Y Y Y Y (i := 0) Y Y Y Y ?_)))))
 intro g2 u
 refine a0g (a0c (a1d (a0j (a3y Y ag35 sz35 Y u Y (i := 0) Y ?_))))
 obtain rfl := Yo hm
 exact ⟨_, _, _, Y, u.Yp [] Y Y, none, 0, 0, Y, Y, SlR.nil _ _⟩
 refine a0r 5 Y m (a0q Y (a1c (a0c (a0h (a2l (SH K [.box b1 35 [.int .i64 ax1.Sign, .slice g j k]]) 8 Y (by kernel_rfl) t ?_)))))
 intro g3 o
 have S0 := o.Ys Yf [1] Y Y
 refine d_tk 0 Y (by kernel_rfl) Y Y Y Y S0 (fun _ _ _ _ _ => a0e fa35_0 Y Y Y Yn) (d_tk 1 Y (by kernel_rfl) Y Y Y Y S0 (fun _ _ _ _ hq => a0p ag3 Y Y hq Y (i := 0) Y Y Yn) (d_tk 2 Y (by kernel_rfl) Y Y Y Y S0 (fun _ _ _ _ _ => c8a Y Y Y Yn) (d_tk 3 Y (by kernel_rfl) Y Y Y Y S0 (fun _ _ _ _ _ => a0e fa35_1 Y Y Y Yn) (d_tk 4 Y (by kernel_rfl) Y Y Y Y S0 (fun _ _ _ _ hq => a0p ag28 Y Y hq Y (i := 0) Y Y Yn) (a1b 5 Y (by kernel_rfl) ?_)))))
 obtain ⟨v2, M, hm⟩ := Yb hm
 refine a0i ent67 Y Y Y Y o (a2m _ _ _ M o.sat (s.mono L)) ?_
 rintro _ g4 _ g5 p x ⟨g6, g7, g8, xss2, rfl, rfl, N⟩
 refine a0w (x.Ys p [2] Y Y) (a1b 6 Y (by kernel_rfl) ?_)
 obtain ⟨g9, y, z, hsx1⟩ := a1h x (i := 0) Y N
 obtain ⟨v3, Q, hm⟩ := Yb hm
 refine a0i ent82 Y Y Y Y z (a4p _ _ _ _ Q z.sat hsx1) ?_
 rintro _ ga _ gb G H ⟨R, T, U, rfl, rfl, V⟩
 refine a0w (H.Ys ((p.trans y).trans G) [1] Y Y) (a1b 7 Y (by kernel_rfl) (a0s sz35 Y H Y Y Y Y (i := 0) Y Y Y Y ?_))
 intro gc q
 refine a0w (q.Ys ((p.trans y).trans G) [1] Y Y) (a2x (by kernel_rfl) (a0c (a1d (a3y Y ag35 sz35 Y q Y (i := 0) Y ?_))))
 obtain rfl := Yo hm
 exact ⟨_, _, _, Y, q.Yp [] Y Y, R, T, U, Y, Y, V⟩
theorem zi3 : (Tryz.prog.info? 3).map (·.zero) = some (some (.int .i64 0)) := by kernel_rfl
def a9o (n : Nat) (ax2 : (List Int)) (b2 : (List Int)) (kont1 : Int → (List Int) → Option (List Int)) : Nat → Int → Int → (List Int) → Option (List Int)
 | 0, _, _, _ => none
 | mx1 + 1, carry1, i1, l2 =>
  bif decide (i1 < (ax2.length : Int)) then
   (ix ax2 i1).bind fun ex2 =>
   (bif decide (i1 < (b2.length : Int)) then
    (ix b2 i1).bind fun ex4 =>
    some (iadd .i64 (iadd .i64 carry1 ex2) ex4)
   else
    some (iadd .i64 carry1 ex2)).bind fun carry3 =>
   (ix l2 i1).bind fun _ =>
   (lset l2 i1 (iand .i64 carry3 1048575)).bind fun l5 =>
   (shr .i64 carry3 20).bind fun q1 =>
   a9o n ax2 b2 kont1 mx1 q1 (iadd .i64 i1 1) l5
  else
   kont1 carry1 l2
theorem b5l (n : Nat) (ax2 : (List Int)) (b2 : (List Int)) (kont1 : Int → (List Int) → Option (List Int)) (mx1 : Nat) (carry1 : Int) (i1 : Int) (l2 : List Int) : a9o n ax2 b2 kont1 (mx1 + 1) carry1 i1 l2 =
  bif decide (i1 < (ax2.length : Int)) then
   (ix ax2 i1).bind fun ex2 =>
   (bif decide (i1 < (b2.length : Int)) then
    (ix b2 i1).bind fun ex4 =>
    some (iadd .i64 (iadd .i64 carry1 ex2) ex4)
   else
    some (iadd .i64 carry1 ex2)).bind fun carry3 =>
   (ix l2 i1).bind fun _ =>
   (lset l2 i1 (iand .i64 carry3 1048575)).bind fun l5 =>
   (shr .i64 carry3 20).bind fun q1 =>
   a9o n ax2 b2 kont1 mx1 q1 (iadd .i64 i1 1) l5
  else
   kont1 carry1 l2 := rfl
def b6t (n : Nat) (ax1 : (List Int)) (b1 : (List Int)) : Option (List Int) :=
 (bif decide ((ax1.length : Int) < (b1.length : Int)) then
  some (b1, ax1)
 else
  some (ax1, b1)).bind fun (ax2, b2) =>
 (mks 8 0 (iadd .i64 (ax2.length : Int) 1)).bind fun l1 =>
 a9o n ax2 b2 (fun (carry2 : Int) (l3 : List Int) =>
  (ix l3 (ax2.length : Int)).bind fun _ =>
  (lset l3 (ax2.length : Int) carry2).bind fun l4 =>
  (a3x n l4).bind fun v1 =>
  some v1) n 0 0 l1
theorem c2p (n : Nat) (ax1 : (List Int)) (b1 : (List Int)) (r : (List Int)) (hm : b6t n ax1 b1 = some r) {w : World} {F : Frz} (hs : Sat F w) {N Q : Option Addr} {R x T z : Nat} (g4 : SlR (Rp.int .i64) F N R x ax1) (g5 : SlR (Rp.int .i64) F Q T z b1) :
  Calls Tryz.prog 95 #[.slice N R x, .slice Q T z] w fun e w' => ∃ v F' O', e = .returned v ∧ HS F w [] F' O' w' ∧ (∃ (a0_0 : Option Addr) (n0_0 : Nat) (c0_0 : Nat) (xs0_0 : List Value), v = .slice a0_0 n0_0 c0_0 ∧ O' = [.row 3 1 a0_0 n0_0 c0_0 xs0_0] ∧ RowN (Rp.int .i64) F' n0_0 xs0_0 r) := by
 unfold b6t at hm
 have h := HS.init hs
 refine a1a 55 Tryz.func95 Y Y Y (a0h (a0a (a0b Y Y Y (a0g (a0c (a0h (a0h (a0a (a0d Y Y Y (a1x g4.len u28 Y Y Y (a0d Y Y Y (a1x g5.len u28 Y Y Y (a0u Y Y Y Y Y (a0g (a0c ?_)))))))))))))))
 obtain ⟨⟨ax2, b2⟩, I, hm⟩ := Yb hm
 refine a9a (fun a w' => ∃ (i : Option Addr) (o : Nat) (g : Nat) (J : Option Addr) (L : Nat) (q : Nat), w = w' ∧ (SlR (Rp.int .i64) F i o g ax2) ∧ (SlR (Rp.int .i64) F J L q b2) ∧ Has 55 a [(0, .slice i o g), (1, .slice J L q)]) ?_ ?_
 rintro a hd ⟨i, o, g, J, L, q, rfl, U, ga, gh⟩
 refine a1n gh (a0h (a0a (a0d Y Y Y (a1x U.len u28 Y Y Y (a0u Y Y Y Y Y ?_)))))
 obtain ⟨l1, go, hm⟩ := Yb hm
 refine c2r (r := (Rp.int .i64)) ap28 zi3 (fun _ => Y) Y Y Y h Y Y go ?_
 intro b3 he xs1 gp gq
 refine a0b Y Y Y (a0g (a0c (a0h (a0a (a0b Y Y Y (a0g (a0c (a0h (a0h (a0a (a0d Y Y Y (a1x U.len u28 Y Y Y (a0d Y Y Y (a0g (a0c (a1i ?_))))))))))))))))
 intro a gi
 obtain ⟨kont1, hkont1⟩ : ∃ kont1 : Int → (List Int) → Option (List Int), kont1 = (fun (carry2 : Int) (l3 : List Int) => (ix l3 (ax2.length : Int)).bind fun ex1 => (lset l3 (ax2.length : Int) carry2).bind fun l4 => (a3x n l4).bind fun v1 => some v1) := ⟨_, Y⟩
 replace hm : (fun m (s : Int × Int × List Int) => a9o n ax2 b2 kont1 m s.1 s.2.1 s.2.2) n (0, 0, l1) = some r := by rw [hkont1]; exact hm
 refine a5p (id := 0) (fun m (s : Int × Int × List Int) => a9o n ax2 b2 kont1 m s.1 s.2.1 s.2.2) (fun (y : Int × List Int) => kont1 y.1 y.2) r (fun (s : Int × Int × List Int) a w' => ∃ (V : Frz) (G : Option Addr) (t : Nat) (H : Nat) (xss5 : List Value), Frz.le F V ∧ HS F w [] V [.row 3 1 G t H xss5] w' ∧ (RowN (Rp.int .i64) V t xss5 s.2.2) ∧ Has 55 a [(0, .slice i o g), (1, .slice J L q), (5, .slice G t H), (6, .int .i64 s.1), (20, .slice i o g), (21, .int .i64 (ax2.length : Int)), (22, .int .i64 s.2.1)]) (fun (y : Int × List Int) a w' => ∃ (Z : Frz) (g0 : Option Addr) (g1 : Nat) (g2 : Nat) (xss6 : List Value), Frz.le F Z ∧ HS F w [] Z [.row 3 1 g0 g1 g2 xss6] w' ∧ (RowN (Rp.int .i64) Z g1 xss6 y.2) ∧ Has 55 a [(0, .slice i o g), (5, .slice g0 g1 g2), (6, .int .i64 y.1)]) (fun _ => Y) ?_ ?_ hm ⟨_, (some ⟨b3, 0, none⟩), ((iadd .i64 (ax2.length : Int) 1).toNat), ((iadd .i64 (ax2.length : Int) 1).toNat), xs1, Yf, gp.Yp [0] Y Y, gq, gi.cut (l := [0, 1, 5, 6, 20, 21, 22]) Y⟩
 clear hm; rintro ⟨carry2, l3⟩ a hf hm ⟨Z, g0, g1, g2, xss6, hg, gb, gc, gj⟩
 rw [hkont1] at hm
 replace hm := hm
 refine a2g (e := .exit 0) gj (a1k (a0c (a0h (a0a (a0d Y Y Y (a0d Y Y Y (a1x U.len u28 Y Y Y (a0d Y Y Y ?_))))))))
 obtain ⟨ex1, gr, hm⟩ := Yb hm
 refine a4b (r := (Rp.int .i64)) u28 sz3 Y Y gb Y Y (p := 0) Y Y gc gr ?_
 intro b4 o1 x gk ho1 gs hp1
 have gt : x = [.int .i64 ex1] := gs
 subst gt
 obtain ⟨l4, gu, hm⟩ := Yb hm
 refine a8b (r := (Rp.int .i64)) sz3 Y gb Y Y Y Y Y (p := 0) Y Y gk ho1 gc Y Y gu ?_
 intro hh xs2 gd ge
 refine a0g (a0c (a0h (a0a (a0d Y Y Y ?_))))
 obtain ⟨v1, gv, hm⟩ := Yb hm
 refine b4p ent121 Y Y Y Y (a7r _ _ _ gv (b1t _) (gd.viewRow (p := 0) Y Y ge)) ?_
 intro gf hles7 hvs7
 obtain ⟨gw, gg⟩ := gd.cutN (p := 0) Y ge hles7
 rw [← hvs7] at gg
 refine a0b Y Y Y (a0g (a0c (a1d (a1j Y Y ?_))))
 obtain rfl := Yo hm
 exact ⟨_, _, _, Y, gw.Yp [0] Y Y, g0, gf, g2, (xs2.take (gf * ((Rp.int .i64)).k)), Y, Y, gg⟩
 clear hm hkont1; intro hk1 mx1 K ihx1
 rintro ⟨carry1, i1, l2⟩ a gx hm ⟨V, G, t, H, xss5, g3, M, g6, gl⟩
 simp only [b5l] at hm
 refine a1n gl (a0h (a0a (a0u Y Y Y Y Y (a0g (a0c (a0h ?_))))))
 rcases a0f hm with ⟨g7, hm⟩ | ⟨g7, hm⟩
 refine a0r 23 Y g7 (a0y Y (a1c (a0c (a0h (a1i (a0h (a0a (a0d Y Y Y ?_))))))))
 obtain ⟨ex2, gy, hm⟩ := Yb hm
 refine a2e (r := (Rp.int .i64)) u28 sz3 Y Y Y Y (U.mono g3) gy ?_
 intro b5 o2 z gz h0
 have h1 : z = [.int .i64 ex2] := h0
 subst h1
 refine a1s (j := 0) ag3 Y Y M gz Y Y (a0b Y Y Y (a0b Y Y Y (a0g (a0c (a0h (a0a (a0d Y Y Y (a0d Y Y Y (a0u Y Y Y Y Y (a0b Y Y Y (a0g (a0c (a0h (a0h (a0a (a0d Y Y Y (a0d Y Y Y (a1x ga.len u28 Y Y Y (a0u Y Y Y Y Y (a0g (a0c ?_)))))))))))))))))))))
 obtain ⟨carry3, u, hm⟩ := Yb hm
 refine a9a (fun a w' => gx = w' ∧ Has 55 a [(0, .slice i o g), (1, .slice J L q), (5, .slice G t H), (6, .int .i64 carry3), (7, .int .i64 i1), (20, .slice i o g), (21, .int .i64 (ax2.length : Int)), (22, .int .i64 i1)]) ?_ ?_
 rintro a hi ⟨rfl, gm⟩
 refine a1n gm (a0h (a0a (a0d Y Y Y (a0d Y Y Y (a0d Y Y Y (a0u Y Y Y Y Y ?_))))))
 obtain ⟨ex3, h2, hm⟩ := Yb hm
 refine a4b (r := (Rp.int .i64)) u28 sz3 Y Y M Y Y (p := 0) Y Y g6 h2 ?_
 intro b6 o3 g gn ho2 h3 hp2
 have h4 : g = [.int .i64 ex3] := h3
 subst h4
 obtain ⟨l5, h5, hm⟩ := Yb hm
 refine a8b (r := (Rp.int .i64)) sz3 Y M Y Y Y Y Y (p := 0) Y Y gn ho2 g6 Y Y h5 ?_
 intro hj xs3 h6 h7
 refine a0g (a0c (a0a (a0d Y Y Y ?_)))
 obtain ⟨q1, hq1, hm⟩ := Yb hm
 refine c7w Y Y Y Y hq1 (a0b Y Y Y (a0g (a1q (a0c (a0a (a0u Y Y Y Y Y (a0d Y Y Y (a0g (a0o (fun a ha => ihx1 (q1, (iadd .i64 i1 1), l5) a _ hm ?_))))))))))
 exact ⟨_, G, t, H, xs3, g3, h6.Yp [0] Y Y, h7, ha.cut (l := [0, 1, 5, 6, 20, 21, 22]) Y⟩
 clear hm
 rcases a0f u with ⟨g8, u⟩ | ⟨g8, u⟩
 refine a0r 33 Y g8 (a0y Y (a0a (a0d Y Y Y (a0d Y Y Y (a0d Y Y Y ?_)))))
 obtain ⟨ex4, h8, u⟩ := Yb u
 refine a2e (r := (Rp.int .i64)) u28 sz3 Y Y Y Y (ga.mono g3) h8 ?_
 intro b7 o4 q h9 hb
 have hc : q = [.int .i64 ex4] := hb
 subst hc
 refine a1s (j := 0) ag3 Y Y M h9 Y Y (a0u Y Y Y Y Y (a0b Y Y Y (a0g (a0o (fun a ha => ?_)))))
 cases u
 exact ⟨Y, ha.cut (l := [0, 1, 5, 6, 7, 20, 21, 22]) Y⟩
 refine a0r 33 Y g8 (a0q Y (a1c (a0o (fun a ha => ?_))))
 cases u
 exact ⟨Y, ha.cut (l := [0, 1, 5, 6, 7, 20, 21, 22]) Y⟩
 refine a0r 23 Y g7 (a0q Y (a3p (a0x (a0x (fun a ha => hk1 (carry1, l2) a _ hm ?_)))))
 exact ⟨_, G, t, H, xss5, g3, M.Yp [0] Y Y, g6, ha.cut (l := [0, 5, 6]) Y⟩
 clear hm
 rcases a0f I with ⟨g9, I⟩ | ⟨g9, I⟩
 refine a0r 13 Y g9 (a0y Y (a0a (a0d Y Y Y (a0d Y Y Y (a0b Y Y Y (a0b Y Y Y (a0g (a0o (fun a ha => ?_)))))))))
 cases I
 exact ⟨Q, T, z, N, R, x, Y, g5, g4, ha.cut (l := [0, 1]) Y⟩
 refine a0r 13 Y g9 (a0q Y (a1c (a0o (fun a ha => ?_))))
 cases I
 exact ⟨N, R, x, Q, T, z, Y, g4, g5, ha.cut (l := [0, 1]) Y⟩
def b0m (n : Nat) (b1 : (List Int)) (v1 : (List Int)) (kont1 : (List Int) → Option (List Int)) : Nat → Int → Int → (List Int) → Option (List Int)
 | 0, _, _, _ => none
 | mx1 + 1, borrow1, i1, l1 =>
  bif decide (i1 < (v1.length : Int)) then
   (ix l1 i1).bind fun ex1 =>
   (bif decide (i1 < (b1.length : Int)) then
    (ix b1 i1).bind fun ex3 =>
    some (isub .i64 (isub .i64 ex1 borrow1) ex3)
   else
    some (isub .i64 ex1 borrow1)).bind fun nx1 =>
   (shr .i64 nx1 20).bind fun q1 =>
   (ix l1 i1).bind fun _ =>
   (lset l1 i1 (iand .i64 nx1 1048575)).bind fun l3 =>
   b0m n b1 v1 kont1 mx1 (iand .i64 q1 1) (iadd .i64 i1 1) l3
  else
   kont1 l1
theorem b5c (n : Nat) (b1 : (List Int)) (v1 : (List Int)) (kont1 : (List Int) → Option (List Int)) (mx1 : Nat) (borrow1 : Int) (i1 : Int) (l1 : List Int) : b0m n b1 v1 kont1 (mx1 + 1) borrow1 i1 l1 =
  bif decide (i1 < (v1.length : Int)) then
   (ix l1 i1).bind fun ex1 =>
   (bif decide (i1 < (b1.length : Int)) then
    (ix b1 i1).bind fun ex3 =>
    some (isub .i64 (isub .i64 ex1 borrow1) ex3)
   else
    some (isub .i64 ex1 borrow1)).bind fun nx1 =>
   (shr .i64 nx1 20).bind fun q1 =>
   (ix l1 i1).bind fun _ =>
   (lset l1 i1 (iand .i64 nx1 1048575)).bind fun l3 =>
   b0m n b1 v1 kont1 mx1 (iand .i64 q1 1) (iadd .i64 i1 1) l3
  else
   kont1 l1 := rfl
def b5j (n : Nat) (ax1 : (List Int)) (b1 : (List Int)) : Option (List Int) :=
 (a2c n ax1).bind fun v1 =>
 b0m n b1 v1 (fun (l2 : List Int) =>
  (a3x n l2).bind fun v2 =>
  some v2) n 0 0 v1
theorem b7w (n : Nat) (ax1 : (List Int)) (b1 : (List Int)) (r : (List Int)) (hm : b5j n ax1 b1 = some r) {w : World} {F : Frz} (hs : Sat F w) {V x : Option Addr} {Z z G o : Nat} (gd : SlR (Rp.int .i64) F V Z z ax1) (g0 : SlR (Rp.int .i64) F x G o b1) :
  Calls Tryz.prog 96 #[.slice V Z z, .slice x G o] w fun e w' => ∃ v F' O', e = .returned v ∧ HS F w [] F' O' w' ∧ (∃ (a0_0 : Option Addr) (n0_0 : Nat) (c0_0 : Nat) (xs0_0 : List Value), v = .slice a0_0 n0_0 c0_0 ∧ O' = [.row 3 1 a0_0 n0_0 c0_0 xs0_0] ∧ RowN (Rp.int .i64) F' n0_0 xs0_0 r) := by
 unfold b5j at hm
 have h := HS.init hs
 refine a1a 43 Tryz.func96 Y Y Y (a0h (a0a (a0b Y Y Y (a0g (a0c (a0h (a0a (a0d Y Y Y ?_))))))))
 obtain ⟨v1, ge, hm⟩ := Yb hm
 refine a0i ent67 Y Y Y Y h (a2m _ _ _ ge h.sat gd) ?_
 rintro _ g1 _ gz gf gg ⟨gh, gi, Q, xss3, rfl, rfl, g2⟩
 refine a0b Y Y Y (a0g (a0c (a0h (a0a (a0b Y Y Y (a0g (a0c (a0h (a0h (a0a (a0d Y Y Y (a1x g2.len u28 Y Y Y (a0d Y Y Y (a0g (a0c (a1i ?_))))))))))))))))
 intro a g7
 obtain ⟨kont1, hkont1⟩ : ∃ kont1 : (List Int) → Option (List Int), kont1 = (fun (l2 : List Int) => (a3x n l2).bind fun v2 => some v2) := ⟨_, Y⟩
 replace hm : (fun m (s : Int × Int × List Int) => b0m n b1 v1 kont1 m s.1 s.2.1 s.2.2) n (0, 0, v1) = some r := by rw [hkont1]; exact hm
 refine a5p (id := 0) (fun m (s : Int × Int × List Int) => b0m n b1 v1 kont1 m s.1 s.2.1 s.2.2) (fun (y : List Int) => kont1 y) r (fun (s : Int × Int × List Int) a w' => ∃ (H : Frz) (q : Option Addr) (g : Nat) (t : Nat) (xss4 : List Value), Frz.le g1 H ∧ HS F w [] H [.row 3 1 q g t xss4] w' ∧ (RowN (Rp.int .i64) H g xss4 s.2.2) ∧ Has 43 a [(1, .slice x G o), (5, .slice q g t), (6, .int .i64 s.1), (12, .int .i64 (v1.length : Int)), (13, .int .i64 s.2.1)]) (fun (y : List Int) a w' => ∃ (I : Frz) (J : Option Addr) (L : Nat) (M : Nat) (xss5 : List Value), Frz.le g1 I ∧ HS F w [] I [.row 3 1 J L M xss5] w' ∧ (RowN (Rp.int .i64) I L xss5 y) ∧ Has 43 a [(5, .slice J L M)]) (fun _ => Y) ?_ ?_ hm ⟨_, gh, gi, Q, xss3, Yf, gg.Yp [0] Y Y, g2, g7.cut (l := [1, 5, 6, 12, 13]) Y⟩
 clear hm; rintro l2 a h0 hm ⟨I, J, L, M, xss5, h1, g3, g4, g8⟩
 rw [hkont1] at hm
 replace hm := hm
 refine a2g (e := .exit 0) g8 (a1k (a0c (a0h (a0a (a0d Y Y Y ?_)))))
 obtain ⟨v2, gj, hm⟩ := Yb hm
 refine b4p ent121 Y Y Y Y (a7r _ _ _ gj (b1t _) (g3.viewRow (p := 0) Y Y g4)) ?_
 intro g5 hles6 hvs6
 obtain ⟨gk, g6⟩ := g3.cutN (p := 0) Y g4 hles6
 rw [← hvs6] at g6
 refine a0b Y Y Y (a0g (a0c (a1d (a1j Y Y ?_))))
 obtain rfl := Yo hm
 exact ⟨_, _, _, Y, gk.Yp [0] Y Y, J, g5, M, (xss5.take (g5 * ((Rp.int .i64)).k)), Y, Y, g6⟩
 clear hm hkont1; intro hk1 mx1 K ihx1
 rintro ⟨borrow1, i1, l1⟩ a gl hm ⟨H, q, g, t, xss4, R, u, N, g9⟩
 simp only [b5c] at hm
 refine a1n g9 (a0h (a0a (a0u Y Y Y Y Y (a0g (a0c (a0h ?_))))))
 rcases a0f hm with ⟨T, hm⟩ | ⟨T, hm⟩
 refine a0r 14 Y T (a0y Y (a1c (a0c (a0h (a1i (a0h (a0a (a0d Y Y Y (a0b Y Y Y (a0g (a0c (a0h (a0a (a0d Y Y Y (a0d Y Y Y ?_)))))))))))))))
 obtain ⟨ex1, gm, hm⟩ := Yb hm
 refine a4b (r := (Rp.int .i64)) u28 sz3 Y Y u Y Y (p := 0) Y Y N gm ?_
 intro b2 o1 z ga ho1 gn hp1
 have go : z = [.int .i64 ex1] := gn
 subst go
 refine a4f (j := 0) ag3 Y Y u Y (p := 0) Y Y ga ho1 hp1 Y (a0d Y Y Y (a0u Y Y Y Y Y (a0b Y Y Y (a0g (a0c (a0h (a0h (a0a (a0d Y Y Y (a0d Y Y Y (a1x g0.len u28 Y Y Y (a0u Y Y Y Y Y (a0g (a0c ?_))))))))))))))
 obtain ⟨nx1, i, hm⟩ := Yb hm
 refine a9a (fun a w' => gl = w' ∧ Has 43 a [(1, .slice x G o), (5, .slice q g t), (7, .int .i64 i1), (8, .int .i64 nx1), (12, .int .i64 (v1.length : Int)), (13, .int .i64 i1)]) ?_ ?_
 rintro a h2 ⟨rfl, gb⟩
 refine a1n gb (a0h (a0a (a0d Y Y Y ?_)))
 obtain ⟨q1, hq1, hm⟩ := Yb hm
 refine c7w Y Y Y Y hq1 (a0u Y Y Y Y Y (a0b Y Y Y (a0g (a0c (a0a (a0d Y Y Y (a0d Y Y Y (a0d Y Y Y (a0u Y Y Y Y Y ?_)))))))))
 obtain ⟨ex2, gp, hm⟩ := Yb hm
 refine a4b (r := (Rp.int .i64)) u28 sz3 Y Y u Y Y (p := 0) Y Y N gp ?_
 intro b3 o2 o gc ho2 gq hp2
 have gr : o = [.int .i64 ex2] := gq
 subst gr
 obtain ⟨l3, gs, hm⟩ := Yb hm
 refine a8b (r := (Rp.int .i64)) sz3 Y u Y Y Y Y Y (p := 0) Y Y gc ho2 N Y Y gs ?_
 intro h3 xs1 gt gu
 refine a0g (a1q (a0c (a0a (a0u Y Y Y Y Y (a0d Y Y Y (a0g (a0o (fun a ha => ihx1 ((iand .i64 q1 1), (iadd .i64 i1 1), l3) a _ hm ?_))))))))
 exact ⟨_, q, g, t, xs1, R, gt.Yp [0] Y Y, gu, ha.cut (l := [1, 5, 6, 12, 13]) Y⟩
 clear hm
 rcases a0f i with ⟨U, i⟩ | ⟨U, i⟩
 refine a0r 25 Y U (a0y Y (a0a (a0d Y Y Y (a0d Y Y Y (a0d Y Y Y ?_)))))
 obtain ⟨ex3, gv, i⟩ := Yb i
 refine a2e (r := (Rp.int .i64)) u28 sz3 Y Y Y Y ((g0.mono gf).mono R) gv ?_
 intro b4 o3 Q gw gx
 have gy : Q = [.int .i64 ex3] := gx
 subst gy
 refine a1s (j := 0) ag3 Y Y u gw Y Y (a0u Y Y Y Y Y (a0b Y Y Y (a0g (a0o (fun a ha => ?_)))))
 cases i
 exact ⟨Y, ha.cut (l := [1, 5, 7, 8, 12, 13]) Y⟩
 refine a0r 25 Y U (a0q Y (a1c (a0o (fun a ha => ?_))))
 cases i
 exact ⟨Y, ha.cut (l := [1, 5, 7, 8, 12, 13]) Y⟩
 refine a0r 14 Y T (a0q Y (a3p (a0x (a0x (fun a ha => hk1 l1 a _ hm ?_)))))
 exact ⟨_, q, g, t, xss4, R, u.Yp [0] Y Y, N, ha.cut (l := [5]) Y⟩
def a9m (n : Nat) (b1 : (List Int)) (i1 : Int) (ex1 : Int) (kont2 : Int → (List Int) → Option (List Int)) : Nat → Int → Int → (List Int) → Option (List Int)
 | 0, _, _, _ => none
 | mx2 + 1, carry1, i2, l4 =>
  bif decide (i2 < (b1.length : Int)) then
   (ix b1 i2).bind fun ex4 =>
   (ix l4 (iadd .i64 i1 i2)).bind fun ex5 =>
   (shr .i64 (iadd .i64 (iadd .i64 ex5 (imul .i64 ex1 ex4)) carry1) 20).bind fun q1 =>
   (ix l4 (iadd .i64 i1 i2)).bind fun _ =>
   (lset l4 (iadd .i64 i1 i2) (iand .i64 (iadd .i64 (iadd .i64 ex5 (imul .i64 ex1 ex4)) carry1) 1048575)).bind fun l7 =>
   a9m n b1 i1 ex1 kont2 mx2 q1 (iadd .i64 i2 1) l7
  else
   kont2 carry1 l4
theorem b4l (n : Nat) (b1 : (List Int)) (i1 : Int) (ex1 : Int) (kont2 : Int → (List Int) → Option (List Int)) (mx2 : Nat) (carry1 : Int) (i2 : Int) (l4 : List Int) : a9m n b1 i1 ex1 kont2 (mx2 + 1) carry1 i2 l4 =
  bif decide (i2 < (b1.length : Int)) then
   (ix b1 i2).bind fun ex4 =>
   (ix l4 (iadd .i64 i1 i2)).bind fun ex5 =>
   (shr .i64 (iadd .i64 (iadd .i64 ex5 (imul .i64 ex1 ex4)) carry1) 20).bind fun q1 =>
   (ix l4 (iadd .i64 i1 i2)).bind fun _ =>
   (lset l4 (iadd .i64 i1 i2) (iand .i64 (iadd .i64 (iadd .i64 ex5 (imul .i64 ex1 ex4)) carry1) 1048575)).bind fun l7 =>
   a9m n b1 i1 ex1 kont2 mx2 q1 (iadd .i64 i2 1) l7
  else
   kont2 carry1 l4 := rfl
def a8o (n : Nat) (ax1 : (List Int)) (b1 : (List Int)) (kont1 : (List Int) → Option (List Int)) : Nat → Int → (List Int) → Option (List Int)
 | 0, _, _ => none
 | mx1 + 1, i1, l2 =>
  bif decide (i1 < (ax1.length : Int)) then
   (ix ax1 i1).bind fun ex1 =>
   a9m n b1 i1 ex1 (fun (carry2 : Int) (l5 : List Int) =>
    (ix l5 (iadd .i64 i1 (b1.length : Int))).bind fun ex2 =>
    (ix l5 (iadd .i64 i1 (b1.length : Int))).bind fun _ =>
    (lset l5 (iadd .i64 i1 (b1.length : Int)) (iadd .i64 ex2 carry2)).bind fun l6 =>
    a8o n ax1 b1 kont1 mx1 (iadd .i64 i1 1) l6) n 0 0 l2
  else
   kont1 l2
theorem b5i (n : Nat) (ax1 : (List Int)) (b1 : (List Int)) (kont1 : (List Int) → Option (List Int)) (mx1 : Nat) (i1 : Int) (l2 : List Int) : a8o n ax1 b1 kont1 (mx1 + 1) i1 l2 =
  bif decide (i1 < (ax1.length : Int)) then
   (ix ax1 i1).bind fun ex1 =>
   a9m n b1 i1 ex1 (fun (carry2 : Int) (l5 : List Int) =>
    (ix l5 (iadd .i64 i1 (b1.length : Int))).bind fun ex2 =>
    (ix l5 (iadd .i64 i1 (b1.length : Int))).bind fun _ =>
    (lset l5 (iadd .i64 i1 (b1.length : Int)) (iadd .i64 ex2 carry2)).bind fun l6 =>
    a8o n ax1 b1 kont1 mx1 (iadd .i64 i1 1) l6) n 0 0 l2
  else
   kont1 l2 := rfl
def b3d (n : Nat) (ax1 : (List Int)) (b1 : (List Int)) : Option (List Int) :=
 (mks 8 0 (iadd .i64 (ax1.length : Int) (b1.length : Int))).bind fun l1 =>
 a8o n ax1 b1 (fun (l3 : List Int) =>
  (a3x n l3).bind fun v1 =>
  some v1) n 0 l1
theorem b8c (n : Nat) (ax1 : (List Int)) (b1 : (List Int)) (r : (List Int)) (hm : b3d n ax1 b1 = some r) {w : World} {F : Frz} (hs : Sat F w) {J t : Option Addr} {L i u g : Nat} (g6 : SlR (Rp.int .i64) F J L i ax1) (R : SlR (Rp.int .i64) F t u g b1) :
  Calls Tryz.prog 122 #[.slice J L i, .slice t u g] w fun e w' => ∃ v F' O', e = .returned v ∧ HS F w [] F' O' w' ∧ (∃ (a0_0 : Option Addr) (n0_0 : Nat) (c0_0 : Nat) (xs0_0 : List Value), v = .slice a0_0 n0_0 c0_0 ∧ O' = [.row 3 1 a0_0 n0_0 c0_0 xs0_0] ∧ RowN (Rp.int .i64) F' n0_0 xs0_0 r) := by
 unfold b3d at hm
 have h := HS.init hs
 refine a1a 67 Tryz.func122 Y Y Y (a0h (a0a (a0b Y Y Y (a0g (a0c (a0h (a0a (a0d Y Y Y (a1x g6.len u28 Y Y Y (a0d Y Y Y (a1x R.len u28 Y Y Y (a0u Y Y Y Y Y ?_))))))))))))
 obtain ⟨l1, gs, hm⟩ := Yb hm
 refine c2r (r := (Rp.int .i64)) ap28 zi3 (fun _ => Y) Y Y Y h Y Y gs ?_
 intro b2 hq xs1 gt gu
 refine a0b Y Y Y (a0g (a0c (a0h (a0h (a0a (a0d Y Y Y (a1x g6.len u28 Y Y Y (a0d Y Y Y (a0g (a0c (a1i ?_)))))))))))
 intro a gc
 obtain ⟨kont1, hkont1⟩ : ∃ kont1 : (List Int) → Option (List Int), kont1 = (fun (l3 : List Int) => (a3x n l3).bind fun v1 => some v1) := ⟨_, Y⟩
 replace hm : (fun m (s : Int × List Int) => a8o n ax1 b1 kont1 m s.1 s.2) n (0, l1) = some r := by rw [hkont1]; exact hm
 refine a5p (id := 0) (fun m (s : Int × List Int) => a8o n ax1 b1 kont1 m s.1 s.2) (fun (y : List Int) => kont1 y) r (fun (s : Int × List Int) a w' => ∃ (x : Frz) (M : Option Addr) (z : Nat) (o : Nat) (xss3 : List Value), Frz.le F x ∧ HS F w [] x [.row 3 1 M z o xss3] w' ∧ (RowN (Rp.int .i64) x z xss3 s.2) ∧ Has 67 a [(1, .slice t u g), (5, .slice M z o), (18, .slice J L i), (19, .int .i64 (ax1.length : Int)), (20, .int .i64 s.1)]) (fun (y : List Int) a w' => ∃ (T : Frz) (U : Option Addr) (V : Nat) (G : Nat) (xss4 : List Value), Frz.le F T ∧ HS F w [] T [.row 3 1 U V G xss4] w' ∧ (RowN (Rp.int .i64) T V xss4 y) ∧ Has 67 a [(5, .slice U V G)]) (fun _ => Y) ?_ ?_ hm ⟨_, (some ⟨b2, 0, none⟩), ((iadd .i64 (ax1.length : Int) (b1.length : Int)).toNat), ((iadd .i64 (ax1.length : Int) (b1.length : Int)).toNat), xs1, Yf, gt.Yp [0] Y Y, gu, gc.cut (l := [1, 5, 18, 19, 20]) Y⟩
 clear hm; rintro l3 a hr hm ⟨T, U, V, G, xss4, ht, gd, ge, gi⟩
 rw [hkont1] at hm
 replace hm := hm
 refine a2g (e := .exit 0) gi (a1k (a0c (a0h (a0a (a0d Y Y Y ?_)))))
 obtain ⟨v1, gv, hm⟩ := Yb hm
 refine b4p ent121 Y Y Y Y (a7r _ _ _ gv (b1t _) (gd.viewRow (p := 0) Y Y ge)) ?_
 intro gf hles5 hvs5
 obtain ⟨gw, gg⟩ := gd.cutN (p := 0) Y ge hles5
 rw [← hvs5] at gg
 refine a0b Y Y Y (a0g (a0c (a1d (a1j Y Y ?_))))
 obtain rfl := Yo hm
 exact ⟨_, _, _, Y, gw.Yp [0] Y Y, U, gf, G, (xss4.take (gf * ((Rp.int .i64)).k)), Y, Y, gg⟩
 clear hm hkont1; intro hk1 mx1 K ihx1
 rintro ⟨i1, l2⟩ a hu hm ⟨x, M, z, o, xss3, Z, g7, gh, gj⟩
 simp only [b5i] at hm
 refine a1n gj (a0h (a0a (a0u Y Y Y Y Y (a0g (a0c (a0h ?_))))))
 rcases a0f hm with ⟨g8, hm⟩ | ⟨g8, hm⟩
 refine a0r 21 Y g8 (a0y Y (a1c (a0c (a0h (a1i (a0h (a0a (a0d Y Y Y ?_))))))))
 obtain ⟨ex1, gx, hm⟩ := Yb hm
 refine a2e (r := (Rp.int .i64)) u28 sz3 Y Y Y Y (g6.mono Z) gx ?_
 intro b3 o1 i gy gz
 have h0 : i = [.int .i64 ex1] := gz
 subst h0
 refine a1s (j := 0) ag3 Y Y g7 gy Y Y (a0b Y Y Y (a0b Y Y Y (a0g (a0c (a0h (a0a (a0b Y Y Y (a0g (a0c (a0h (a0h (a0a (a0d Y Y Y (a1x R.len u28 Y Y Y (a0d Y Y Y (a0g (a0c (a1i ?_))))))))))))))))))
 intro a gk
 obtain ⟨kont2, hkont2⟩ : ∃ kont2 : Int → (List Int) → Option (List Int), kont2 = (fun (carry2 : Int) (l5 : List Int) => (ix l5 (iadd .i64 i1 (b1.length : Int))).bind fun ex2 => (ix l5 (iadd .i64 i1 (b1.length : Int))).bind fun ex3 => (lset l5 (iadd .i64 i1 (b1.length : Int)) (iadd .i64 ex2 carry2)).bind fun l6 => a8o n ax1 b1 kont1 mx1 (iadd .i64 i1 1) l6) := ⟨_, Y⟩
 replace hm : (fun m (s : Int × Int × List Int) => a9m n b1 i1 ex1 kont2 m s.1 s.2.1 s.2.2) n (0, 0, l2) = some r := by rw [hkont2]; exact hm
 refine a5p (id := 2) (fun m (s : Int × Int × List Int) => a9m n b1 i1 ex1 kont2 m s.1 s.2.1 s.2.2) (fun (y : Int × List Int) => kont2 y.1 y.2) r (fun (s : Int × Int × List Int) a w' => ∃ (g0 : Frz) (N : Option Addr) (H : Nat) (q : Nat) (xss6 : List Value), Frz.le x g0 ∧ HS F w [] g0 [.row 3 1 N H q xss6] w' ∧ (RowN (Rp.int .i64) g0 H xss6 s.2.2) ∧ Has 67 a [(1, .slice t u g), (5, .slice N H q), (6, .int .i64 i1), (7, .int .i64 ex1), (8, .int .i64 s.1), (18, .slice J L i), (19, .int .i64 (ax1.length : Int)), (20, .int .i64 i1), (25, .slice t u g), (26, .int .i64 (b1.length : Int)), (27, .int .i64 s.2.1)]) (fun (y : Int × List Int) a w' => ∃ (g1 : Frz) (g2 : Option Addr) (Q : Nat) (g3 : Nat) (xss7 : List Value), Frz.le x g1 ∧ HS F w [] g1 [.row 3 1 g2 Q g3 xss7] w' ∧ (RowN (Rp.int .i64) g1 Q xss7 y.2) ∧ Has 67 a [(1, .slice t u g), (5, .slice g2 Q g3), (6, .int .i64 i1), (8, .int .i64 y.1), (18, .slice J L i), (19, .int .i64 (ax1.length : Int)), (20, .int .i64 i1)]) (fun _ => Y) ?_ ?_ hm ⟨_, M, z, o, xss3, Yf, g7.Yp [0] Y Y, gh, gk.cut (l := [1, 5, 6, 7, 8, 18, 19, 20, 25, 26, 27]) Y⟩
 clear hm; rintro ⟨carry2, l5⟩ a hv hm ⟨g1, g2, Q, g3, xss7, h1, g4, g9, gl⟩
 rw [hkont2] at hm
 replace hm := hm
 refine a2g (e := .exit 2) gl (a1k (a0c (a0a (a0d Y Y Y (a0d Y Y Y (a0d Y Y Y (a1x R.len u28 Y Y Y (a0u Y Y Y Y Y ?_))))))))
 obtain ⟨ex2, h2, hm⟩ := Yb hm
 refine a4b (r := (Rp.int .i64)) u28 sz3 Y Y g4 Y Y (p := 0) Y Y g9 h2 ?_
 intro b4 o2 g gm ho1 h3 hp1
 have h4 : g = [.int .i64 ex2] := h3
 subst h4
 refine a4f (j := 0) ag3 Y Y g4 Y (p := 0) Y Y gm ho1 hp1 Y (a0d Y Y Y (a0u Y Y Y Y Y ?_))
 obtain ⟨ex3, h5, hm⟩ := Yb hm
 refine a4b (r := (Rp.int .i64)) u28 sz3 Y Y g4 Y Y (p := 0) Y Y g9 h5 ?_
 intro b5 o3 o gn ho2 h6 hp2
 have h7 : o = [.int .i64 ex3] := h6
 subst h7
 obtain ⟨l6, h8, hm⟩ := Yb hm
 refine a8b (r := (Rp.int .i64)) sz3 Y g4 Y Y Y Y Y (p := 0) Y Y gn ho2 g9 Y Y h8 ?_
 intro hw xs2 h9 hb
 refine a0g (a1q (a0c (a0a (a0u Y Y Y Y Y (a0d Y Y Y (a0g (a0o (fun a ha => ihx1 ((iadd .i64 i1 1), l6) a _ hm ?_))))))))
 exact ⟨_, g2, Q, g3, xs2, (Z.trans h1), h9.Yp [0] Y Y, hb, ha.cut (l := [1, 5, 18, 19, 20]) Y⟩
 clear hm hkont2; intro hk2 mx2 K ihx2
 rintro ⟨carry1, i2, l4⟩ a hx hm ⟨g0, N, H, q, xss6, ga, I, g5, go⟩
 simp only [b4l] at hm
 refine a1n go (a0h (a0a (a0u Y Y Y Y Y (a0g (a0c (a0h ?_))))))
 rcases a0f hm with ⟨gb, hm⟩ | ⟨gb, hm⟩
 refine a0r 28 Y gb (a0y Y (a1c (a0c (a0h (a1i (a0h (a0a (a0d Y Y Y ?_))))))))
 obtain ⟨ex4, hc, hm⟩ := Yb hm
 refine a2e (r := (Rp.int .i64)) u28 sz3 Y Y Y Y ((R.mono Z).mono ga) hc ?_
 intro b6 o4 G hd he
 have hf : G = [.int .i64 ex4] := he
 subst hf
 refine a1s (j := 0) ag3 Y Y I hd Y Y (a0b Y Y Y (a0b Y Y Y (a0g (a0c (a0h (a0a (a0d Y Y Y (a0d Y Y Y (a0d Y Y Y (a0u Y Y Y Y Y ?_))))))))))
 obtain ⟨ex5, hg, hm⟩ := Yb hm
 refine a4b (r := (Rp.int .i64)) u28 sz3 Y Y I Y Y (p := 0) Y Y g5 hg ?_
 intro b7 o5 hh gp ho3 hi hp3
 have hj : hh = [.int .i64 ex5] := hi
 subst hj
 refine a4f (j := 0) ag3 Y Y I Y (p := 0) Y Y gp ho3 hp3 Y (a0d Y Y Y (a0d Y Y Y (a0u Y Y Y Y Y (a0u Y Y Y Y Y (a0d Y Y Y (a0u Y Y Y Y Y (a0b Y Y Y (a0g (a0c (a0a (a0d Y Y Y (a0d Y Y Y (a0d Y Y Y ?_)))))))))))))
 refine a0u Y Y Y Y Y (a0d Y Y Y (a0u Y Y Y Y Y (a0d Y Y Y ?_)))
 obtain ⟨q1, hq1, hm⟩ := Yb hm
 refine c7w Y Y Y Y hq1 ?_
 obtain ⟨ex6, hk, hm⟩ := Yb hm
 refine a4b (r := (Rp.int .i64)) u28 sz3 Y Y I Y Y (p := 0) Y Y g5 hk ?_
 intro b8 o6 q gq ho4 hl hp4
 have hn : q = [.int .i64 ex6] := hl
 subst hn
 obtain ⟨l7, ho, hm⟩ := Yb hm
 refine a8b (r := (Rp.int .i64)) sz3 Y I Y Y Y Y Y (p := 0) Y Y gq ho4 g5 Y Y ho ?_
 intro hy xs3 hp gr
 refine a0b Y Y Y (a0g (a1q (a0c (a0a (a0u Y Y Y Y Y (a0d Y Y Y (a0g (a0o (fun a ha => ihx2 (q1, (iadd .i64 i2 1), l7) a _ hm ?_)))))))))
 exact ⟨_, N, H, q, xs3, ga, hp.Yp [0] Y Y, gr, ha.cut (l := [1, 5, 6, 7, 8, 18, 19, 20, 25, 26, 27]) Y⟩
 refine a0r 28 Y gb (a0q Y (a3p (a0x (a0x (fun a ha => hk2 (carry1, l4) a _ hm ?_)))))
 exact ⟨_, N, H, q, xss6, ga, I.Yp [0] Y Y, g5, ha.cut (l := [1, 5, 6, 8, 18, 19, 20]) Y⟩
 refine a0r 21 Y g8 (a0q Y (a3p (a0x (a0x (fun a ha => hk1 l2 a _ hm ?_)))))
 exact ⟨_, M, z, o, xss3, Z, g7.Yp [0] Y Y, gh, ha.cut (l := [5]) Y⟩
def a7s (n : Nat) (ax1 : (List Int)) (d1 : Int) (kont1 : Int → (List Int) → Option ((List Int) × Int)) : Nat → Int → Int → (List Int) → Option ((List Int) × Int)
 | 0, _, _, _ => none
 | mx1 + 1, rx1, i1, l2 =>
  bif decide (0 ≤ i1) then
   (shl .i64 rx1 20).bind fun q1 =>
   (ix ax1 i1).bind fun ex1 =>
   (quo .i64 (ior .i64 q1 ex1) d1).bind fun q2 =>
   (ix l2 i1).bind fun _ =>
   (lset l2 i1 q2).bind fun l4 =>
   (rem (ior .i64 q1 ex1) d1).bind fun q3 =>
   a7s n ax1 d1 kont1 mx1 q3 (isub .i64 i1 1) l4
  else
   kont1 rx1 l2
theorem b2y (n : Nat) (ax1 : (List Int)) (d1 : Int) (kont1 : Int → (List Int) → Option ((List Int) × Int)) (mx1 : Nat) (rx1 : Int) (i1 : Int) (l2 : List Int) : a7s n ax1 d1 kont1 (mx1 + 1) rx1 i1 l2 =
  bif decide (0 ≤ i1) then
   (shl .i64 rx1 20).bind fun q1 =>
   (ix ax1 i1).bind fun ex1 =>
   (quo .i64 (ior .i64 q1 ex1) d1).bind fun q2 =>
   (ix l2 i1).bind fun _ =>
   (lset l2 i1 q2).bind fun l4 =>
   (rem (ior .i64 q1 ex1) d1).bind fun q3 =>
   a7s n ax1 d1 kont1 mx1 q3 (isub .i64 i1 1) l4
  else
   kont1 rx1 l2 := rfl
def a8z (n : Nat) (ax1 : (List Int)) (d1 : Int) : Option ((List Int) × Int) :=
 (mks 8 0 (ax1.length : Int)).bind fun l1 =>
 a7s n ax1 d1 (fun (rx2 : Int) (l3 : List Int) =>
  (a3x n l3).bind fun v1 =>
  some (v1, rx2)) n 0 (isub .i64 (ax1.length : Int) 1) l1
theorem b8q (n : Nat) (ax1 : (List Int)) (d1 : Int) (r : ((List Int) × Int)) (hm : a8z n ax1 d1 = some r) {w : World} {F : Frz} (hs : Sat F w) {I : Option Addr} {J : Nat} {o : Nat} (L : SlR (Rp.int .i64) F I J o ax1) :
  Calls Tryz.prog 120 #[.slice I J o, .int .i64 d1] w fun e w' => ∃ v F' O', e = .returned v ∧ HS F w [] F' O' w' ∧ (∃ (a0_0 : Option Addr) (n0_0 : Nat) (c0_0 : Nat) (xs0_0 : List Value), v = .tuple #[.slice a0_0 n0_0 c0_0, .int .i64 r.2] ∧ O' = [.row 3 1 a0_0 n0_0 c0_0 xs0_0] ∧ RowN (Rp.int .i64) F' n0_0 xs0_0 r.1) := by
 unfold a8z at hm
 have h := HS.init hs
 refine a1a 38 Tryz.func120 Y Y Y (a0h (a0a (a0b Y Y Y (a0b Y Y Y (a0g (a0c (a0h (a0a (a0d Y Y Y (a1x L.len u28 Y Y Y ?_))))))))))
 obtain ⟨l1, g3, hm⟩ := Yb hm
 refine c2r (r := (Rp.int .i64)) ap28 zi3 (fun _ => Y) Y Y Y h Y Y g3 ?_
 intro b1 gi xs1 g4 g5
 refine a0b Y Y Y (a0g (a0c (a0h (a0a (a0b Y Y Y (a0g (a0c (a0h (a0h (a0a (a0d Y Y Y (a1x L.len u28 Y Y Y (a0u Y Y Y Y Y (a0b Y Y Y (a0g (a0c (a1i ?_)))))))))))))))))
 intro a Z
 obtain ⟨kont1, hkont1⟩ : ∃ kont1 : Int → (List Int) → Option ((List Int) × Int), kont1 = (fun (rx2 : Int) (l3 : List Int) => (a3x n l3).bind fun v1 => some (v1, rx2)) := ⟨_, Y⟩
 replace hm : (fun m (s : Int × Int × List Int) => a7s n ax1 d1 kont1 m s.1 s.2.1 s.2.2) n (0, (isub .i64 (ax1.length : Int) 1), l1) = some r := by rw [hkont1]; exact hm
 refine a5p (id := 0) (fun m (s : Int × Int × List Int) => a7s n ax1 d1 kont1 m s.1 s.2.1 s.2.2) (fun (y : Int × List Int) => kont1 y.1 y.2) r (fun (s : Int × Int × List Int) a w' => ∃ (x : Frz) (q : Option Addr) (i : Nat) (g : Nat) (xss2 : List Value), Frz.le F x ∧ HS F w [] x [.row 3 1 q i g xss2] w' ∧ (RowN (Rp.int .i64) x i xss2 s.2.2) ∧ Has 38 a [(0, .slice I J o), (1, .int .i64 d1), (6, .slice q i g), (7, .int .i64 s.1), (8, .int .i64 s.2.1)]) (fun (y : Int × List Int) a w' => ∃ (z : Frz) (t : Option Addr) (G : Nat) (u : Nat) (xss3 : List Value), Frz.le F z ∧ HS F w [] z [.row 3 1 t G u xss3] w' ∧ (RowN (Rp.int .i64) z G xss3 y.2) ∧ Has 38 a [(6, .slice t G u), (7, .int .i64 y.1)]) (fun _ => Y) ?_ ?_ hm ⟨_, (some ⟨b1, 0, none⟩), ((ax1.length : Int).toNat), ((ax1.length : Int).toNat), xs1, Yf, g4.Yp [0] Y Y, g5, Z.cut (l := [0, 1, 6, 7, 8]) Y⟩
 clear hm; rintro ⟨rx2, l3⟩ a gj hm ⟨z, t, G, u, xss3, gk, T, U, g0⟩
 rw [hkont1] at hm
 replace hm := hm
 refine a2g (e := .exit 0) g0 (a1k (a0c (a0h (a0a (a0d Y Y Y ?_)))))
 obtain ⟨v1, g6, hm⟩ := Yb hm
 refine b4p ent121 Y Y Y Y (a7r _ _ _ g6 (b1t _) (T.viewRow (p := 0) Y Y U)) ?_
 intro M hles4 hvs4
 obtain ⟨g7, V⟩ := T.cutN (p := 0) Y U hles4
 rw [← hvs4] at V
 refine a0d Y Y Y (a0b Y Y Y (a0b Y Y Y (a0g (a0c (a1d (a1o (vl := [.slice t M u, .int .i64 rx2]) Y ⟨a1r Y, a1r Y, trivial⟩ (by simp) ?_))))))
 obtain rfl := Yo hm
 exact ⟨_, _, _, Y, g7.Yp [0] Y Y, t, M, u, (xss3.take (M * ((Rp.int .i64)).k)), Y, Y, V⟩
 clear hm hkont1; intro hk1 mx1 K ihx1
 rintro ⟨rx1, i1, l2⟩ a gl hm ⟨x, q, i, g, xss2, N, H, Q, g1⟩
 simp only [b2y] at hm
 refine a1n g1 (a0h (a0h (a0a (a0d Y Y Y (a0u Y Y Y Y Y (a0g (a0c ?_)))))))
 rcases a0f hm with ⟨R, hm⟩ | ⟨R, hm⟩
 refine a0r 16 Y R (a0y Y (a1c (a0c (a0h (a1i (a0h (a0a (a0d Y Y Y ?_))))))))
 obtain ⟨q1, hq1, hm⟩ := Yb hm
 refine d1w Y Y Y Y hq1 (a0d Y Y Y (a0d Y Y Y ?_))
 obtain ⟨ex1, g8, hm⟩ := Yb hm
 refine a2e (r := (Rp.int .i64)) u28 sz3 Y Y Y Y (L.mono N) g8 ?_
 intro b2 o1 o g9 ga
 have gb : o = [.int .i64 ex1] := ga
 subst gb
 refine a1s (j := 0) ag3 Y Y H g9 Y Y (a0u Y Y Y Y Y (a0b Y Y Y (a0g (a0c (a0h (a0a (a0d Y Y Y (a0d Y Y Y (a0d Y Y Y (a0d Y Y Y ?_))))))))))
 obtain ⟨q2, hq2, hm⟩ := Yb hm
 refine c8l Y Y Y Y hq2 ?_
 obtain ⟨ex2, gc, hm⟩ := Yb hm
 refine a4b (r := (Rp.int .i64)) u28 sz3 Y Y H Y Y (p := 0) Y Y Q gc ?_
 intro b3 o2 g g2 ho1 gd hp1
 have ge : g = [.int .i64 ex2] := gd
 subst ge
 obtain ⟨l4, gf, hm⟩ := Yb hm
 refine a8b (r := (Rp.int .i64)) sz3 Y H Y Y Y Y Y (p := 0) Y Y g2 ho1 Q Y Y gf ?_
 intro gm xs2 gg gh
 refine a0g (a0c (a0a (a0d Y Y Y (a0d Y Y Y ?_))))
 obtain ⟨q3, hq3, hm⟩ := Yb hm
 refine c9e Y Y Y Y hq3 (a0b Y Y Y (a0g (a1q (a0c (a0a (a0d Y Y Y (a0u Y Y Y Y Y (a0b Y Y Y (a0g (a0o (fun a ha => ihx1 (q3, (isub .i64 i1 1), l4) a _ hm ?_)))))))))))
 exact ⟨_, q, i, g, xs2, N, gg.Yp [0] Y Y, gh, ha.cut (l := [0, 1, 6, 7, 8]) Y⟩
 refine a0r 16 Y R (a0q Y (a3p (a0x (a0x (fun a ha => hk1 (rx1, l2) a _ hm ?_)))))
 exact ⟨_, q, i, g, xss2, N, H.Yp [0] Y Y, Q, ha.cut (l := [6, 7]) Y⟩
def a5w (n : Nat) (v1 : (List Int)) (l2 : List Int) (kont1 : (List Int) → Option ((List Int) × Int)) : Nat → Int → Int → (List Int) → Option ((List Int) × Int)
 | 0, _, _, _ => none
 | mx1 + 1, carry1, i2, l3 =>
  bif decide (i2 < (l2.length : Int)) then
   (ix l3 i2).bind fun ex1 =>
   (bif decide (i2 < (v1.length : Int)) then
    (ix v1 i2).bind fun ex3 =>
    some (iadd .i64 (iadd .i64 carry1 ex1) ex3)
   else
    some (iadd .i64 carry1 ex1)).bind fun carry2 =>
   (ix l3 i2).bind fun _ =>
   (lset l3 i2 (iand .i64 carry2 1048575)).bind fun l5 =>
   (shr .i64 carry2 20).bind fun q1 =>
   a5w n v1 l2 kont1 mx1 q1 (iadd .i64 i2 1) l5
  else
   kont1 l3
theorem b1z (n : Nat) (v1 : (List Int)) (l2 : List Int) (kont1 : (List Int) → Option ((List Int) × Int)) (mx1 : Nat) (carry1 : Int) (i2 : Int) (l3 : List Int) : a5w n v1 l2 kont1 (mx1 + 1) carry1 i2 l3 =
  bif decide (i2 < (l2.length : Int)) then
   (ix l3 i2).bind fun ex1 =>
   (bif decide (i2 < (v1.length : Int)) then
    (ix v1 i2).bind fun ex3 =>
    some (iadd .i64 (iadd .i64 carry1 ex1) ex3)
   else
    some (iadd .i64 carry1 ex1)).bind fun carry2 =>
   (ix l3 i2).bind fun _ =>
   (lset l3 i2 (iand .i64 carry2 1048575)).bind fun l5 =>
   (shr .i64 carry2 20).bind fun q1 =>
   a5w n v1 l2 kont1 mx1 q1 (iadd .i64 i2 1) l5
  else
   kont1 l3 := rfl
def a7a (n : Nat) (u1 : (List Int)) (v1 : (List Int)) (guess1 : Int) (kont2 : Int → (List Int) → Option ((List Int) × Int)) : Nat → Int → Int → (List Int) → Option ((List Int) × Int)
 | 0, _, _, _ => none
 | mx2 + 1, borrow1, i1, l1 =>
  bif decide (i1 < (u1.length : Int)) then
   (ix l1 i1).bind fun ex4 =>
   (bif decide (i1 < (v1.length : Int)) then
    (ix v1 i1).bind fun ex6 =>
    some (isub .i64 (isub .i64 ex4 borrow1) (imul .i64 guess1 ex6))
   else
    some (isub .i64 ex4 borrow1)).bind fun nx1 =>
   (ix l1 i1).bind fun _ =>
   (lset l1 i1 (iand .i64 nx1 1048575)).bind fun l6 =>
   (shr .i64 nx1 20).bind fun q2 =>
   a7a n u1 v1 guess1 kont2 mx2 (IntKind.i64.wrap (0 - q2)) (iadd .i64 i1 1) l6
  else
   kont2 borrow1 l1
theorem b2i (n : Nat) (u1 : (List Int)) (v1 : (List Int)) (guess1 : Int) (kont2 : Int → (List Int) → Option ((List Int) × Int)) (mx2 : Nat) (borrow1 : Int) (i1 : Int) (l1 : List Int) : a7a n u1 v1 guess1 kont2 (mx2 + 1) borrow1 i1 l1 =
  bif decide (i1 < (u1.length : Int)) then
   (ix l1 i1).bind fun ex4 =>
   (bif decide (i1 < (v1.length : Int)) then
    (ix v1 i1).bind fun ex6 =>
    some (isub .i64 (isub .i64 ex4 borrow1) (imul .i64 guess1 ex6))
   else
    some (isub .i64 ex4 borrow1)).bind fun nx1 =>
   (ix l1 i1).bind fun _ =>
   (lset l1 i1 (iand .i64 nx1 1048575)).bind fun l6 =>
   (shr .i64 nx1 20).bind fun q2 =>
   a7a n u1 v1 guess1 kont2 mx2 (IntKind.i64.wrap (0 - q2)) (iadd .i64 i1 1) l6
  else
   kont2 borrow1 l1 := rfl
def a9w (n : Nat) (u1 : (List Int)) (v1 : (List Int)) (guess1 : Int) : Option ((List Int) × Int) :=
 a7a n u1 v1 guess1 (fun (borrow2 : Int) (l2 : List Int) =>
  bif borrow2 == 0 then
   some (l2, guess1)
  else
   a5w n v1 l2 (fun (l4 : List Int) =>
    some (l4, isub .i64 guess1 1)) n 0 0 l2) n 0 0 u1
theorem c3z (n : Nat) (u1 : (List Int)) (v1 : (List Int)) (guess1 : Int) (r : ((List Int) × Int)) (hm : a9w n u1 v1 guess1 = some r) {w : World} {F : Frz} (hs : Sat F w) {au1 : Option Addr} {nu1 : Nat} {cu1 : Nat} {preu1 xsu1 postu1 : List Value} {i : Option Addr} {k : Nat} {g : Nat} (hbu1 : (OE.win 3 1 au1 nu1 cu1 preu1 xsu1 postu1).ok w) (hfu1 : ∀ b, (OE.win 3 1 au1 nu1 cu1 preu1 xsu1 postu1).blk = some b → F b = none) (hru1 : RowN (Rp.int .i64) F nu1 xsu1 u1) (z : SlR (Rp.int .i64) F i k g v1) :
  Calls Tryz.prog 123 #[.slice au1 nu1 cu1, .slice i k g, .int .i64 guess1] w fun e w' => ∃ v F' xs' O', e = .returned v ∧ HS F w (blks (OE.win 3 1 au1 nu1 cu1 preu1 xsu1 postu1)) F' (.win 3 1 au1 nu1 cu1 preu1 xs' postu1 :: O') w' ∧ (v = .int .i64 r.2 ∧ O' = [] ∧ RowN (Rp.int .i64) F' nu1 xs' r.1) := by
 unfold a9w at hm
 have h := HS.lendE hs hbu1 hfu1
 refine a1a 78 Tryz.func123 Y Y Y (a0h (a0a (a0b Y Y Y (a0g (a0c (a0h (a0a (a0b Y Y Y (a0g (a0c (a0h (a0h (a0a (a0d Y Y Y (a1x hru1.len u28 Y Y Y (a0d Y Y Y (a0g (a0c (a1i ?_)))))))))))))))))))
 intro a g0
 obtain ⟨kont2, hkont2⟩ : ∃ kont2 : Int → (List Int) → Option ((List Int) × Int), kont2 = (fun (borrow2 : Int) (l2 : List Int) => bif borrow2 == 0 then some (l2, guess1) else a5w n v1 l2 (fun (l4 : List Int) => some (l4, isub .i64 guess1 1)) n 0 0 l2) := ⟨_, Y⟩
 replace hm : (fun m (s : Int × Int × List Int) => a7a n u1 v1 guess1 kont2 m s.1 s.2.1 s.2.2) n (0, 0, u1) = some r := by rw [hkont2]; exact hm
 refine a5p (id := 0) (fun m (s : Int × Int × List Int) => a7a n u1 v1 guess1 kont2 m s.1 s.2.1 s.2.2) (fun (y : Int × List Int) => kont2 y.1 y.2) r (fun (s : Int × Int × List Int) a w' => ∃ (G : Frz) (xss2 : List Value), Frz.le F G ∧ HS F w (blks (OE.win 3 1 au1 nu1 cu1 preu1 xsu1 postu1)) G [.win 3 1 au1 nu1 cu1 preu1 xss2 postu1] w' ∧ (RowN (Rp.int .i64) G nu1 xss2 s.2.2) ∧ Has 78 a [(0, .slice au1 nu1 cu1), (1, .slice i k g), (2, .int .i64 guess1), (7, .int .i64 s.1), (13, .int .i64 (u1.length : Int)), (14, .int .i64 s.2.1)]) (fun (y : Int × List Int) a w' => ∃ (t : Frz) (xss3 : List Value), Frz.le F t ∧ HS F w (blks (OE.win 3 1 au1 nu1 cu1 preu1 xsu1 postu1)) t [.win 3 1 au1 nu1 cu1 preu1 xss3 postu1] w' ∧ (RowN (Rp.int .i64) t nu1 xss3 y.2) ∧ Has 78 a [(0, .slice au1 nu1 cu1), (1, .slice i k g), (2, .int .i64 guess1), (7, .int .i64 y.1)]) (fun _ => Y) ?_ ?_ hm ⟨_, xsu1, Yf, h.Yp [0] Y Y, hru1, g0.cut (l := [0, 1, 2, 7, 13, 14]) Y⟩
 clear hm; rintro ⟨borrow2, l2⟩ a he hm ⟨t, xss3, gd, g3, M, g4⟩
 rw [hkont2] at hm
 replace hm := hm
 refine a2g (e := .exit 0) g4 (a1k (a0c (a0h (a0h (a0a (a0d Y Y Y (a0u Y Y Y Y Y (a0g (a0c ?_)))))))))
 rcases a0f hm with ⟨N, hm⟩ | ⟨N, hm⟩
 refine a0r 45 Y N (a0y Y (a0h (a0a (a0d Y Y Y (a0b Y Y Y (a0g (a0c (a1d (a0j (a1j Y Y ?_))))))))))
 obtain rfl := Yo hm
 exact ⟨_, _, _, _, Y, g3.Yp [0] Y Y, Y, Y, M⟩
 refine a0r 45 Y N (a0q Y (a1c (a0c (a0h (a0a (a0b Y Y Y (a0g (a0c (a0h (a0h (a0a (a0d Y Y Y (a1x M.len u28 Y Y Y (a0d Y Y Y (a0g (a0c (a1i ?_)))))))))))))))))
 intro a g5
 obtain ⟨kont1, hkont1⟩ : ∃ kont1 : (List Int) → Option ((List Int) × Int), kont1 = (fun (l4 : List Int) => some (l4, isub .i64 guess1 1)) := ⟨_, Y⟩
 replace hm : (fun m (s : Int × Int × List Int) => a5w n v1 l2 kont1 m s.1 s.2.1 s.2.2) n (0, 0, l2) = some r := by rw [hkont1]; exact hm
 refine a5p (id := 2) (fun m (s : Int × Int × List Int) => a5w n v1 l2 kont1 m s.1 s.2.1 s.2.2) (fun (y : List Int) => kont1 y) r (fun (s : Int × Int × List Int) a w' => ∃ (H : Frz) (xss4 : List Value), Frz.le t H ∧ HS F w (blks (OE.win 3 1 au1 nu1 cu1 preu1 xsu1 postu1)) H [.win 3 1 au1 nu1 cu1 preu1 xss4 postu1] w' ∧ (RowN (Rp.int .i64) H nu1 xss4 s.2.2) ∧ Has 78 a [(0, .slice au1 nu1 cu1), (1, .slice i k g), (2, .int .i64 guess1), (10, .int .i64 s.1), (48, .int .i64 (l2.length : Int)), (49, .int .i64 s.2.1)]) (fun (y : List Int) a w' => ∃ (I : Frz) (xss5 : List Value), Frz.le t I ∧ HS F w (blks (OE.win 3 1 au1 nu1 cu1 preu1 xsu1 postu1)) I [.win 3 1 au1 nu1 cu1 preu1 xss5 postu1] w' ∧ (RowN (Rp.int .i64) I nu1 xss5 y) ∧ Has 78 a [(2, .int .i64 guess1)]) (fun _ => Y) ?_ ?_ hm ⟨_, xss3, Yf, g3.Yp [0] Y Y, M, g5.cut (l := [0, 1, 2, 10, 48, 49]) Y⟩
 clear hm; rintro l4 a hf hm ⟨I, xss5, hg, ge, gf, g6⟩
 rw [hkont1] at hm
 replace hm := hm
 refine a2g (e := .exit 2) g6 (a1k (a0c (a0h (a0a (a0d Y Y Y (a0u Y Y Y Y Y (a0b Y Y Y (a0g (a0c (a1d (a1j Y Y ?_)))))))))))
 obtain rfl := Yo hm
 exact ⟨_, _, _, _, Y, ge.Yp [0] Y Y, Y, Y, gf⟩
 clear hm hkont1; intro hk1 mx1 K ihx1
 rintro ⟨carry1, i2, l3⟩ a gg hm ⟨H, xss4, Q, u, J, g7⟩
 simp only [b1z] at hm
 refine a1n g7 (a0h (a0a (a0u Y Y Y Y Y (a0g (a0c (a0h ?_))))))
 rcases a0f hm with ⟨R, hm⟩ | ⟨R, hm⟩
 refine a0r 50 Y R (a0y Y (a1c (a0c (a0h (a1i (a0h (a0a (a0d Y Y Y (a0b Y Y Y (a0g (a0c (a0h (a0a (a0d Y Y Y (a0d Y Y Y (a0d Y Y Y ?_))))))))))))))))
 obtain ⟨ex1, gh, hm⟩ := Yb hm
 refine a4b (r := (Rp.int .i64)) u28 sz3 Y Y u Y Y (p := 0) Y Y J gh ?_
 intro b1 o1 g g8 ho1 gi hp1
 have gj : g = [.int .i64 ex1] := gi
 subst gj
 refine a4f (j := 0) ag3 Y Y u Y (p := 0) Y Y g8 ho1 hp1 Y (a0u Y Y Y Y Y (a0b Y Y Y (a0g (a0c (a0h (a0h (a0a (a0d Y Y Y (a0d Y Y Y (a1x z.len u28 Y Y Y (a0u Y Y Y Y Y (a0g (a0c ?_)))))))))))))
 obtain ⟨carry2, o, hm⟩ := Yb hm
 refine a9a (fun a w' => gg = w' ∧ Has 78 a [(0, .slice au1 nu1 cu1), (1, .slice i k g), (2, .int .i64 guess1), (10, .int .i64 carry2), (11, .int .i64 i2), (48, .int .i64 (l2.length : Int)), (49, .int .i64 i2)]) ?_ ?_
 rintro a hh ⟨rfl, g9⟩
 refine a1n g9 (a0h (a0a (a0d Y Y Y (a0d Y Y Y (a0d Y Y Y (a0u Y Y Y Y Y ?_))))))
 obtain ⟨ex2, gk, hm⟩ := Yb hm
 refine a4b (r := (Rp.int .i64)) u28 sz3 Y Y u Y Y (p := 0) Y Y J gk ?_
 intro b2 o2 gl ga ho2 gm hp2
 have gn : gl = [.int .i64 ex2] := gm
 subst gn
 obtain ⟨l5, go, hm⟩ := Yb hm
 refine a8b (r := (Rp.int .i64)) sz3 Y u Y Y Y Y Y (p := 0) Y Y ga ho2 J Y Y go ?_
 intro hi xs1 gp gq
 refine a0g (a0c (a0a (a0d Y Y Y ?_)))
 obtain ⟨q1, hq1, hm⟩ := Yb hm
 refine c7w Y Y Y Y hq1 (a0b Y Y Y (a0g (a1q (a0c (a0a (a0u Y Y Y Y Y (a0d Y Y Y (a0g (a0o (fun a ha => ihx1 (q1, (iadd .i64 i2 1), l5) a _ hm ?_))))))))))
 exact ⟨_, xs1, Q, gp.Yp [0] Y Y, gq, ha.cut (l := [0, 1, 2, 10, 48, 49]) Y⟩
 clear hm
 rcases a0f o with ⟨T, o⟩ | ⟨T, o⟩
 refine a0r 61 Y T (a0y Y (a0a (a0d Y Y Y (a0d Y Y Y (a0d Y Y Y ?_)))))
 obtain ⟨ex3, gr, o⟩ := Yb o
 refine a2e (r := (Rp.int .i64)) u28 sz3 Y Y Y Y ((z.mono gd).mono Q) gr ?_
 intro b3 o3 gs gt gu
 have gv : gs = [.int .i64 ex3] := gu
 subst gv
 refine a1s (j := 0) ag3 Y Y u gt Y Y (a0u Y Y Y Y Y (a0b Y Y Y (a0g (a0o (fun a ha => ?_)))))
 cases o
 exact ⟨Y, ha.cut (l := [0, 1, 2, 10, 11, 48, 49]) Y⟩
 refine a0r 61 Y T (a0q Y (a1c (a0o (fun a ha => ?_))))
 cases o
 exact ⟨Y, ha.cut (l := [0, 1, 2, 10, 11, 48, 49]) Y⟩
 refine a0r 50 Y R (a0q Y (a3p (a0x (a0x (fun a ha => hk1 l3 a _ hm ?_)))))
 exact ⟨_, xss4, Q, u.Yp [0] Y Y, J, ha.cut (l := [2]) Y⟩
 clear hm hkont2; intro hk2 mx2 K ihx2
 rintro ⟨borrow1, i1, l1⟩ a gw hm ⟨G, xss2, U, x, L, gb⟩
 simp only [b2i] at hm
 refine a1n gb (a0h (a0a (a0u Y Y Y Y Y (a0g (a0c (a0h ?_))))))
 rcases a0f hm with ⟨V, hm⟩ | ⟨V, hm⟩
 refine a0r 15 Y V (a0y Y (a1c (a0c (a0h (a1i (a0h (a0a (a0d Y Y Y (a0b Y Y Y (a0g (a0c (a0h (a0a (a0d Y Y Y (a0d Y Y Y ?_)))))))))))))))
 obtain ⟨ex4, gx, hm⟩ := Yb hm
 refine a4b (r := (Rp.int .i64)) u28 sz3 Y Y x Y Y (p := 0) Y Y L gx ?_
 intro b4 o4 gy gc ho3 gz hp3
 have h0 : gy = [.int .i64 ex4] := gz
 subst h0
 refine a4f (j := 0) ag3 Y Y x Y (p := 0) Y Y gc ho3 hp3 Y (a0d Y Y Y (a0u Y Y Y Y Y (a0b Y Y Y (a0g (a0c (a0h (a0h (a0a (a0d Y Y Y (a0d Y Y Y (a1x z.len u28 Y Y Y (a0u Y Y Y Y Y (a0g (a0c ?_))))))))))))))
 obtain ⟨nx1, q, hm⟩ := Yb hm
 refine a9a (fun a w' => gw = w' ∧ Has 78 a [(0, .slice au1 nu1 cu1), (1, .slice i k g), (2, .int .i64 guess1), (8, .int .i64 i1), (9, .int .i64 nx1), (13, .int .i64 (u1.length : Int)), (14, .int .i64 i1)]) ?_ ?_
 rintro a hj ⟨rfl, g1⟩
 refine a1n g1 (a0h (a0a (a0d Y Y Y (a0d Y Y Y (a0d Y Y Y (a0u Y Y Y Y Y ?_))))))
 obtain ⟨ex5, h1, hm⟩ := Yb hm
 refine a4b (r := (Rp.int .i64)) u28 sz3 Y Y x Y Y (p := 0) Y Y L h1 ?_
 intro b5 o5 h2 g2 ho4 h3 hp4
 have h4 : h2 = [.int .i64 ex5] := h3
 subst h4
 obtain ⟨l6, h5, hm⟩ := Yb hm
 refine a8b (r := (Rp.int .i64)) sz3 Y x Y Y Y Y Y (p := 0) Y Y g2 ho4 L Y Y h5 ?_
 intro hk xs2 h6 h7
 refine a0g (a0c (a0a (a0d Y Y Y ?_)))
 obtain ⟨q2, hq2, hm⟩ := Yb hm
 refine c7w Y Y Y Y hq2 (c8a Y Y Y (a0b Y Y Y (a0g (a1q (a0c (a0a (a0u Y Y Y Y Y (a0d Y Y Y (a0g (a0o (fun a ha => ihx2 ((IntKind.i64.wrap (0 - q2)), (iadd .i64 i1 1), l6) a _ hm ?_)))))))))))
 exact ⟨_, xs2, U, h6.Yp [0] Y Y, h7, ha.cut (l := [0, 1, 2, 7, 13, 14]) Y⟩
 clear hm
 rcases a0f q with ⟨Z, q⟩ | ⟨Z, q⟩
 refine a0r 26 Y Z (a0y Y (a0a (a0d Y Y Y (a0d Y Y Y (a0d Y Y Y (a0d Y Y Y ?_))))))
 obtain ⟨ex6, h8, q⟩ := Yb q
 refine a2e (r := (Rp.int .i64)) u28 sz3 Y Y Y Y (z.mono U) h8 ?_
 intro b6 o6 h9 hb hc
 have hd : h9 = [.int .i64 ex6] := hc
 subst hd
 refine a1s (j := 0) ag3 Y Y x hb Y Y (a0u Y Y Y Y Y (a0u Y Y Y Y Y (a0b Y Y Y (a0g (a0o (fun a ha => ?_))))))
 cases q
 exact ⟨Y, ha.cut (l := [0, 1, 2, 8, 9, 13, 14]) Y⟩
 refine a0r 26 Y Z (a0q Y (a1c (a0o (fun a ha => ?_))))
 cases q
 exact ⟨Y, ha.cut (l := [0, 1, 2, 8, 9, 13, 14]) Y⟩
 refine a0r 15 Y V (a0q Y (a3p (a0x (a0x (fun a ha => hk2 (borrow1, l1) a _ hm ?_)))))
 exact ⟨_, xss2, U, x.Yp [0] Y Y, L, ha.cut (l := [0, 1, 2, 7]) Y⟩
end Go.Proofs.YtknpjecpcmajiaaGreat.M

namespace Go.Proofs.YtknpjecpcmajiaaGreat.M
open Go Go.RowKit Rt
theorem ent120 : Ent Tryz.prog 120 := fun _ _ => by kernel_rfl
theorem ent122 : Ent Tryz.prog 122 := fun _ _ => by kernel_rfl
theorem ent123 : Ent Tryz.prog 123 := fun _ _ => by kernel_rfl
def a9u (n : Nat) (v6 : (List Int)) (i1 : Int) (l5 : List Int) (kont2 : Int → Option ((List Int) × (List Int))) : Nat → Int → Int → Option ((List Int) × (List Int))
 | 0, _, _ => none
 | mx2 + 1, guess1, rest1 =>
  (bif decide (1048576 ≤ guess1) then
   some true
  else
   (bif decide (rest1 < 1048576) then
    (ix v6 (isub .i64 (v6.length : Int) 2)).bind fun ex8 =>
    (shl .i64 rest1 20).bind fun q4 =>
    (ix l5 (isub .i64 (iadd .i64 i1 (v6.length : Int)) 2)).bind fun ex9 =>
    some (decide ((ior .i64 q4 ex9) < (imul .i64 guess1 ex8)))
   else
    some false).bind fun v12 =>
   some v12).bind fun v11 =>
  bif v11 then
   (ix v6 (isub .i64 (v6.length : Int) 1)).bind fun ex7 =>
   a9u n v6 i1 l5 kont2 mx2 (isub .i64 guess1 1) (iadd .i64 rest1 ex7)
  else
   kont2 guess1
theorem b2q (n : Nat) (v6 : (List Int)) (i1 : Int) (l5 : List Int) (kont2 : Int → Option ((List Int) × (List Int))) (mx2 : Nat) (guess1 : Int) (rest1 : Int) : a9u n v6 i1 l5 kont2 (mx2 + 1) guess1 rest1 =
  (bif decide (1048576 ≤ guess1) then
   some true
  else
   (bif decide (rest1 < 1048576) then
    (ix v6 (isub .i64 (v6.length : Int) 2)).bind fun ex8 =>
    (shl .i64 rest1 20).bind fun q4 =>
    (ix l5 (isub .i64 (iadd .i64 i1 (v6.length : Int)) 2)).bind fun ex9 =>
    some (decide ((ior .i64 q4 ex9) < (imul .i64 guess1 ex8)))
   else
    some false).bind fun v12 =>
   some v12).bind fun v11 =>
  bif v11 then
   (ix v6 (isub .i64 (v6.length : Int) 1)).bind fun ex7 =>
   a9u n v6 i1 l5 kont2 mx2 (isub .i64 guess1 1) (iadd .i64 rest1 ex7)
  else
   kont2 guess1 := rfl
def a8u (n : Nat) (v6 : (List Int)) (kont1 : (List Int) → (List Int) → Option ((List Int) × (List Int))) : Nat → Int → (List Int) → (List Int) → Option ((List Int) × (List Int))
 | 0, _, _, _ => none
 | mx1 + 1, i1, l4, l5 =>
  bif decide (0 ≤ i1) then
   (ix l5 (iadd .i64 i1 (v6.length : Int))).bind fun ex2 =>
   (shl .i64 ex2 20).bind fun q1 =>
   (ix l5 (isub .i64 (iadd .i64 i1 (v6.length : Int)) 1)).bind fun ex3 =>
   (ix v6 (isub .i64 (v6.length : Int) 1)).bind fun ex4 =>
   (quo .i64 (ior .i64 q1 ex3) ex4).bind fun q2 =>
   (ix v6 (isub .i64 (v6.length : Int) 1)).bind fun ex5 =>
   (rem (ior .i64 q1 ex3) ex5).bind fun q3 =>
   a9u n v6 i1 l5 (fun (guess2 : Int) =>
    (lsl l5 i1 (iadd .i64 (iadd .i64 i1 (v6.length : Int)) 1)).bind fun l8 =>
    (a9w n l8 v6 guess2).bind fun v10 =>
    (ix l4 i1).bind fun _ =>
    (lset l4 i1 v10.2).bind fun l9 =>
    a8u n v6 kont1 mx1 (isub .i64 i1 1) l9 (lput l5 i1 v10.1 (iadd .i64 (iadd .i64 i1 (v6.length : Int)) 1))) n q2 q3
  else
   kont1 l4 l5
theorem b4x (n : Nat) (v6 : (List Int)) (kont1 : (List Int) → (List Int) → Option ((List Int) × (List Int))) (mx1 : Nat) (i1 : Int) (l4 : List Int) (l5 : List Int) : a8u n v6 kont1 (mx1 + 1) i1 l4 l5 =
  bif decide (0 ≤ i1) then
   (ix l5 (iadd .i64 i1 (v6.length : Int))).bind fun ex2 =>
   (shl .i64 ex2 20).bind fun q1 =>
   (ix l5 (isub .i64 (iadd .i64 i1 (v6.length : Int)) 1)).bind fun ex3 =>
   (ix v6 (isub .i64 (v6.length : Int) 1)).bind fun ex4 =>
   (quo .i64 (ior .i64 q1 ex3) ex4).bind fun q2 =>
   (ix v6 (isub .i64 (v6.length : Int) 1)).bind fun ex5 =>
   (rem (ior .i64 q1 ex3) ex5).bind fun q3 =>
   a9u n v6 i1 l5 (fun (guess2 : Int) =>
    (lsl l5 i1 (iadd .i64 (iadd .i64 i1 (v6.length : Int)) 1)).bind fun l8 =>
    (a9w n l8 v6 guess2).bind fun v10 =>
    (ix l4 i1).bind fun _ =>
    (lset l4 i1 v10.2).bind fun l9 =>
    a8u n v6 kont1 mx1 (isub .i64 i1 1) l9 (lput l5 i1 v10.1 (iadd .i64 (iadd .i64 i1 (v6.length : Int)) 1))) n q2 q3
  else
   kont1 l4 l5 := rfl
def b0u (n : Nat) (b1 : (List Int)) (kont3 : Int → Option ((List Int) × (List Int))) : Nat → Int → Option ((List Int) × (List Int))
 | 0, _ => none
 | mx3 + 1, shift1 =>
  (ix b1 (isub .i64 (b1.length : Int) 1)).bind fun ex10 =>
  bif decide ((imul .i64 ex10 shift1) < 524288) then
   b0u n b1 kont3 mx3 (imul .i64 shift1 2)
  else
   kont3 shift1
theorem b2s (n : Nat) (b1 : (List Int)) (kont3 : Int → Option ((List Int) × (List Int))) (mx3 : Nat) (shift1 : Int) : b0u n b1 kont3 (mx3 + 1) shift1 =
  (ix b1 (isub .i64 (b1.length : Int) 1)).bind fun ex10 =>
  bif decide ((imul .i64 ex10 shift1) < 524288) then
   b0u n b1 kont3 mx3 (imul .i64 shift1 2)
  else
   kont3 shift1 := rfl
def b4s (n : Nat) (ax1 : (List Int)) (b1 : (List Int)) : Option ((List Int) × (List Int)) :=
 (a7q n ax1 b1).bind fun v1 =>
 bif decide (v1 < 0) then
  (a2c n ax1).bind fun v2 =>
  some ([], v2)
 else
  bif (b1.length : Int) == 1 then
   (ix b1 0).bind fun ex1 =>
   (a8z n ax1 ex1).bind fun v3 =>
   (a3x n [v3.2]).bind fun v4 =>
   some (v3.1, v4)
  else
   b0u n b1 (fun (shift2 : Int) =>
    (b3d n ax1 [shift2]).bind fun v5 =>
    (app 8 v5 [0]).bind fun l1 =>
    (b3d n b1 [shift2]).bind fun v6 =>
    (bif (l1.length : Int) == (ax1.length : Int) then
     (app 8 l1 [0]).bind fun l10 =>
     some l10
    else
     some l1).bind fun l2 =>
    (mks 8 0 (isub .i64 (l2.length : Int) (v6.length : Int))).bind fun l3 =>
    a8u n v6 (fun (l6 : List Int) (l7 : List Int) =>
     (a3x n l7).bind fun v7 =>
     (a8z n v7 shift2).bind fun v8 =>
     (a3x n l6).bind fun v9 =>
     some (v9, v8.1)) n (isub .i64 (l3.length : Int) 1) l3 l2) n 1
theorem c2g (n : Nat) (ax1 : (List Int)) (b1 : (List Int)) (r : ((List Int) × (List Int))) (hm : b4s n ax1 b1 = some r) {w : World} {F : Frz} (hs : Sat F w) {gp gq : Option Addr} {gr g4 gs g5 : Nat} (gc : SlR (Rp.int .i64) F gp gr g4 ax1) (g6 : SlR (Rp.int .i64) F gq gs g5 b1) :
  Calls Tryz.prog 81 #[.slice gp gr g4, .slice gq gs g5] w fun e w' => ∃ v F' O', e = .returned v ∧ HS F w [] F' O' w' ∧ (∃ (a0_0 : Option Addr) (n0_0 : Nat) (c0_0 : Nat) (a1_0 : Option Addr) (n1_0 : Nat) (c1_0 : Nat) (xs1_0 : List Value), v = .tuple #[.slice a0_0 n0_0 c0_0, .slice a1_0 n1_0 c1_0] ∧ O' = [.row 3 1 a1_0 n1_0 c1_0 xs1_0] ∧ SlR (Rp.int .i64) F' a0_0 n0_0 c0_0 r.1 ∧ RowN (Rp.int .i64) F' n1_0 xs1_0 r.2) := by
 unfold b4s at hm
 have h := HS.init hs
 refine a1a 170 Tryz.func81 Y Y Y (a0h (a0a (a0b Y Y Y (a0b Y Y Y (a0g (a0c (a0h (a0h (a0a (a0d Y Y Y (a0d Y Y Y ?_)))))))))))
 obtain ⟨v1, k3, hm⟩ := Yb hm
 refine a0i ent85 Y Y Y Y h (b3b _ _ _ _ k3 h.sat gc g6) ?_
 rintro _ k4 _ i7 g7 R ⟨rfl, rfl⟩
 refine a0u Y Y Y Y Y (a0g (a0c ?_))
 rcases a0f hm with ⟨gx, hm⟩ | ⟨gx, hm⟩
 refine a0r 22 Y gx (a0y Y (a0h (a0a (a0d Y Y Y ?_))))
 obtain ⟨v2, k5, hm⟩ := Yb hm
 refine a0i ent67 Y Y Y Y R (a2m _ _ _ k5 R.sat (gc.mono g7)) ?_
 rintro _ mp _ mq mr k6 ⟨i8, i9, gt, xss3, rfl, rfl, k7⟩
 refine a0b Y Y Y (a0b Y Y Y (a0g (a0c (a1d (a0j (a1o (vl := [.slice none 0 0, .slice i8 i9 gt]) Y ⟨a1r Y, a1r Y, trivial⟩ (by simp) ?_))))))
 obtain rfl := Yo hm
 exact ⟨_, _, _, Y, k6.Yp [0] Y Y, none, 0, 0, i8, i9, gt, xss3, Y, Y, SlR.nil _ _, k7⟩
 refine a0r 22 Y gx (a0q Y (a1c (a0c (a0h (a0h (a0a (a0d Y Y Y (a1x g6.len u28 Y Y Y (a0u Y Y Y Y Y (a0g (a0c ?_)))))))))))
 rcases a0f hm with ⟨gy, hm⟩ | ⟨gy, hm⟩
 refine a0r 27 Y gy (a0y Y (a0h (a0a (a0d Y Y Y (a0d Y Y Y ?_)))))
 obtain ⟨ex1, k8, hm⟩ := Yb hm
 refine a2e (r := (Rp.int .i64)) u28 sz3 Y Y Y Y (g6.mono g7) k8 ?_
 intro b2 o1 g4 k9 ka
 have kb : g4 = [.int .i64 ex1] := ka
 subst kb
 refine a1s (j := 0) ag3 Y Y R k9 Y Y ?_
 obtain ⟨v3, kc, hm⟩ := Yb hm
 refine a0i ent120 Y Y Y Y R (b8q _ _ _ _ kc R.sat (gc.mono g7)) ?_
 rintro _ ia _ ms mt kd ⟨ib, ic, gu, xss4, rfl, rfl, ke⟩
 refine a0d Y Y Y (a0l Y Y Y Y (a0l Y Y Y Y (a0b Y Y Y (a0b Y Y Y (a0g (a0c (a0h (a0a (a0d Y Y Y (a0d Y Y Y (a1v (e := 3) (cs := [.int .i64 v3.2]) (q := 1) Y Y kd Y (fun _ => by kernel_rfl) Y Y ?_)))))))))))
 intro b3 mu ie
 obtain ⟨v4, kf, hm⟩ := Yb hm
 refine b4p ent121 Y Y Y Y (a7r _ _ _ kf (b1t _) (ie.viewRow (p := 0) Y Y ((show RowN (Rp.int .i64) ia 1 [.int .i64 v3.2] [v3.2] from ⟨Y, ⟨_, _, Y, Y, (Y : RowR (Rp.int .i64) _ [] [])⟩⟩)))) ?_
 intro gz hles5 hvs5
 obtain ⟨kg, ig⟩ := ie.cutN (p := 0) Y ((show RowN (Rp.int .i64) ia 1 [.int .i64 v3.2] [v3.2] from ⟨Y, ⟨_, _, Y, Y, (Y : RowR (Rp.int .i64) _ [] [])⟩⟩)) hles5
 rw [← hvs5] at ig
 refine a0b Y Y Y (a0b Y Y Y (a0g (a0c (a1d (a0j ?_)))))
 obtain ⟨mv, kh, ki, hsx1⟩ := a1h kg (i := 1) Y ke
 refine a1o (vl := [.slice ib ic gu, .slice (some ⟨b3, 0, none⟩) gz 1]) Y ⟨a1r Y, a1r Y, trivial⟩ (by simp) ?_
 obtain rfl := Yo hm
 exact ⟨_, _, _, Y, ki.Yp [0] Y Y, ib, ic, gu, (some ⟨b3, 0, none⟩), gz, 1, ([.int .i64 v3.2].take (gz * ((Rp.int .i64)).k)), Y, Y, hsx1, (ig.mono kh)⟩
 refine a0r 27 Y gy (a0q Y (a1c (a0c (a0h (a0a (a0b Y Y Y (a0g (a0c (a0h (a1i ?_))))))))))
 intro a ht
 obtain ⟨kont3, hkont3⟩ : ∃ kont3 : Int → Option ((List Int) × (List Int)), kont3 = (fun (shift2 : Int) => (b3d n ax1 [shift2]).bind fun v5 => (app 8 v5 [0]).bind fun l1 => (b3d n b1 [shift2]).bind fun v6 => (bif (l1.length : Int) == (ax1.length : Int) then (app 8 l1 [0]).bind fun l10 => some l10 else some l1).bind fun l2 => (mks 8 0 (isub .i64 (l2.length : Int) (v6.length : Int))).bind fun l3 => a8u n v6 (fun (l6 : List Int) (l7 : List Int) => (a3x n l7).bind fun v7 => (a8z n v7 shift2).bind fun v8 => (a3x n l6).bind fun v9 => some (v9, v8.1)) n (isub .i64 (l3.length : Int) 1) l3 l2) := ⟨_, Y⟩
 replace hm : (fun m (s : Int) => b0u n b1 kont3 m s) n 1 = some r := by rw [hkont3]; exact hm
 refine a5p (id := 0) (fun m (s : Int) => b0u n b1 kont3 m s) (fun (y : Int) => kont3 y) r (fun (s : Int) a w' => i7 = w' ∧ Has 170 a [(0, .slice gp gr g4), (1, .slice gq gs g5), (8, .int .i64 s)]) (fun (y : Int) a w' => i7 = w' ∧ Has 170 a [(0, .slice gp gr g4), (1, .slice gq gs g5), (8, .int .i64 y)]) (fun _ => Y) ?_ ?_ hm ⟨Y, ht.cut (l := [0, 1, 8]) Y⟩
 clear hm; rintro shift2 a mw hm ⟨rfl, iw⟩
 rw [hkont3] at hm
 replace hm := hm
 refine a2g (e := .exit 0) iw (a1k (a0c (a0h (a0a (a0d Y Y Y (a0d Y Y Y (a1v (e := 3) (cs := [.int .i64 shift2]) (q := 1) Y Y R Y (fun _ => by kernel_rfl) Y Y ?_)))))))
 intro b4 mx kj
 obtain ⟨my, ih, ii, hsx2⟩ := a1h kj (i := 0) Y ((show RowN (Rp.int .i64) k4 1 [.int .i64 shift2] [shift2] from ⟨Y, ⟨_, _, Y, Y, (Y : RowR (Rp.int .i64) _ [] [])⟩⟩))
 obtain ⟨v5, kk, hm⟩ := Yb hm
 refine a0i ent122 Y Y Y Y ii (b8c _ _ _ _ kk ii.sat ((gc.mono g7).mono ih) hsx2) ?_
 rintro _ ij _ mz kl km ⟨o0, ik, il, xss6, rfl, rfl, kn⟩
 refine a1v (e := 3) (cs := [.int .i64 0]) (q := 1) Y Y km Y (fun _ => by kernel_rfl) Y Y ?_
 intro b5 oa iy
 obtain ⟨l1, ko, hm⟩ := Yb hm
 refine a9y (r := (Rp.int .i64)) ap28 Y Y iy Y Y (i := 1) (j := 0) Y Y kn ((show RowN (Rp.int .i64) ij 1 [.int .i64 0] [0] from ⟨Y, ⟨_, _, Y, Y, (Y : RowR (Rp.int .i64) _ [] [])⟩⟩)) ko ?_
 intro kp h0 ob iz h1
 refine a0d Y Y Y (a0d Y Y Y (a1v (e := 3) (cs := [.int .i64 shift2]) (q := 1) Y Y iz Y (fun _ => by kernel_rfl) Y Y ?_))
 intro b6 lx j0
 obtain ⟨oc, h2, h3, hsx3⟩ := a1h j0 (i := 0) Y ((show RowN (Rp.int .i64) ij 1 [.int .i64 shift2] [shift2] from ⟨Y, ⟨_, _, Y, Y, (Y : RowR (Rp.int .i64) _ [] [])⟩⟩))
 have kq := ((g7.trans ih).trans kl).trans h2
 obtain ⟨v6, kr, hm⟩ := Yb hm
 refine a0i ent122 Y Y Y Y h3 (b8c _ _ _ _ kr h3.sat (g6.mono kq) hsx3) ?_
 rintro _ im _ ly io h4 ⟨T, U, L, xss8, rfl, rfl, ip⟩
 refine a0b Y Y Y (a0b Y Y Y (a0g (a0c (a0h (a0h (a0a (a0d Y Y Y (a1x h1.len u28 Y Y Y (a0d Y Y Y (a1x gc.len u28 Y Y Y (a0u Y Y Y Y Y (a0g (a0c ?_)))))))))))))
 obtain ⟨l2, V, hm⟩ := Yb hm
 refine a9a (fun a w' => ∃ (gv : Frz) (gw : Option Addr) (gd : Nat) (g8 : Nat) (xss9 : List Value), Frz.le im gv ∧ HS F w [] gv [.row 3 1 T U L xss8, .row 3 1 (some ⟨b5, 0, none⟩) 1 1 [.int .i64 0], .row 3 1 gw gd g8 xss9] w' ∧ (RowN (Rp.int .i64) gv gd xss9 l2) ∧ Has 170 a [(8, .int .i64 shift2), (9, .slice gw gd g8), (10, .slice T U L)]) ?_ ?_
 rintro a lz ⟨gv, gw, gd, g8, xss9, ks, j1, iq, j2⟩
 refine a1n j2 (a0h (a0a (a0d Y Y Y (a1x ip.len u28 Y Y Y (a0b Y Y Y (a0g (a0c (a0h (a0a (a0d Y Y Y (a1x iq.len u28 Y Y Y (a0d Y Y Y (a0u Y Y Y Y Y ?_)))))))))))))
 obtain ⟨l3, kt, hm⟩ := Yb hm
 refine c2r (r := (Rp.int .i64)) ap28 zi3 (fun _ => Y) Y Y Y j1 Y Y kt ?_
 intro b7 m0 xs1 j3 ir
 refine a0b Y Y Y (a0g (a0c (a0h (a0h (a0a (a0d Y Y Y (a1x ir.len u28 Y Y Y (a0u Y Y Y Y Y (a0b Y Y Y (a0g (a0c (a1i ?_))))))))))))
 obtain ⟨h5, h6, j4, hsx4⟩ := a1h j3 (i := 1) Y (ip.mono ks)
 intro a hu
 obtain ⟨kont1, hkont1⟩ : ∃ kont1 : (List Int) → (List Int) → Option ((List Int) × (List Int)), kont1 = (fun (l6 : List Int) (l7 : List Int) => (a3x n l7).bind fun v7 => (a8z n v7 shift2).bind fun v8 => (a3x n l6).bind fun v9 => some (v9, v8.1)) := ⟨_, Y⟩
 replace hm : (fun m (s : Int × List Int × List Int) => a8u n v6 kont1 m s.1 s.2.1 s.2.2) n ((isub .i64 (l3.length : Int) 1), l3, l2) = some r := by rw [hkont1]; exact hm
 refine a5p (id := 2) (fun m (s : Int × List Int × List Int) => a8u n v6 kont1 m s.1 s.2.1 s.2.2) (fun (y : List Int × List Int) => kont1 y.1 y.2) r (fun (s : Int × List Int × List Int) a w' => ∃ (Z : Frz) (u : Option Addr) (o : Nat) (g : Nat) (xss10 : List Value) (x : Option Addr) (t : Nat) (z : Nat) (xss11 : List Value), Frz.le h5 Z ∧ HS F w [] Z [.row 3 1 u o g xss10, .row 3 1 x t z xss11] w' ∧ (RowN (Rp.int .i64) Z o xss10 s.2.1) ∧ (RowN (Rp.int .i64) Z t xss11 s.2.2) ∧ Has 170 a [(8, .int .i64 shift2), (9, .slice x t z), (10, .slice T U L), (11, .int .i64 (v6.length : Int)), (12, .slice u o g), (13, .int .i64 s.1)]) (fun (y : List Int × List Int) a w' => ∃ (g0 : Frz) (g1 : Option Addr) (g9 : Nat) (g2 : Nat) (xss12 : List Value) (ge : Option Addr) (ga : Nat) (gf : Nat) (xss13 : List Value), Frz.le h5 g0 ∧ HS F w [] g0 [.row 3 1 g1 g9 g2 xss12, .row 3 1 ge ga gf xss13] w' ∧ (RowN (Rp.int .i64) g0 g9 xss12 y.1) ∧ (RowN (Rp.int .i64) g0 ga xss13 y.2) ∧ Has 170 a [(8, .int .i64 shift2), (9, .slice ge ga gf), (12, .slice g1 g9 g2)]) (fun _ => Y) ?_ ?_ hm ⟨_, (some ⟨b7, 0, none⟩), ((isub .i64 (l2.length : Int) (v6.length : Int)).toNat), ((isub .i64 (l2.length : Int) (v6.length : Int)).toNat), xs1, gw, gd, g8, xss9, Yf, j4.Yp [0, 2] Y Y, (ir.mono h6), (iq.mono h6), hu.cut (l := [8, 9, 10, 11, 12, 13]) Y⟩
 clear hm; rintro ⟨l6, l7⟩ a m1 hm ⟨g0, g1, g9, g2, xss12, ge, ga, gf, xss13, m2, h7, h8, h9, j5⟩
 rw [hkont1] at hm
 replace hm := hm
 refine a2g (e := .exit 2) j5 (a1k (a0c (a0h (a0a (a0d Y Y Y ?_)))))
 obtain ⟨v7, ku, hm⟩ := Yb hm
 refine b4p ent121 Y Y Y Y (a7r _ _ _ ku (b1t _) (h7.viewRow (p := 1) Y Y h9)) ?_
 intro m3 hles14 hvs14
 obtain ⟨j6, it⟩ := h7.cutN (p := 1) Y h9 hles14
 rw [← hvs14] at it
 refine a0d Y Y Y ?_
 obtain ⟨m4, hb, hc, hsx5⟩ := a1h j6 (i := 1) Y it
 obtain ⟨v8, kv, hm⟩ := Yb hm
 refine a0i ent120 Y Y Y Y hc (b8q _ _ _ _ kv hc.sat hsx5) ?_
 rintro _ m5 _ m6 hd he ⟨hf, hg, hh, xss15, rfl, rfl, j7⟩
 refine a0d Y Y Y (a0l Y Y Y Y (a0l Y Y Y Y (a0b Y Y Y (a0b Y Y Y (a0g (a0c (a0h (a0a (a0d Y Y Y ?_)))))))))
 obtain ⟨v9, kw, hm⟩ := Yb hm
 refine b4p ent121 Y Y Y Y (a7r _ _ _ kw (b1t _) (he.viewRow (p := 1) Y Y ((h8.mono hb).mono hd))) ?_
 intro hi hles16 hvs16
 obtain ⟨j8, iu⟩ := he.cutN (p := 1) Y ((h8.mono hb).mono hd) hles16
 rw [← hvs16] at iu
 refine a0d Y Y Y (a0b Y Y Y (a0b Y Y Y (a0g (a0c (a1d ?_)))))
 obtain ⟨m7, j9, ja, hsx6⟩ := a1h j8 (i := 1) Y iu
 refine a1o (vl := [.slice g1 hi g2, .slice hf hg hh]) Y ⟨a1r Y, a1r Y, trivial⟩ (by simp) ?_
 obtain rfl := Yo hm
 exact ⟨_, _, _, Y, ja.Yp [0] Y Y, g1, hi, g2, hf, hg, hh, xss15, Y, Y, hsx6, (j7.mono j9)⟩
 clear hm hkont1; intro hk1 mx1 K ihx1
 rintro ⟨i1, l4, l5⟩ a m8 hm ⟨Z, u, o, g, xss10, x, t, z, xss11, J, gb, gg, M, jb⟩
 simp only [b4x] at hm
 refine a1n jb (a0h (a0h (a0a (a0d Y Y Y (a0u Y Y Y Y Y (a0g (a0c ?_)))))))
 rcases a0f hm with ⟨hj, hm⟩ | ⟨hj, hm⟩
 refine a0r 80 Y hj (a0y Y (a1c (a0c (a0h (a1i (a0h (a3j (by kernel_rfl) (by kernel_rfl) gb (a1e Y Y Y Y (fun _ _ _ _ => a0d Y Y Y Yn) (a1e Y Y Y Y (fun _ _ _ _ => a0d Y Y Y Yn) (a1e Y Y Y Y (fun _ _ _ _ => a0d Y Y Y Yn) (a1e Y Y Y Y (fun _ _ _ _ => a0u Y Y Y Y Y Yn) ?_)))))))))))
 obtain ⟨ex2, kx, hm⟩ := Yb hm
 obtain ⟨b8, o2, g5, jc, ho1, ky, hp1, hv⟩ := a6p (P := Tryz.prog) (r := (Rp.int .i64)) u28 sz3 gb (p := 1) Y Y M kx
 have kz : g5 = [.int .i64 ex2] := ky
 subst kz
 refine a2o Y Y Y Y hv (a1e Y Y Y Y (fun _ _ _ hq => a4f (j := 0) ag3 Y Y hq Y (p := 1) Y Y jc ho1 hp1 Y Yn) ?_)
 obtain ⟨q1, hq1, hm⟩ := Yb hm
 refine a1e Y Y Y Y (fun _ _ _ _ => d1w Y Y Y Y hq1 Yn) (a1e Y Y Y Y (fun _ _ _ _ => a0d Y Y Y Yn) (a1e Y Y Y Y (fun _ _ _ _ => a0d Y Y Y Yn) (a1e Y Y Y Y (fun _ _ _ _ => a0d Y Y Y Yn) (a1e Y Y Y Y (fun _ _ _ _ => a0u Y Y Y Y Y Yn) (a1e Y Y Y Y (fun _ _ _ _ => a0u Y Y Y Y Y Yn) ?_)))))
 obtain ⟨ex3, l0, hm⟩ := Yb hm
 obtain ⟨b9, o3, gt, jd, ho2, la, hp2, hw⟩ := a6p (P := Tryz.prog) (r := (Rp.int .i64)) u28 sz3 gb (p := 1) Y Y M l0
 have lb : gt = [.int .i64 ex3] := la
 subst lb
 refine a2o Y Y Y Y hw (a1e Y Y Y Y (fun _ _ _ hq => a4f (j := 0) ag3 Y Y hq Y (p := 1) Y Y jd ho2 hp2 Y Yn) (a1e Y Y Y Y (fun _ _ _ _ => a0u Y Y Y Y Y Yn) (a1e Y Y Y Y (fun _ _ _ _ => a0b Y Y Y Yn) (b0t ?_))))
 rintro m9 ⟨ma, G, je⟩
 refine a0c (a0h (a3j (by kernel_rfl) (by kernel_rfl) je (a1e Y Y Y Y (fun _ _ _ _ => a0d Y Y Y Yn) (a1e Y Y Y Y (fun _ _ _ _ => a0d Y Y Y Yn) (a1e Y Y Y Y (fun _ _ _ _ => a0d Y Y Y Yn) (a1e Y Y Y Y (fun _ _ _ _ => a0u Y Y Y Y Y Yn) ?_))))))
 obtain ⟨ex4, lc, hm⟩ := Yb hm
 obtain ⟨b10, o4, gu, ld, lf, hx⟩ := a2j (P := Tryz.prog) (r := (Rp.int .i64)) u28 sz3 ((hsx4.mono J).mono G) lc
 have lg : gu = [.int .i64 ex4] := lf
 subst lg
 refine a2o Y Y Y Y hx (a1e Y Y Y Y (fun _ _ hleq hq => a1s (j := 0) ag3 Y Y hq (ld.mono hleq) Y Y Yn) ?_)
 obtain ⟨q2, hq2, hm⟩ := Yb hm
 refine a1e Y Y Y Y (fun _ _ _ _ => c8l Y Y Y Y hq2 Yn) (a1e Y Y Y Y (fun _ _ _ _ => a0d Y Y Y Yn) (a1e Y Y Y Y (fun _ _ _ _ => a0d Y Y Y Yn) (a1e Y Y Y Y (fun _ _ _ _ => a0d Y Y Y Yn) (a1e Y Y Y Y (fun _ _ _ _ => a0u Y Y Y Y Y Yn) ?_))))
 obtain ⟨ex5, lh, hm⟩ := Yb hm
 obtain ⟨b11, o5, li, lj, jf, hy⟩ := a2j (P := Tryz.prog) (r := (Rp.int .i64)) u28 sz3 ((hsx4.mono J).mono G) lh
 have lk : li = [.int .i64 ex5] := jf
 subst lk
 refine a2o Y Y Y Y hy (a1e Y Y Y Y (fun _ _ hleq hq => a1s (j := 0) ag3 Y Y hq (lj.mono hleq) Y Y Yn) ?_)
 obtain ⟨q3, hq3, hm⟩ := Yb hm
 refine a1e Y Y Y Y (fun _ _ _ _ => c9e Y Y Y Y hq3 Yn) (a1e Y Y Y Y (fun _ _ _ _ => a0b Y Y Y Yn) (a1e Y Y Y Y (fun _ _ _ _ => a0b Y Y Y Yn) (b0t ?_)))
 rintro mb ⟨hk, H, jg⟩
 refine a0c (a0h (a1i ?_))
 intro a hz
 obtain ⟨kont2, hkont2⟩ : ∃ kont2 : Int → Option ((List Int) × (List Int)), kont2 = (fun (guess2 : Int) => (lsl l5 i1 (iadd .i64 (iadd .i64 i1 (v6.length : Int)) 1)).bind fun l8 => (a9w n l8 v6 guess2).bind fun v10 => (ix l4 i1).bind fun ex6 => (lset l4 i1 v10.2).bind fun l9 => a8u n v6 kont1 mx1 (isub .i64 i1 1) l9 (lput l5 i1 v10.1 (iadd .i64 (iadd .i64 i1 (v6.length : Int)) 1))) := ⟨_, Y⟩
 replace hm : (fun m (s : Int × Int) => a9u n v6 i1 l5 kont2 m s.1 s.2) n (q2, q3) = some r := by rw [hkont2]; exact hm
 refine a5p (id := 4) (fun m (s : Int × Int) => a9u n v6 i1 l5 kont2 m s.1 s.2) (fun (y : Int) => kont2 y) r (fun (s : Int × Int) a w' => ∃ (gh : Frz), Frz.le hk gh ∧ HS F w [] gh [.row 3 1 u o g xss10, .row 3 1 x t z xss11] w' ∧ Has 170 a [(8, .int .i64 shift2), (9, .slice x t z), (10, .slice T U L), (11, .int .i64 (v6.length : Int)), (12, .slice u o g), (13, .int .i64 i1), (15, .int .i64 s.1), (16, .int .i64 s.2)]) (fun (y : Int) a w' => ∃ (gi : Frz), Frz.le hk gi ∧ HS F w [] gi [.row 3 1 u o g xss10, .row 3 1 x t z xss11] w' ∧ Has 170 a [(8, .int .i64 shift2), (9, .slice x t z), (10, .slice T U L), (11, .int .i64 (v6.length : Int)), (12, .slice u o g), (13, .int .i64 i1), (15, .int .i64 y)]) (fun _ => Y) ?_ ?_ hm ⟨_, Yf, jg.Yp [0, 1] Y Y, hz.cut (l := [8, 9, 10, 11, 12, 13, 15, 16]) Y⟩
 clear hm; rintro guess2 a mc hm ⟨gi, N, gj, jh⟩
 rw [hkont2] at hm
 replace hm := hm
 refine a2g (e := .exit 4) jh (a1k (a0c (a0a (a0d Y Y Y (a0d Y Y Y (a0d Y Y Y (a0d Y Y Y (a0d Y Y Y (a0d Y Y Y (a0u Y Y Y Y Y (a0u Y Y Y Y Y ?_)))))))))))
 obtain ⟨l8, iv, hm⟩ := Yb hm
 refine d2b u28 (r := (Rp.int .i64)) sz3 Y Y gj Y Y Y (p := 1) Y Y (((M.mono G).mono H).mono N) iv ?_
 intro md me mf ji
 refine a0d Y Y Y (a0d Y Y Y ?_)
 have ll := ((J.trans G).trans H).trans N
 obtain ⟨v10, jj, hm⟩ := Yb hm
 refine d4g (r := (Rp.int .i64)) ent123 Y Y Y Y gj (p := 1) Y Y (((M.mono G).mono H).mono N) ji (fun pre1 mid1 post1 hw1 hwf1 hwr1 => c3z _ _ _ _ _ jj gj.sat hw1 hwf1 (by rw [show l8 = _ from (b5x iv).2.2.2]; exact hwr1) (hsx4.mono ll)) ?_
 rintro _ mg _ _ mh xs2 gk hl hxx1 ⟨rfl, rfl, jk⟩
 obtain ⟨ex6, lm, hm⟩ := Yb hm
 refine a4b (r := (Rp.int .i64)) u28 sz3 Y Y hl Y Y (p := 0) Y Y ((((gg.mono G).mono H).mono N).mono gk) lm ?_
 intro b12 o6 il jl ho3 jm hp3
 have ln : il = [.int .i64 ex6] := jm
 subst ln
 obtain ⟨l9, lo, hm⟩ := Yb hm
 refine a8b (r := (Rp.int .i64)) sz3 Y hl Y Y Y Y Y (p := 0) Y Y jl ho3 ((((gg.mono G).mono H).mono N).mono gk) Y Y lo ?_
 intro mi xs3 jn jo
 refine a0g (a1q (a0c (a0a (a0d Y Y Y (a0u Y Y Y Y Y (a0b Y Y Y (a0g (a0o (fun a ha => ihx1 ((isub .i64 i1 1), l9, (lput l5 i1 v10.1 (iadd .i64 (iadd .i64 i1 (v6.length : Int)) 1))) a _ hm ?_)))))))))
 exact ⟨_, u, o, g, xs3, x, t, z, xs2, ((((J.trans G).trans H).trans N).trans gk), jn.Yp [0, 1] Y Y, jo, ((hxx1 _ jk)), ha.cut (l := [8, 9, 10, 11, 12, 13]) Y⟩
 clear hm hkont2; intro hk2 mx2 K ihx2
 rintro ⟨guess1, rest1⟩ a mj hm ⟨gh, g3, hn, jp⟩
 simp only [b2q] at hm
 refine a1n jp (a0h (a0h (a3j (by kernel_rfl) (by kernel_rfl) hn (a1e Y Y Y Y (fun _ _ _ _ => a0d Y Y Y Yn) (a1e Y Y Y Y (fun _ _ _ _ => a0u Y Y Y Y Y Yn) (a1e Y Y Y Y (fun _ _ _ _ => a0d Y Y Y Yn) ?_))))))
 obtain ⟨v11, Q, hm⟩ := Yb hm
 refine b8v 23 (fun a => Has 170 a [(8, .int .i64 shift2), (9, .slice x t z), (10, .slice T U L), (11, .int .i64 (v6.length : Int)), (12, .slice u o g), (13, .int .i64 i1), (15, .int .i64 guess1), (16, .int .i64 rest1), (137, .bool v11)]) ?_ ?_
 intro a i0
 refine a9e i0 (b0t ?_)
 rintro mk ⟨ml, gl, gm⟩
 refine a0c ?_
 rcases a0f hm with ⟨ho, hm⟩ | ⟨ho, hm⟩
 refine a0r 137 Y ho (a0y Y (a1c (a0c (a1i (a0h (a0a (a0d Y Y Y (a0u Y Y Y Y Y (a0b Y Y Y (a0g (a0c (a0a (a0d Y Y Y (a0d Y Y Y (a0d Y Y Y (a0u Y Y Y Y Y ?_))))))))))))))))
 obtain ⟨ex7, lp, hm⟩ := Yb hm
 refine a2e (r := (Rp.int .i64)) u28 sz3 Y Y Y Y (((((hsx4.mono J).mono G).mono H).mono g3).mono gl) lp ?_
 intro b13 o7 h0 lq jq
 have lr : h0 = [.int .i64 ex7] := jq
 subst lr
 refine a1s (j := 0) ag3 Y Y gm lq Y Y (a0u Y Y Y Y Y (a0b Y Y Y (a0g (a1q (a0o (fun a ha => ihx2 ((isub .i64 guess1 1), (iadd .i64 rest1 ex7)) a _ hm ?_))))))
 exact ⟨_, (g3.trans gl), gm.Yp [0, 1] Y Y, ha.cut (l := [8, 9, 10, 11, 12, 13, 15, 16]) Y⟩
 refine a0r 137 Y ho (a0q Y (a3p (a0x (a0x (fun a ha => hk2 guess1 a _ hm ?_)))))
 exact ⟨_, (g3.trans gl), gm.Yp [0, 1] Y Y, ha.cut (l := [8, 9, 10, 11, 12, 13, 15]) Y⟩
 clear hm
 rcases a0f Q with ⟨hp, Q⟩ | ⟨hp, Q⟩
 refine b1r 114 Y hp (a3g Y Y Y (a3g Y Y Y (a3g Y Y Y (a3g Y Y Y (a3g Y Y Y (a3g Y Y Y (a3g Y Y Y (a3g Y Y Y (a3g Y Y Y (a3g Y Y Y (a3g Y Y Y (a3g Y Y Y (a3g Y Y Y (a3g Y Y Y (a3g Y Y Y (a3g Y Y Y (a3g Y Y Y (a3g Y Y Y (a3g Y Y Y (a3g Y Y Y (a3g Y Y Y (a3g Y Y Y (a1e Y Y Y Y (fun _ _ _ _ => a0n Y Y Y Y Yn) (b1w (fun a ha => ?_)))))))))))))))))))))))))
 cases Q
 exact ha.cut (l := [8, 9, 10, 11, 12, 13, 15, 16, 137]) Y
 refine b1r 114 Y hp (a1e Y Y Y Y (fun _ _ _ _ => a0d Y Y Y Yn) (a1e Y Y Y Y (fun _ _ _ _ => a0u Y Y Y Y Y Yn) (a1e Y Y Y Y (fun _ _ _ _ => a0d Y Y Y Yn) ?_)))
 obtain ⟨v12, I, Q⟩ := Yb Q
 refine b8v 19 (fun a => Has 170 a [(8, .int .i64 shift2), (9, .slice x t z), (10, .slice T U L), (11, .int .i64 (v6.length : Int)), (12, .slice u o g), (13, .int .i64 i1), (15, .int .i64 guess1), (16, .int .i64 rest1), (114, .bool false), (136, .bool v12)]) ?_ ?_
 intro a i2
 refine a9e i2 (a1e Y Y Y Y (fun _ _ _ _ => a0k Y Y Y Y Yn) (b1w (fun a ha => ?_)))
 cases Q
 exact ha.cut (l := [8, 9, 10, 11, 12, 13, 15, 16, 137]) Y
 clear Q
 rcases a0f I with ⟨hr, I⟩ | ⟨hr, I⟩
 refine b1r 117 Y hr (a1e Y Y Y Y (fun _ _ _ _ => a0d Y Y Y Yn) (a1e Y Y Y Y (fun _ _ _ _ => a0d Y Y Y Yn) (a1e Y Y Y Y (fun _ _ _ _ => a0d Y Y Y Yn) (a1e Y Y Y Y (fun _ _ _ _ => a0u Y Y Y Y Y Yn) ?_))))
 obtain ⟨ex8, ls, I⟩ := Yb I
 obtain ⟨b14, o8, L, lt, jr, i3⟩ := a2j (P := Tryz.prog) (r := (Rp.int .i64)) u28 sz3 ((((hsx4.mono J).mono G).mono H).mono g3) ls
 have lu : L = [.int .i64 ex8] := jr
 subst lu
 refine a2o Y Y Y Y i3 (a1e Y Y Y Y (fun _ _ hleq hq => a1s (j := 0) ag3 Y Y hq (lt.mono hleq) Y Y Yn) (a1e Y Y Y Y (fun _ _ _ _ => a0u Y Y Y Y Y Yn) (a1e Y Y Y Y (fun _ _ _ _ => a0d Y Y Y Yn) ?_)))
 obtain ⟨q4, hq4, I⟩ := Yb I
 refine a1e Y Y Y Y (fun _ _ _ _ => d1w Y Y Y Y hq4 Yn) (a1e Y Y Y Y (fun _ _ _ _ => a0d Y Y Y Yn) (a1e Y Y Y Y (fun _ _ _ _ => a0d Y Y Y Yn) (a1e Y Y Y Y (fun _ _ _ _ => a0d Y Y Y Yn) (a1e Y Y Y Y (fun _ _ _ _ => a0u Y Y Y Y Y Yn) (a1e Y Y Y Y (fun _ _ _ _ => a0u Y Y Y Y Y Yn) ?_)))))
 obtain ⟨ex9, lv, I⟩ := Yb I
 obtain ⟨b15, o9, g8, i4, ho4, js, hp4, i5⟩ := a6p (P := Tryz.prog) (r := (Rp.int .i64)) u28 sz3 hn (p := 1) Y Y (((M.mono G).mono H).mono g3) lv
 have jt : g8 = [.int .i64 ex9] := js
 subst jt
 refine a2o Y Y Y Y i5 (a1e Y Y Y Y (fun _ _ _ hq => a4f (j := 0) ag3 Y Y hq Y (p := 1) Y Y i4 ho4 hp4 Y Yn) (a1e Y Y Y Y (fun _ _ _ _ => a0u Y Y Y Y Y Yn) (a1e Y Y Y Y (fun _ _ _ _ => a0u Y Y Y Y Y Yn) (a1e Y Y Y Y (fun _ _ _ _ => a0n Y Y Y Y Yn) (b1w (fun a ha => ?_))))))
 cases I
 exact ha.cut (l := [8, 9, 10, 11, 12, 13, 15, 16, 114, 136]) Y
 refine b1r 117 Y hr (a3g Y Y Y (a3g Y Y Y (a3g Y Y Y (a3g Y Y Y (a3g Y Y Y (a3g Y Y Y (a3g Y Y Y (a3g Y Y Y (a3g Y Y Y (a3g Y Y Y (a3g Y Y Y (a3g Y Y Y (a3g Y Y Y (a3g Y Y Y (a3g Y Y Y (a3g Y Y Y (a3g Y Y Y (a3g Y Y Y (a1e Y Y Y Y (fun _ _ _ _ => a0k Y Y Y Y Yn) (b1w (fun a ha => ?_)))))))))))))))))))))
 cases I
 exact ha.cut (l := [8, 9, 10, 11, 12, 13, 15, 16, 114, 136]) Y
 refine a0r 80 Y hj (a0q Y (a3p (a0x (a0x (fun a ha => hk1 (l4, l5) a _ hm ?_)))))
 exact ⟨_, u, o, g, xss10, x, t, z, xss11, J, gb.Yp [0, 1] Y Y, gg, M, ha.cut (l := [8, 9, 12]) Y⟩
 clear hm
 rcases a0f V with ⟨gn, V⟩ | ⟨gn, V⟩
 refine a0r 65 Y gn (a0y Y (a0a (a0d Y Y Y (a1v (e := 3) (cs := [.int .i64 0]) (q := 1) Y Y h4 Y (fun _ => by kernel_rfl) Y Y ?_))))
 intro b16 mm ju
 obtain ⟨l10, jv, V⟩ := Yb V
 refine a9y (r := (Rp.int .i64)) ap28 Y Y ju Y Y (i := 3) (j := 0) Y Y ((h1.mono h2).mono io) ((show RowN (Rp.int .i64) im 1 [.int .i64 0] [0] from ⟨Y, ⟨_, _, Y, Y, (Y : RowR (Rp.int .i64) _ [] [])⟩⟩)) jv ?_
 intro jw jx mn jy jz
 refine a0b Y Y Y (a0g (a0o (fun a ha => ?_)))
 cases V
 exact ⟨_, jw, ((ik + 1) + 1), jx, ((xss6 ++ [.int .i64 0]) ++ [.int .i64 0]), Yf, jy.Yp [1, 2, 3] Y Y, jz, ha.cut (l := [8, 9, 10]) Y⟩
 refine a0r 65 Y gn (a0q Y (a1c (a0o (fun a ha => ?_))))
 cases V
 exact ⟨_, kp, (ik + 1), h0, (xss6 ++ [.int .i64 0]), Yf, h4.Yp [0, 1, 2] Y Y, ((h1.mono h2).mono io), ha.cut (l := [8, 9, 10]) Y⟩
 clear hm hkont3; intro hk3 mx3 K ihx3
 rintro shift1 a mo hm ⟨rfl, i6⟩
 simp only [b2s] at hm
 refine a1n i6 (a0h (a0h (a0a (a0d Y Y Y (a0d Y Y Y (a1x g6.len u28 Y Y Y (a0u Y Y Y Y Y ?_)))))))
 obtain ⟨ex10, k0, hm⟩ := Yb hm
 refine a2e (r := (Rp.int .i64)) u28 sz3 Y Y Y Y (g6.mono g7) k0 ?_
 intro b17 o10 g lw k1
 have k2 : g = [.int .i64 ex10] := k1
 subst k2
 refine a1s (j := 0) ag3 Y Y R lw Y Y (a0d Y Y Y (a0u Y Y Y Y Y (a0u Y Y Y Y Y (a0g (a0c ?_)))))
 rcases a0f hm with ⟨go, hm⟩ | ⟨go, hm⟩
 refine a0r 48 Y go (a0y Y (a1c (a0c (a1i (a0a (a0d Y Y Y (a0u Y Y Y Y Y (a0b Y Y Y (a0g (a1q (a0o (fun a ha => ihx3 (imul .i64 shift1 2) a _ hm ?_))))))))))))
 exact ⟨Y, ha.cut (l := [0, 1, 8]) Y⟩
 refine a0r 48 Y go (a0q Y (a3p (a0x (a0x (fun a ha => hk3 shift1 a _ hm ?_)))))
 exact ⟨Y, ha.cut (l := [0, 1, 8]) Y⟩
def a5l (_n : Nat) (right1 : Bool) (c1 : Big) : Option (Big × Int) :=
 bif !right1 then
  some ((⟨0, []⟩ : Big), 1)
 else
  some (c1, 0)
theorem a5x (n : Nat) (right1 : Bool) (c1 : Big) (r : (Big × Int)) (hm : a5l n right1 c1 = some r) {w : World} {F : Frz} (hs : Sat F w) {g : Option Addr} {j : Nat} {k : Nat} (q : SlR (Rp.int .i64) F g j k c1.Digits) :
  Calls Tryz.prog 80 #[.bool right1, .agg #[.int .i64 c1.Sign, .slice g j k]] w fun e w' => ∃ v F' O', e = .returned v ∧ HS F w [] F' O' w' ∧ (∃ (a0_1 : Option Addr) (n0_1 : Nat) (c0_1 : Nat), v = .tuple #[.agg #[.int .i64 r.1.Sign, .slice a0_1 n0_1 c0_1], .int .i64 r.2] ∧ O' = [] ∧ SlR (Rp.int .i64) F' a0_1 n0_1 c0_1 r.1.Digits) := by
 unfold a5l at hm
 have h := HS.init hs
 refine a1a 10 Tryz.func80 Y Y Y (a0h (a0a (a2i Y Y Y Y h ?_)))
 intro b1 t s
 refine a1f ze35 Y Y Y s ?_
 intro b2 u l
 refine a0b Y Y Y (a0g (a0c (a0h (a0h (a0a (a0d Y Y Y (a3d Y Y Y (a0g (a0c ?_)))))))))
 rcases a0f hm with ⟨m, hm⟩ | ⟨m, hm⟩
 refine a0r 7 Y m (a0y Y (a0h (a0a (a1y (v := .agg #[.int .i64 0, .slice none 0 0]) Y Y Y (fun _ => by kernel_rfl) (a0s sz35 Y l Y Y Y Y (i := 0) Y Y Y Y ?_)))))
 intro x o
 refine a0b Y Y Y (a0g (a0c (a1d (a0j (a1o (vl := [.agg #[.int .i64 0, .slice none 0 0], .int .i64 1]) Y ⟨a2d ag35 sz35 Y o Y (i := 0) Y, a1r Y, trivial⟩ (by simp) ?_)))))
 obtain rfl := Yo hm
 exact ⟨_, _, _, Y, o.Yp [] Y Y, none, 0, 0, Y, Y, SlR.nil _ _⟩
 refine a0r 7 Y m (a0q Y (a1c (a0c (a0h (a0a (a0m ag35 sz35 Y Y l Y (i := 1) Y Y (a0s sz35 Y l Y Y Y Y (i := 0) Y Y Y Y ?_)))))))
 intro y p
 refine a0b Y Y Y (a0g (a0c (a1d (a1o (vl := [.agg #[.int .i64 c1.Sign, .slice g j k], .int .i64 0]) Y ⟨a2d ag35 sz35 Y p Y (i := 0) Y, a1r Y, trivial⟩ (by simp) ?_))))
 obtain rfl := Yo hm
 exact ⟨_, _, _, Y, p.Yp [] Y Y, g, j, k, Y, Y, q⟩
def a8h (n : Nat) (vals1 : (List Int)) (kont1 : Option Int) : Nat → Int → Option Int
 | 0, _ => none
 | mx1 + 1, i1 =>
  bif decide (i1 < (vals1.length : Int)) then
   (ix vals1 i1).bind fun ex1 =>
   bif ex1 != 0 then
    some ex1
   else
    a8h n vals1 kont1 mx1 (iadd .i64 i1 1)
  else
   kont1
theorem b0g (n : Nat) (vals1 : (List Int)) (kont1 : Option Int) (mx1 : Nat) (i1 : Int) : a8h n vals1 kont1 (mx1 + 1) i1 =
  bif decide (i1 < (vals1.length : Int)) then
   (ix vals1 i1).bind fun ex1 =>
   bif ex1 != 0 then
    some ex1
   else
    a8h n vals1 kont1 mx1 (iadd .i64 i1 1)
  else
   kont1 := rfl
def b3k (n : Nat) (vals1 : (List Int)) : Option Int :=
 a8h n vals1 (
  some 0) n 0
theorem c3s (n : Nat) (vals1 : (List Int)) (r : Int) (hm : b3k n vals1 = some r) {w : World} {F : Frz} (hs : Sat F w) {i : Option Addr} {k : Nat} {g : Nat} (q : SlR (Rp.int .i64) F i k g vals1) :
  Calls Tryz.prog 94 #[.slice i k g] w fun e w' => e = .returned (.int .i64 r) ∧ w' = w := by
 unfold b3k at hm
 have h := HS.init hs
 refine a1a 18 Tryz.func94 Y Y Y (a0h (a0a (a0b Y Y Y (a0g (a0c (a0h (a0a (a0b Y Y Y (a0g (a0c (a0h (a0h (a0a (a0d Y Y Y (a1x q.len u28 Y Y Y (a0d Y Y Y (a0g (a0c (a1i ?_)))))))))))))))))))
 intro a t
 obtain ⟨kont1, hkont1⟩ : ∃ kont1 : Option Int, kont1 = ( some 0) := ⟨_, Y⟩
 replace hm : (fun m (s : Int) => a8h n vals1 kont1 m s) n 0 = some r := by rw [hkont1]; exact hm
 refine a5p (id := 0) (fun m (s : Int) => a8h n vals1 kont1 m s) (fun (y : Unit) => kont1) r (fun (s : Int) a w' => w = w' ∧ Has 18 a [(3, .int .i64 0), (6, .slice i k g), (7, .int .i64 (vals1.length : Int)), (8, .int .i64 s)]) (fun (y : Unit) a w' => w = w' ∧ Has 18 a [(3, .int .i64 0)]) (fun _ => Y) ?_ ?_ hm ⟨Y, t.cut (l := [3, 6, 7, 8]) Y⟩
 clear hm; rintro _u a I hm ⟨rfl, u⟩
 rw [hkont1] at hm
 refine a2g (e := .exit 0) u (a1k (a0c (a0h (a0a (a0d Y Y Y (a0b Y Y Y (a0g (a0c (a1d (a1j Y Y ?_))))))))))
 obtain rfl := Yo hm
 exact ⟨Y, Y⟩
 clear hm hkont1; intro hk1 mx1 K ihx1
 rintro i1 a J hm ⟨rfl, v⟩
 simp only [b0g] at hm
 refine a1n v (a0h (a0a (a0u Y Y Y Y Y (a0g (a0c (a0h ?_))))))
 rcases a0f hm with ⟨o, hm⟩ | ⟨o, hm⟩
 refine a0r 9 Y o (a0y Y (a1c (a0c (a0h (a1i (a0h (a0a ?_)))))))
 obtain ⟨ex1, x, hm⟩ := Yb hm
 refine a2e (r := (Rp.int .i64)) u28 sz3 Y Y Y Y q x ?_
 intro b1 o1 g z G
 have H : g = [.int .i64 ex1] := G
 subst H
 refine a1s (j := 0) ag3 Y Y h z Y Y (a0b Y Y Y (a0g (a0c (a0h (a0a (a0d Y Y Y (a0d Y Y Y (a0u Y Y Y Y Y (a0g (a0c ?_))))))))))
 rcases a0f hm with ⟨p, hm⟩ | ⟨p, hm⟩
 refine a0r 14 Y p (a0y Y (a0h (a0a (a0d Y Y Y (a0b Y Y Y (a0g (a0c (a1d (a0v (a0j (a0j (a0v (a0j (a1j Y Y ?_))))))))))))))
 obtain rfl := Yo hm
 exact ⟨Y, Y⟩
 refine a0r 14 Y p (a0q Y (a1c (a1q (a0c (a0a (a0u Y Y Y Y Y (a0d Y Y Y (a0g (a0o (fun a ha => ihx1 (iadd .i64 i1 1) a _ hm ?_))))))))))
 exact ⟨Y, ha.cut (l := [3, 6, 7, 8]) Y⟩
 refine a0r 9 Y o (a0q Y (a3p (a0x (a0x (fun a ha => hk1 () a _ hm ?_)))))
 exact ⟨Y, ha.cut (l := [3]) Y⟩
theorem ent80 : Ent Tryz.prog 80 := fun _ _ => by kernel_rfl
theorem ent94 : Ent Tryz.prog 94 := fun _ _ => by kernel_rfl
theorem ent95 : Ent Tryz.prog 95 := fun _ _ => by kernel_rfl
theorem ent96 : Ent Tryz.prog 96 := fun _ _ => by kernel_rfl
def c0g (n : Nat) (ax1 : Big) (b1 : Big) : Option (Big × Int) :=
 (a4d n ax1).bind fun v1 =>
 (bif !v1 then
  some true
 else
  (a4d n b1).bind fun v15 =>
  some (!v15)).bind fun v2 =>
 bif v2 then
  (a5l n false (⟨0, []⟩ : Big)).bind fun v3 =>
  some (v3.1, v3.2)
 else
  bif decide (0 ≤ (imul .i64 ax1.Sign b1.Sign)) then
   (b3k n [ax1.Sign, b1.Sign]).bind fun v4 =>
   (b6t n ax1.Digits b1.Digits).bind fun v5 =>
   (a3u n v4 v5).bind fun v6 =>
   (a5l n true v6).bind fun v7 =>
   some (v7.1, v7.2)
  else
   (a7q n ax1.Digits b1.Digits).bind fun v8 =>
   bif decide (v8 < 0) then
    (b5j n b1.Digits ax1.Digits).bind fun v9 =>
    (a3u n b1.Sign v9).bind fun v10 =>
    (a5l n true v10).bind fun v11 =>
    some (v11.1, v11.2)
   else
    (b5j n ax1.Digits b1.Digits).bind fun v12 =>
    (a3u n ax1.Sign v12).bind fun v13 =>
    (a5l n true v13).bind fun v14 =>
    some (v14.1, v14.2)
theorem b5v (n : Nat) (ax1 : Big) (b1 : Big) (r : (Big × Int)) (hm : c0g n ax1 b1 = some r) {w : World} {F : Frz} (hs : Sat F w) {s t : Option Addr} {u x y z : Nat} (N : SlR (Rp.int .i64) F s u x ax1.Digits) (Q : SlR (Rp.int .i64) F t y z b1.Digits) :
  Calls Tryz.prog 54 #[.agg #[.int .i64 ax1.Sign, .slice s u x], .agg #[.int .i64 b1.Sign, .slice t y z]] w fun e w' => ∃ v F' O', e = .returned v ∧ HS F w [] F' O' w' ∧ (∃ (a0_1 : Option Addr) (n0_1 : Nat) (c0_1 : Nat), v = .tuple #[.agg #[.int .i64 r.1.Sign, .slice a0_1 n0_1 c0_1], .int .i64 r.2] ∧ O' = [] ∧ SlR (Rp.int .i64) F' a0_1 n0_1 c0_1 r.1.Digits) := by
 unfold c0g at hm
 have h := HS.init hs
 refine a1a 69 Tryz.func54 Y Y Y (a0h (a0a (a2i Y Y Y Y h ?_)))
 intro b2 j1 hh
 refine a2i Y Y Y Y hh ?_
 intro b3 j2 hi
 refine a1f ze35 Y Y Y hi ?_
 intro b4 j3 ga
 refine a0b Y Y Y (a0g (a0c (a0h (a0h (a0a (a0m ag35 sz35 Y Y ga Y (i := 2) Y Y ?_))))))
 obtain ⟨v1, hj, hm⟩ := Yb hm
 refine a0i ent44 Y Y Y Y ga (a3o _ _ _ hj ga.sat N) ?_
 rintro _ hk _ j4 g g6 ⟨rfl, rfl⟩
 refine a3d Y Y Y (a0d Y Y Y ?_)
 obtain ⟨v2, m, hm⟩ := Yb hm
 refine a1z 4 (fun a w' => ∃ (R : Frz), Frz.le hk R ∧ HS F w [] R [.box b4 35 [.int .i64 0, .slice none 0 0], .box b3 35 [.int .i64 b1.Sign, .slice t y z], .box b2 35 [.int .i64 ax1.Sign, .slice s u x]] w' ∧ Has 69 a [(2, .pointer (some ⟨b2, 0, none⟩)), (3, .pointer (some ⟨b3, 0, none⟩)), (4, .pointer (some ⟨b4, 0, none⟩)), (13, .bool v2)]) ?_ ?_
 rintro a j5 ⟨R, k, j, h5⟩
 refine a0z h5 (a0g (a0c ?_))
 rcases a0f hm with ⟨gb, hm⟩ | ⟨gb, hm⟩
 refine a0r 13 Y gb (a0y Y (a0h (a0a (a1y (v := .agg #[.int .i64 0, .slice none 0 0]) Y Y Y (fun _ => by kernel_rfl) ?_))))
 obtain ⟨v3, hl, hm⟩ := Yb hm
 refine a0i ent80 Y Y Y Y j (a5x _ _ _ _ hl j.sat (SlR.nil _ _)) ?_
 rintro _ j6 _ j7 j8 hn ⟨gt, gu, gv, rfl, rfl, ho⟩
 refine a0l Y Y Y Y (a0l Y Y Y Y (a0s sz35 Y hn Y Y Y Y (i := 0) Y Y Y Y ?_))
 intro j9 gw
 refine a0b Y Y Y (a0g (a0c (a1d (a0j (a1o (vl := [.agg #[.int .i64 v3.1.Sign, .slice gt gu gv], .int .i64 v3.2]) Y ⟨a2d ag35 sz35 Y gw Y (i := 0) Y, a1r Y, trivial⟩ (by simp) ?_)))))
 obtain rfl := Yo hm
 exact ⟨_, _, _, Y, gw.Yp [] Y Y, gt, gu, gv, Y, Y, ho⟩
 refine a0r 13 Y gb (a0q Y (a1c (a0c (a0h (a1i (a0h (a0a (a0e fa35_0 Y Y Y (a0p ag3 Y Y j Y (i := 2) Y Y (a0e fa35_0 Y Y Y (a0p ag3 Y Y j Y (i := 1) Y Y (a0u Y Y Y Y Y ?_))))))))))))
 refine a0u Y Y Y Y Y (a0b Y Y Y (a0g (a0c ?_)))
 rcases a0f hm with ⟨gc, hm⟩ | ⟨gc, hm⟩
 refine a0r 18 Y gc (a0y Y (a0h (a2l (SH R [.box b3 35 [.int .i64 b1.Sign, .slice t y z], .box b2 35 [.int .i64 ax1.Sign, .slice s u x]]) 17 Y (by kernel_rfl) j ?_)))
 intro ja gx
 have S0 := gx.Ys Yf [1, 2] Y Y
 refine d_tk 0 Y (by kernel_rfl) Y Y Y Y S0 (fun _ _ _ _ _ => a0e fa35_0 Y Y Y Yn) (d_tk 1 Y (by kernel_rfl) Y Y Y Y S0 (fun _ _ _ _ hq => a0p ag3 Y Y hq Y (i := 1) Y Y Yn) (d_tk 2 Y (by kernel_rfl) Y Y Y Y S0 (fun _ _ _ _ _ => a0e fa35_0 Y Y Y Yn) (d_tk 3 Y (by kernel_rfl) Y Y Y Y S0 (fun _ _ _ _ hq => a0p ag3 Y Y hq Y (i := 0) Y Y Yn) (d_tk 6 Y (by kernel_rfl) Y Y Y Y S0 (fun _ _ _ _ _ => a0e fa35_1 Y Y Y Yn) (d_tk 7 Y (by kernel_rfl) Y Y Y Y S0 (fun _ _ _ _ hq => a0p ag28 Y Y hq Y (i := 1) Y Y Yn) (d_tk 8 Y (by kernel_rfl) Y Y Y Y S0 (fun _ _ _ _ _ => a0e fa35_1 Y Y Y Yn) ?_))))))
 refine d_tk 9 Y (by kernel_rfl) Y Y Y Y S0 (fun _ _ _ _ hq => a0p ag28 Y Y hq Y (i := 0) Y Y Yn) (a1b 4 Y (by kernel_rfl) (a1v (e := 3) (cs := [.int .i64 ax1.Sign, .int .i64 b1.Sign]) (q := 1) Y Y gx Y (fun _ => by kernel_rfl) Y Y ?_))
 intro b5 jb T
 refine a0w (T.Ys Yf [2, 3] Y Y) (a1b 5 Y (by kernel_rfl) ?_)
 obtain ⟨v4, hp, hm⟩ := Yb hm
 refine a3c ent94 Y Y Y Y (c3s _ _ _ hp (b1t _) (T.viewRow (p := 0) Y Y ((show RowN (Rp.int .i64) R 2 [.int .i64 ax1.Sign, .int .i64 b1.Sign] [ax1.Sign, b1.Sign] from ⟨Y, ⟨_, _, Y, Y, ⟨_, _, Y, Y, (Y : RowR (Rp.int .i64) _ [] [])⟩⟩⟩)))) (a0w (T.Ys Yf [2, 3] Y Y) (a1b 10 Y (by kernel_rfl) ?_))
 obtain ⟨v5, hr, hm⟩ := Yb hm
 refine a0i ent95 Y Y Y Y T (c2p _ _ _ _ hr T.sat ((N.mono g).mono k) ((Q.mono g).mono k)) ?_
 rintro _ jc _ i4 U gd ⟨jd, je, jf, xss4, rfl, rfl, ht⟩
 refine a0w (gd.Ys U [3, 4] Y Y) (a1b 11 Y (by kernel_rfl) ?_)
 obtain ⟨jg, g7, ge, hsx1⟩ := a1h gd (i := 0) Y ht
 obtain ⟨v6, hu, hm⟩ := Yb hm
 refine a0i ent82 Y Y Y Y ge (a4p _ _ _ _ hu ge.sat hsx1) ?_
 rintro _ jh _ i5 g8 Z ⟨ji, jj, jk, rfl, rfl, hv⟩
 refine a0w (Z.Ys ((U.trans g7).trans g8) [2, 3] Y Y) (a1b 12 Y (by kernel_rfl) ?_)
 obtain ⟨v7, hw, hm⟩ := Yb hm
 refine a0i ent80 Y Y Y Y Z (a5x _ _ _ _ hw Z.sat hv) ?_
 rintro _ jl _ i6 gf gg ⟨gy, gz, h0, rfl, rfl, hx⟩
 have S1 := gg.Ys (((U.trans g7).trans g8).trans gf) [2, 3] Y Y
 refine a0w S1 (d_tk 13 Y (by kernel_rfl) Y Y Y Y S1 (fun _ _ _ _ _ => a0l Y Y Y Y Yn) (d_tk 14 Y (by kernel_rfl) Y Y Y Y S1 (fun _ _ _ _ _ => a0l Y Y Y Y Yn) (a1b 15 Y (by kernel_rfl) (a0s sz35 Y gg Y Y Y Y (i := 1) Y Y Y Y ?_))))
 intro i7 G
 refine a0w (G.Ys (((U.trans g7).trans g8).trans gf) [2, 3] Y Y) (d_tk 16 Y (by kernel_rfl) Y Y Y Y (G.Ys (((U.trans g7).trans g8).trans gf) [2, 3] Y Y) (fun _ _ _ _ _ => a0b Y Y Y Yn) (a2x (by kernel_rfl) (a0c (a1d (a0v (a0j (a1o (vl := [.agg #[.int .i64 v7.1.Sign, .slice gy gz h0], .int .i64 v7.2]) Y ⟨a2d ag35 sz35 Y G Y (i := 1) Y, a1r Y, trivial⟩ (by simp) ?_)))))))
 obtain rfl := Yo hm
 exact ⟨_, _, _, Y, G.Yp [] Y Y, gy, gz, h0, Y, Y, hx⟩
 refine a0r 18 Y gc (a0q Y (a0h (a0a (a0e fa35_1 Y Y Y (a0p ag28 Y Y j Y (i := 2) Y Y (a0e fa35_1 Y Y Y (a0p ag28 Y Y j Y (i := 1) Y Y ?_)))))))
 obtain ⟨v8, hy, hm⟩ := Yb hm
 refine a0i ent85 Y Y Y Y j (b3b _ _ _ _ hy j.sat ((N.mono g).mono k) ((Q.mono g).mono k)) ?_
 rintro _ h1 _ i8 g9 gh ⟨rfl, rfl⟩
 refine a0u Y Y Y Y Y (a0b Y Y Y (a0g (a0c ?_)))
 rcases a0f hm with ⟨gi, hm⟩ | ⟨gi, hm⟩
 refine a0r 40 Y gi (a0y Y (a0h (a2l (SH h1 [.box b3 35 [.int .i64 b1.Sign, .slice t y z], .box b2 35 [.int .i64 ax1.Sign, .slice s u x]]) 13 Y (by kernel_rfl) gh ?_)))
 intro i9 g0
 have S2 := g0.Ys Yf [1, 2] Y Y
 refine d_tk 0 Y (by kernel_rfl) Y Y Y Y S2 (fun _ _ _ _ _ => a0e fa35_0 Y Y Y Yn) (d_tk 1 Y (by kernel_rfl) Y Y Y Y S2 (fun _ _ _ _ hq => a0p ag3 Y Y hq Y (i := 0) Y Y Yn) (d_tk 2 Y (by kernel_rfl) Y Y Y Y S2 (fun _ _ _ _ _ => a0e fa35_1 Y Y Y Yn) (d_tk 3 Y (by kernel_rfl) Y Y Y Y S2 (fun _ _ _ _ hq => a0p ag28 Y Y hq Y (i := 0) Y Y Yn) (d_tk 4 Y (by kernel_rfl) Y Y Y Y S2 (fun _ _ _ _ _ => a0e fa35_1 Y Y Y Yn) (d_tk 5 Y (by kernel_rfl) Y Y Y Y S2 (fun _ _ _ _ hq => a0p ag28 Y Y hq Y (i := 1) Y Y Yn) (a1b 6 Y (by kernel_rfl) ?_))))))
 obtain ⟨v9, hz, hm⟩ := Yb hm
 refine a0i ent96 Y Y Y Y g0 (b7w _ _ _ _ hz g0.sat (((Q.mono g).mono k).mono g9) (((N.mono g).mono k).mono g9)) ?_
 rintro _ jm _ ia V gj ⟨jn, jo, jp, xss7, rfl, rfl, i0⟩
 refine a0w (gj.Ys V [2, 3] Y Y) (a1b 7 Y (by kernel_rfl) ?_)
 obtain ⟨ib, H, gk, hsx2⟩ := a1h gj (i := 0) Y i0
 obtain ⟨v10, i1, hm⟩ := Yb hm
 refine a0i ent82 Y Y Y Y gk (a4p _ _ _ _ i1 gk.sat hsx2) ?_
 rintro _ ic _ id I g1 ⟨jq, jr, js, rfl, rfl, i2⟩
 refine a0w (g1.Ys ((V.trans H).trans I) [1, 2] Y Y) (a1b 8 Y (by kernel_rfl) ?_)
 obtain ⟨v11, h6, hm⟩ := Yb hm
 refine a0i ent80 Y Y Y Y g1 (a5x _ _ _ _ h6 g1.sat i2) ?_
 rintro _ ie _ ig g2 gl ⟨h2, h3, h4, rfl, rfl, i3⟩
 have S3 := gl.Ys (((V.trans H).trans I).trans g2) [1, 2] Y Y
 refine a0w S3 (d_tk 9 Y (by kernel_rfl) Y Y Y Y S3 (fun _ _ _ _ _ => a0l Y Y Y Y Yn) (d_tk 10 Y (by kernel_rfl) Y Y Y Y S3 (fun _ _ _ _ _ => a0l Y Y Y Y Yn) (a1b 11 Y (by kernel_rfl) (a0s sz35 Y gl Y Y Y Y (i := 0) Y Y Y Y ?_))))
 intro ih J
 refine a0w (J.Ys (((V.trans H).trans I).trans g2) [1, 2] Y Y) (d_tk 12 Y (by kernel_rfl) Y Y Y Y (J.Ys (((V.trans H).trans I).trans g2) [1, 2] Y Y) (fun _ _ _ _ _ => a0b Y Y Y Yn) (a2x (by kernel_rfl) (a0c (a1d (a0v (a0j (a1o (vl := [.agg #[.int .i64 v11.1.Sign, .slice h2 h3 h4], .int .i64 v11.2]) Y ⟨a2d ag35 sz35 Y J Y (i := 0) Y, a1r Y, trivial⟩ (by simp) ?_)))))))
 obtain rfl := Yo hm
 exact ⟨_, _, _, Y, J.Yp [] Y Y, h2, h3, h4, Y, Y, i3⟩
 refine a0r 40 Y gi (a0q Y (a1c (a1q (a0c (a0h (a2l (SH h1 [.box b3 35 [.int .i64 b1.Sign, .slice t y z], .box b2 35 [.int .i64 ax1.Sign, .slice s u x]]) 13 Y (by kernel_rfl) gh ?_))))))
 intro ii g3
 have S4 := g3.Ys Yf [1, 2] Y Y
 refine d_tk 0 Y (by kernel_rfl) Y Y Y Y S4 (fun _ _ _ _ _ => a0e fa35_0 Y Y Y Yn) (d_tk 1 Y (by kernel_rfl) Y Y Y Y S4 (fun _ _ _ _ hq => a0p ag3 Y Y hq Y (i := 1) Y Y Yn) (d_tk 2 Y (by kernel_rfl) Y Y Y Y S4 (fun _ _ _ _ _ => a0e fa35_1 Y Y Y Yn) (d_tk 3 Y (by kernel_rfl) Y Y Y Y S4 (fun _ _ _ _ hq => a0p ag28 Y Y hq Y (i := 1) Y Y Yn) (d_tk 4 Y (by kernel_rfl) Y Y Y Y S4 (fun _ _ _ _ _ => a0e fa35_1 Y Y Y Yn) (d_tk 5 Y (by kernel_rfl) Y Y Y Y S4 (fun _ _ _ _ hq => a0p ag28 Y Y hq Y (i := 0) Y Y Yn) (a1b 6 Y (by kernel_rfl) ?_))))))
 obtain ⟨v12, h7, hm⟩ := Yb hm
 refine a0i ent96 Y Y Y Y g3 (b7w _ _ _ _ h7 g3.sat (((N.mono g).mono k).mono g9) (((Q.mono g).mono k).mono g9)) ?_
 rintro _ ij _ ik o gm ⟨il, im, io, xss10, rfl, rfl, h8⟩
 refine a0w (gm.Ys o [2, 3] Y Y) (a1b 7 Y (by kernel_rfl) ?_)
 obtain ⟨ip, K, gn, hsx3⟩ := a1h gm (i := 0) Y h8
 obtain ⟨v13, h9, hm⟩ := Yb hm
 refine a0i ent82 Y Y Y Y gn (a4p _ _ _ _ h9 gn.sat hsx3) ?_
 rintro _ iq _ ir L g4 ⟨it, iu, iv, rfl, rfl, hb⟩
 refine a0w (g4.Ys ((o.trans K).trans L) [1, 2] Y Y) (a1b 8 Y (by kernel_rfl) ?_)
 obtain ⟨v14, hc, hm⟩ := Yb hm
 refine a0i ent80 Y Y Y Y g4 (a5x _ _ _ _ hc g4.sat hb) ?_
 rintro _ iw _ ix g5 go ⟨gp, gq, gr, rfl, rfl, hd⟩
 have S5 := go.Ys (((o.trans K).trans L).trans g5) [1, 2] Y Y
 refine a0w S5 (d_tk 9 Y (by kernel_rfl) Y Y Y Y S5 (fun _ _ _ _ _ => a0l Y Y Y Y Yn) (d_tk 10 Y (by kernel_rfl) Y Y Y Y S5 (fun _ _ _ _ _ => a0l Y Y Y Y Yn) (a1b 11 Y (by kernel_rfl) (a0s sz35 Y go Y Y Y Y (i := 0) Y Y Y Y ?_))))
 intro iy M
 refine a0w (M.Ys (((o.trans K).trans L).trans g5) [1, 2] Y Y) (d_tk 12 Y (by kernel_rfl) Y Y Y Y (M.Ys (((o.trans K).trans L).trans g5) [1, 2] Y Y) (fun _ _ _ _ _ => a0b Y Y Y Yn) (a2x (by kernel_rfl) (a0c (a1d (a1o (vl := [.agg #[.int .i64 v14.1.Sign, .slice gp gq gr], .int .i64 v14.2]) Y ⟨a2d ag35 sz35 Y M Y (i := 0) Y, a1r Y, trivial⟩ (by simp) ?_)))))
 obtain rfl := Yo hm
 exact ⟨_, _, _, Y, M.Yp [] Y Y, gp, gq, gr, Y, Y, hd⟩
 clear hm
 rcases a0f m with ⟨gs, m⟩ | ⟨gs, m⟩
 refine a1g 9 Y gs (a0t Y (by decide) Y (a0t Y (by decide) Y (a0t Y (by decide) Y (a0n Y Y Y Y (a0g (a0o (fun a ha => ?_)))))))
 cases m
 exact ⟨_, Yf, g6.Yp [0, 1, 2] Y Y, ha.cut (l := [2, 3, 4, 13]) Y⟩
 refine a1g 9 Y gs (a0m ag35 sz35 Y Y g6 Y (i := 1) Y Y ?_)
 obtain ⟨v15, he, m⟩ := Yb m
 refine a0i ent44 Y Y Y Y g6 (a3o _ _ _ he g6.sat (Q.mono g)) ?_
 rintro _ iz _ j0 hf hg ⟨rfl, rfl⟩
 refine a3d Y Y Y (a0k Y Y Y Y (a0g (a0o (fun a ha => ?_))))
 cases m
 exact ⟨_, hf, hg.Yp [0, 1, 2] Y Y, ha.cut (l := [2, 3, 4, 13]) Y⟩
def b9s (n : Nat) (ax1 : Big) (b1 : Big) : Option (Big × Int) :=
 (a4d n ax1).bind fun v1 =>
 (bif !v1 then
  some true
 else
  (a4d n b1).bind fun v7 =>
  some (!v7)).bind fun v2 =>
 bif v2 then
  (a5l n false (⟨0, []⟩ : Big)).bind fun v3 =>
  some (v3.1, v3.2)
 else
  (b3d n ax1.Digits b1.Digits).bind fun v4 =>
  (a3u n (imul .i64 ax1.Sign b1.Sign) v4).bind fun v5 =>
  (a5l n true v5).bind fun v6 =>
  some (v6.1, v6.2)
theorem c8b (n : Nat) (ax1 : Big) (b1 : Big) (r : (Big × Int)) (hm : b9s n ax1 b1 = some r) {w : World} {F : Frz} (hs : Sat F w) {o p : Option Addr} {q s t u : Nat} (T : SlR (Rp.int .i64) F o q s ax1.Digits) (U : SlR (Rp.int .i64) F p t u b1.Digits) :
  Calls Tryz.prog 86 #[.agg #[.int .i64 ax1.Sign, .slice o q s], .agg #[.int .i64 b1.Sign, .slice p t u]] w fun e w' => ∃ v F' O', e = .returned v ∧ HS F w [] F' O' w' ∧ (∃ (a0_1 : Option Addr) (n0_1 : Nat) (c0_1 : Nat), v = .tuple #[.agg #[.int .i64 r.1.Sign, .slice a0_1 n0_1 c0_1], .int .i64 r.2] ∧ O' = [] ∧ SlR (Rp.int .i64) F' a0_1 n0_1 c0_1 r.1.Digits) := by
 unfold b9s at hm
 have h := HS.init hs
 refine a1a 32 Tryz.func86 Y Y Y (a0h (a0a (a2i Y Y Y Y h ?_)))
 intro b2 gs g9
 refine a2i Y Y Y Y g9 ?_
 intro b3 gt ga
 refine a1f ze35 Y Y Y ga ?_
 intro b4 gu H
 refine a0b Y Y Y (a0g (a0c (a0h (a0h (a0a (a0m ag35 sz35 Y Y H Y (i := 2) Y Y ?_))))))
 obtain ⟨v1, gb, hm⟩ := Yb hm
 refine a0i ent44 Y Y Y Y H (a3o _ _ _ gb H.sat T) ?_
 rintro _ gc _ gv I x ⟨rfl, rfl⟩
 refine a3d Y Y Y (a0d Y Y Y ?_)
 obtain ⟨v2, g, hm⟩ := Yb hm
 refine a1z 4 (fun a w' => ∃ (y : Frz), Frz.le gc y ∧ HS F w [] y [.box b4 35 [.int .i64 0, .slice none 0 0], .box b3 35 [.int .i64 b1.Sign, .slice p t u], .box b2 35 [.int .i64 ax1.Sign, .slice o q s]] w' ∧ Has 32 a [(2, .pointer (some ⟨b2, 0, none⟩)), (3, .pointer (some ⟨b3, 0, none⟩)), (4, .pointer (some ⟨b4, 0, none⟩)), (13, .bool v2)]) ?_ ?_
 rintro a gw ⟨y, V, J, g7⟩
 refine a0z g7 (a0g (a0c ?_))
 rcases a0f hm with ⟨K, hm⟩ | ⟨K, hm⟩
 refine a0r 13 Y K (a0y Y (a0h (a0a (a1y (v := .agg #[.int .i64 0, .slice none 0 0]) Y Y Y (fun _ => by kernel_rfl) ?_))))
 obtain ⟨v3, gd, hm⟩ := Yb hm
 refine a0i ent80 Y Y Y Y J (a5x _ _ _ _ gd J.sat (SlR.nil _ _)) ?_
 rintro _ gx _ gy gz ge ⟨Z, g0, g1, rfl, rfl, gf⟩
 refine a0l Y Y Y Y (a0l Y Y Y Y (a0s sz35 Y ge Y Y Y Y (i := 0) Y Y Y Y ?_))
 intro h0 g2
 refine a0b Y Y Y (a0g (a0c (a1d (a0j (a1o (vl := [.agg #[.int .i64 v3.1.Sign, .slice Z g0 g1], .int .i64 v3.2]) Y ⟨a2d ag35 sz35 Y g2 Y (i := 0) Y, a1r Y, trivial⟩ (by simp) ?_)))))
 obtain rfl := Yo hm
 exact ⟨_, _, _, Y, g2.Yp [] Y Y, Z, g0, g1, Y, Y, gf⟩
 refine a0r 13 Y K (a0q Y (a1c (a0c (a0h (a2l (SH y [.box b3 35 [.int .i64 b1.Sign, .slice p t u], .box b2 35 [.int .i64 ax1.Sign, .slice o q s]]) 16 Y (by kernel_rfl) J ?_)))))
 intro h1 L
 have S0 := L.Ys Yf [1, 2] Y Y
 refine d_tk 0 Y (by kernel_rfl) Y Y Y Y S0 (fun _ _ _ _ _ => a0e fa35_0 Y Y Y Yn) (d_tk 1 Y (by kernel_rfl) Y Y Y Y S0 (fun _ _ _ _ hq => a0p ag3 Y Y hq Y (i := 1) Y Y Yn) (d_tk 2 Y (by kernel_rfl) Y Y Y Y S0 (fun _ _ _ _ _ => a0e fa35_0 Y Y Y Yn) (d_tk 3 Y (by kernel_rfl) Y Y Y Y S0 (fun _ _ _ _ hq => a0p ag3 Y Y hq Y (i := 0) Y Y Yn) (d_tk 4 Y (by kernel_rfl) Y Y Y Y S0 (fun _ _ _ _ _ => a0u Y Y Y Y Y Yn) (d_tk 5 Y (by kernel_rfl) Y Y Y Y S0 (fun _ _ _ _ _ => a0e fa35_1 Y Y Y Yn) (d_tk 6 Y (by kernel_rfl) Y Y Y Y S0 (fun _ _ _ _ hq => a0p ag28 Y Y hq Y (i := 1) Y Y Yn) ?_))))))
 refine d_tk 7 Y (by kernel_rfl) Y Y Y Y S0 (fun _ _ _ _ _ => a0e fa35_1 Y Y Y Yn) (d_tk 8 Y (by kernel_rfl) Y Y Y Y S0 (fun _ _ _ _ hq => a0p ag28 Y Y hq Y (i := 0) Y Y Yn) (a1b 9 Y (by kernel_rfl) ?_))
 obtain ⟨v4, gg, hm⟩ := Yb hm
 refine a0i ent122 Y Y Y Y L (b8c _ _ _ _ gg L.sat ((T.mono I).mono V) ((U.mono I).mono V)) ?_
 rintro _ h2 _ h3 k g3 ⟨h4, h5, h6, xss4, rfl, rfl, gh⟩
 refine a0w (g3.Ys k [2, 3] Y Y) (a1b 10 Y (by kernel_rfl) ?_)
 obtain ⟨h7, z, M, hsx1⟩ := a1h g3 (i := 0) Y gh
 obtain ⟨v5, gi, hm⟩ := Yb hm
 refine a0i ent82 Y Y Y Y M (a4p _ _ _ _ gi M.sat hsx1) ?_
 rintro _ h8 _ go G m ⟨h9, hb, hc, rfl, rfl, gj⟩
 refine a0w (m.Ys ((k.trans z).trans G) [1, 2] Y Y) (a1b 11 Y (by kernel_rfl) ?_)
 obtain ⟨v6, gk, hm⟩ := Yb hm
 refine a0i ent80 Y Y Y Y m (a5x _ _ _ _ gk m.sat gj) ?_
 rintro _ hd _ gp N Q ⟨g4, g5, g6, rfl, rfl, gl⟩
 have S1 := Q.Ys (((k.trans z).trans G).trans N) [1, 2] Y Y
 refine a0w S1 (d_tk 12 Y (by kernel_rfl) Y Y Y Y S1 (fun _ _ _ _ _ => a0l Y Y Y Y Yn) (d_tk 13 Y (by kernel_rfl) Y Y Y Y S1 (fun _ _ _ _ _ => a0l Y Y Y Y Yn) (a1b 14 Y (by kernel_rfl) (a0s sz35 Y Q Y Y Y Y (i := 0) Y Y Y Y ?_))))
 intro gq j
 refine a0w (j.Ys (((k.trans z).trans G).trans N) [1, 2] Y Y) (d_tk 15 Y (by kernel_rfl) Y Y Y Y (j.Ys (((k.trans z).trans G).trans N) [1, 2] Y Y) (fun _ _ _ _ _ => a0b Y Y Y Yn) (a2x (by kernel_rfl) (a0c (a1d (a1o (vl := [.agg #[.int .i64 v6.1.Sign, .slice g4 g5 g6], .int .i64 v6.2]) Y ⟨a2d ag35 sz35 Y j Y (i := 0) Y, a1r Y, trivial⟩ (by simp) ?_)))))
 obtain rfl := Yo hm
 exact ⟨_, _, _, Y, j.Yp [] Y Y, g4, g5, g6, Y, Y, gl⟩
 clear hm
 rcases a0f g with ⟨R, g⟩ | ⟨R, g⟩
 refine a1g 9 Y R (a0t Y (by decide) Y (a0t Y (by decide) Y (a0t Y (by decide) Y (a0n Y Y Y Y (a0g (a0o (fun a ha => ?_)))))))
 cases g
 exact ⟨_, Yf, x.Yp [0, 1, 2] Y Y, ha.cut (l := [2, 3, 4, 13]) Y⟩
 refine a1g 9 Y R (a0m ag35 sz35 Y Y x Y (i := 1) Y Y ?_)
 obtain ⟨v7, gm, g⟩ := Yb g
 refine a0i ent44 Y Y Y Y x (a3o _ _ _ gm x.sat (U.mono I)) ?_
 rintro _ he _ gr gn g8 ⟨rfl, rfl⟩
 refine a3d Y Y Y (a0k Y Y Y Y (a0g (a0o (fun a ha => ?_))))
 cases g
 exact ⟨_, gn, g8.Yp [0, 1, 2] Y Y, ha.cut (l := [2, 3, 4, 13]) Y⟩
theorem ent81 : Ent Tryz.prog 81 := fun _ _ => by kernel_rfl
def b3e (n : Nat) (ax1 : Big) (b1 : Big) : Option (Big × Big × Int) :=
 (a4d n ax1).bind fun v1 =>
 (bif !v1 then
  some true
 else
  (a4d n b1).bind fun v11 =>
  some (!v11)).bind fun v2 =>
 bif v2 then
  some ((⟨0, []⟩ : Big), (⟨0, []⟩ : Big), 1)
 else
  bif b1.Sign == 0 then
   some ((⟨0, []⟩ : Big), (⟨0, []⟩ : Big), 14)
  else
   (b4s n ax1.Digits b1.Digits).bind fun v3 =>
   (bif decide ((imul .i64 ax1.Sign b1.Sign) < 0) then
    some (decide (0 < (v3.2.length : Int)))
   else
    some false).bind fun v4 =>
   bif v4 then
    (b6t n v3.1 [1]).bind fun v5 =>
    (a3u n (-1) v5).bind fun v6 =>
    (b5j n b1.Digits v3.2).bind fun v7 =>
    (a3u n b1.Sign v7).bind fun v8 =>
    some (v6, v8, 0)
   else
    (a3u n (imul .i64 ax1.Sign b1.Sign) v3.1).bind fun v9 =>
    (a3u n ax1.Sign v3.2).bind fun v10 =>
    some (v9, v10, 0)
theorem a9k (n : Nat) (ax1 : Big) (b1 : Big) (r : (Big × Big × Int)) (hm : b3e n ax1 b1 = some r) {w : World} {F : Frz} (hs : Sat F w) {K L : Option Addr} {M N Q R : Nat} (gv : SlR (Rp.int .i64) F K M N ax1.Digits) (g1 : SlR (Rp.int .i64) F L Q R b1.Digits) :
  Calls Tryz.prog 93 #[.agg #[.int .i64 ax1.Sign, .slice K M N], .agg #[.int .i64 b1.Sign, .slice L Q R]] w fun e w' => ∃ v F' O', e = .returned v ∧ HS F w [] F' O' w' ∧ (∃ (a0_1 : Option Addr) (n0_1 : Nat) (c0_1 : Nat) (a1_1 : Option Addr) (n1_1 : Nat) (c1_1 : Nat), v = .tuple #[.agg #[.int .i64 r.1.Sign, .slice a0_1 n0_1 c0_1], .agg #[.int .i64 r.2.1.Sign, .slice a1_1 n1_1 c1_1], .int .i64 r.2.2] ∧ O' = [] ∧ SlR (Rp.int .i64) F' a0_1 n0_1 c0_1 r.1.Digits ∧ SlR (Rp.int .i64) F' a1_1 n1_1 c1_1 r.2.1.Digits) := by
 unfold b3e at hm
 have h := HS.init hs
 refine a1a 67 Tryz.func93 Y Y Y (a0h (a0a (a2i Y Y Y Y h ?_)))
 intro b2 ix hd
 refine a2i Y Y Y Y hd ?_
 intro b3 iy he
 refine a1f ze35 Y Y Y he ?_
 intro b4 iz hf
 refine a1f ze35 Y Y Y hf ?_
 intro b5 j0 g2
 refine a0b Y Y Y (a0g (a0c (a0h (a1i (a0h (a0a (a0m ag35 sz35 Y Y g2 Y (i := 3) Y Y ?_)))))))
 obtain ⟨v1, hg, hm⟩ := Yb hm
 refine a0i ent44 Y Y Y Y g2 (a3o _ _ _ hg g2.sat gv) ?_
 rintro _ hh _ j1 Z g0 ⟨rfl, rfl⟩
 refine a3d Y Y Y (a0d Y Y Y ?_)
 obtain ⟨v2, p, hm⟩ := Yb hm
 refine a1z 4 (fun a w' => ∃ (g3 : Frz), Frz.le hh g3 ∧ HS F w [] g3 [.box b5 35 [.int .i64 0, .slice none 0 0], .box b4 35 [.int .i64 0, .slice none 0 0], .box b3 35 [.int .i64 b1.Sign, .slice L Q R], .box b2 35 [.int .i64 ax1.Sign, .slice K M N]] w' ∧ Has 67 a [(2, .pointer (some ⟨b2, 0, none⟩)), (3, .pointer (some ⟨b3, 0, none⟩)), (4, .pointer (some ⟨b4, 0, none⟩)), (5, .pointer (some ⟨b5, 0, none⟩)), (17, .bool v2)]) ?_ ?_
 rintro a j2 ⟨g3, g4, s, h6⟩
 refine a0z h6 (a0b Y Y Y (a0g (a0c ?_)))
 rcases a0f hm with ⟨g5, hm⟩ | ⟨g5, hm⟩
 refine a0r 9 Y g5 (a0y Y (a0h (a0a (a1y (v := .agg #[.int .i64 0, .slice none 0 0]) Y Y Y (fun _ => by kernel_rfl) (a1y (v := .agg #[.int .i64 0, .slice none 0 0]) Y Y Y (fun _ => by kernel_rfl) (a0s sz35 Y s Y Y Y Y (i := 1) Y Y Y Y ?_))))))
 intro j3 hi
 refine a0s sz35 Y hi Y Y Y Y (i := 0) Y Y Y Y ?_
 intro j4 g6
 refine a0b Y Y Y (a0g (a0c (a1d (a0v (a0j (a1o (vl := [.agg #[.int .i64 0, .slice none 0 0], .agg #[.int .i64 0, .slice none 0 0], .int .i64 1]) Y ⟨a2d ag35 sz35 Y g6 Y (i := 1) Y, a2d ag35 sz35 Y g6 Y (i := 0) Y, a1r Y, trivial⟩ (by simp) ?_))))))
 obtain rfl := Yo hm
 exact ⟨_, _, _, Y, g6.Yp [] Y Y, none, 0, 0, none, 0, 0, Y, Y, SlR.nil _ _, SlR.nil _ _⟩
 refine a0r 9 Y g5 (a0q Y (a0h (a0a (a0e fa35_0 Y Y Y (a0p ag3 Y Y s Y (i := 2) Y Y (a0u Y Y Y Y Y (a0b Y Y Y (a0g (a0c ?_)))))))))
 rcases a0f hm with ⟨g7, hm⟩ | ⟨g7, hm⟩
 refine a0r 20 Y g7 (a0y Y (a0h (a0a (a1y (v := .agg #[.int .i64 0, .slice none 0 0]) Y Y Y (fun _ => by kernel_rfl) (a1y (v := .agg #[.int .i64 0, .slice none 0 0]) Y Y Y (fun _ => by kernel_rfl) (a0s sz35 Y s Y Y Y Y (i := 1) Y Y Y Y ?_))))))
 intro j5 hj
 refine a0s sz35 Y hj Y Y Y Y (i := 0) Y Y Y Y ?_
 intro i8 U
 refine a0b Y Y Y (a0g (a0c (a1d (a0v (a0j (a1o (vl := [.agg #[.int .i64 0, .slice none 0 0], .agg #[.int .i64 0, .slice none 0 0], .int .i64 14]) Y ⟨a2d ag35 sz35 Y U Y (i := 1) Y, a2d ag35 sz35 Y U Y (i := 0) Y, a1r Y, trivial⟩ (by simp) ?_))))))
 obtain rfl := Yo hm
 exact ⟨_, _, _, Y, U.Yp [] Y Y, none, 0, 0, none, 0, 0, Y, Y, SlR.nil _ _, SlR.nil _ _⟩
 refine a0r 20 Y g7 (a0q Y (a1c (a1q (a0c (a0h (a0a (a0e fa35_1 Y Y Y (a0p ag28 Y Y s Y (i := 3) Y Y (a0e fa35_1 Y Y Y (a0p ag28 Y Y s Y (i := 2) Y Y ?_))))))))))
 obtain ⟨v3, hk, hm⟩ := Yb hm
 refine a0i ent81 Y Y Y Y s (c2g _ _ _ _ hk s.sat ((gv.mono Z).mono g4) ((g1.mono Z).mono g4)) ?_
 rintro _ g8 _ h7 hl J ⟨hn, ho, hp, hr, ht, hu, xss4, rfl, rfl, gw, g9⟩
 refine a0d Y Y Y (a0l Y Y Y Y (a0l Y Y Y Y (a0b Y Y Y (a0b Y Y Y (a0g (a0c (a0h (a0h (a0a (a0e fa35_0 Y Y Y (a0p ag3 Y Y J Y (i := 4) Y Y (a0e fa35_0 Y Y Y (a0p ag3 Y Y J Y (i := 3) Y Y (a0u Y Y Y Y Y (a0u Y Y Y Y Y ?_)))))))))))))))
 refine a0d Y Y Y ?_
 obtain ⟨v4, T, hm⟩ := Yb hm
 refine a1z 4 (fun a w' => h7 = w' ∧ Has 67 a [(2, .pointer (some ⟨b2, 0, none⟩)), (3, .pointer (some ⟨b3, 0, none⟩)), (4, .pointer (some ⟨b4, 0, none⟩)), (5, .pointer (some ⟨b5, 0, none⟩)), (7, .slice hn ho hp), (8, .slice hr ht hu), (44, .bool v4)]) ?_ ?_
 rintro a i9 ⟨rfl, h8⟩
 refine a0z h8 (a0g (a0c ?_))
 rcases a0f hm with ⟨ga, hm⟩ | ⟨ga, hm⟩
 refine a0r 44 Y ga (a0y Y (a0h (a2l (SH g8 [.box b3 35 [.int .i64 b1.Sign, .slice L Q R], .box b2 35 [.int .i64 ax1.Sign, .slice K M N]]) 14 Y (by kernel_rfl) J ?_)))
 intro ia gb
 have S0 := gb.Ys Yf [3, 4] Y Y
 refine d_tk 0 Y (by kernel_rfl) Y Y Y Y S0 (fun _ _ _ _ _ => a0d Y Y Y Yn) (d_tk 4 Y (by kernel_rfl) Y Y Y Y S0 (fun _ _ _ _ _ => a0e fa35_0 Y Y Y Yn) (d_tk 5 Y (by kernel_rfl) Y Y Y Y S0 (fun _ _ _ _ hq => a0p ag3 Y Y hq Y (i := 0) Y Y Yn) (d_tk 6 Y (by kernel_rfl) Y Y Y Y S0 (fun _ _ _ _ _ => a0e fa35_1 Y Y Y Yn) (d_tk 7 Y (by kernel_rfl) Y Y Y Y S0 (fun _ _ _ _ hq => a0p ag28 Y Y hq Y (i := 0) Y Y Yn) (d_tk 8 Y (by kernel_rfl) Y Y Y Y S0 (fun _ _ _ _ _ => a0d Y Y Y Yn) (a1b 1 Y (by kernel_rfl) ?_))))))
 refine a1v (e := 3) (cs := [.int .i64 1]) (q := 1) Y Y gb Y (fun _ => by kernel_rfl) Y Y ?_
 intro b6 ib gc
 refine a0w (gc.Ys Yf [4, 5] Y Y) (a1b 2 Y (by kernel_rfl) ?_)
 obtain ⟨j6, g, gd, hsx1⟩ := a1h gc (i := 0) Y ((show RowN (Rp.int .i64) g8 1 [.int .i64 1] [1] from ⟨Y, ⟨_, _, Y, Y, (Y : RowR (Rp.int .i64) _ [] [])⟩⟩))
 obtain ⟨v5, hv, hm⟩ := Yb hm
 refine a0i ent95 Y Y Y Y gd (c2p _ _ _ _ hv gd.sat (gw.mono g) hsx1) ?_
 rintro _ j7 _ ic j ge ⟨j8, j9, ja, xss5, rfl, rfl, hw⟩
 refine a0w (ge.Ys (g.trans j) [4, 5] Y Y) (a1b 3 Y (by kernel_rfl) ?_)
 obtain ⟨jb, m, gf, hsx2⟩ := a1h ge (i := 0) Y hw
 obtain ⟨v6, hx, hm⟩ := Yb hm
 refine a0i ent82 Y Y Y Y gf (a4p _ _ _ _ hx gf.sat hsx2) ?_
 rintro _ jc _ id o gg ⟨gx, gy, gz, rfl, rfl, hy⟩
 refine a0w (gg.Ys (((g.trans j).trans m).trans o) [3, 4] Y Y) (a1b 9 Y (by kernel_rfl) ?_)
 obtain ⟨jd, t, gh, hsx3⟩ := a1h gg (i := 0) Y ((((g9.mono g).mono j).mono m).mono o)
 have hz := ((((((Z.trans g4).trans hl).trans g).trans j).trans m).trans o).trans t
 obtain ⟨v7, i0, hm⟩ := Yb hm
 refine a0i ent96 Y Y Y Y gh (b7w _ _ _ _ i0 gh.sat (g1.mono hz) hsx3) ?_
 rintro _ je _ ie I gi ⟨jf, jg, jh, xss7, rfl, rfl, i1⟩
 refine a0w (gi.sh (((((g.trans j).trans m).trans o).trans t).trans I) [3, 4] (by decide) Y) (a1b 10 Y (by kernel_rfl) ?_)
 obtain ⟨ig, u, gj, hsx4⟩ := a1h gi (i := 0) Y i1
 obtain ⟨v8, i2, hm⟩ := Yb hm
 refine a0i ent82 Y Y Y Y gj (a4p _ _ _ _ i2 gj.sat hsx4) ?_
 rintro _ ih _ ii x gk ⟨h0, h1, h2, rfl, rfl, i3⟩
 refine a0w (gk.sh (((((((g.trans j).trans m).trans o).trans t).trans I).trans u).trans x) [2, 3] (by decide) Y) (a1b 11 Y (by kernel_rfl) (a0s sz35 Y gk Y Y Y Y (i := 1) Y Y Y Y ?_))
 intro ij gl
 refine a0w (gl.sh (((((((g.trans j).trans m).trans o).trans t).trans I).trans u).trans x) [2, 3] (by decide) Y) (a1b 12 Y (by kernel_rfl) (a0s sz35 Y gl Y Y Y Y (i := 0) Y Y Y Y ?_))
 intro ik y
 refine a0w (y.sh (((((((g.trans j).trans m).trans o).trans t).trans I).trans u).trans x) [2, 3] (by decide) Y) (d_tk 13 Y (by kernel_rfl) Y Y Y Y (y.sh (((((((g.trans j).trans m).trans o).trans t).trans I).trans u).trans x) [2, 3] (by decide) Y) (fun _ _ _ _ _ => a0b Y Y Y Yn) (a2x (by kernel_rfl) (a0c (a1d (a0j (a1o (vl := [.agg #[.int .i64 v6.Sign, .slice gx gy gz], .agg #[.int .i64 v8.Sign, .slice h0 h1 h2], .int .i64 0]) Y ⟨a2d ag35 sz35 Y y Y (i := 1) Y, a2d ag35 sz35 Y y Y (i := 0) Y, a1r Y, trivial⟩ (by simp) ?_))))))
 obtain rfl := Yo hm
 exact ⟨_, _, _, Y, y.Yp [] Y Y, gx, gy, gz, h0, h1, h2, Y, Y, ((((hy.mono t).mono I).mono u).mono x), i3⟩
 refine a0r 44 Y ga (a0q Y (a1c (a0c (a0h (a2l (SH g8 [.box b3 35 [.int .i64 b1.Sign, .slice L Q R], .box b2 35 [.int .i64 ax1.Sign, .slice K M N]]) 14 Y (by kernel_rfl) J ?_)))))
 intro il V
 have S1 := V.Ys Yf [3, 4] Y Y
 refine d_tk 0 Y (by kernel_rfl) Y Y Y Y S1 (fun _ _ _ _ _ => a0e fa35_0 Y Y Y Yn) (d_tk 1 Y (by kernel_rfl) Y Y Y Y S1 (fun _ _ _ _ hq => a0p ag3 Y Y hq Y (i := 1) Y Y Yn) (d_tk 2 Y (by kernel_rfl) Y Y Y Y S1 (fun _ _ _ _ _ => a0e fa35_0 Y Y Y Yn) (d_tk 3 Y (by kernel_rfl) Y Y Y Y S1 (fun _ _ _ _ hq => a0p ag3 Y Y hq Y (i := 0) Y Y Yn) (d_tk 4 Y (by kernel_rfl) Y Y Y Y S1 (fun _ _ _ _ _ => a0u Y Y Y Y Y Yn) (d_tk 5 Y (by kernel_rfl) Y Y Y Y S1 (fun _ _ _ _ _ => a0d Y Y Y Yn) (d_tk 7 Y (by kernel_rfl) Y Y Y Y S1 (fun _ _ _ _ _ => a0e fa35_0 Y Y Y Yn) ?_))))))
 refine d_tk 8 Y (by kernel_rfl) Y Y Y Y S1 (fun _ _ _ _ hq => a0p ag3 Y Y hq Y (i := 1) Y Y Yn) (d_tk 9 Y (by kernel_rfl) Y Y Y Y S1 (fun _ _ _ _ _ => a0d Y Y Y Yn) (a1b 6 Y (by kernel_rfl) ?_))
 obtain ⟨v9, i4, hm⟩ := Yb hm
 refine a0i ent82 Y Y Y Y V (a4p _ _ _ _ i4 V.sat gw) ?_
 rintro _ im _ io k gm ⟨h3, h4, h5, rfl, rfl, i5⟩
 refine a0w (gm.Ys k [3, 4] Y Y) (a1b 10 Y (by kernel_rfl) ?_)
 obtain ⟨ip, z, gn, hsx5⟩ := a1h gm (i := 0) Y (g9.mono k)
 obtain ⟨v10, i6, hm⟩ := Yb hm
 refine a0i ent82 Y Y Y Y gn (a4p _ _ _ _ i6 gn.sat hsx5) ?_
 rintro _ iq _ ir G go ⟨gp, gq, gr, rfl, rfl, h9⟩
 refine a0w (go.Ys ((k.trans z).trans G) [2, 3] Y Y) (a1b 11 Y (by kernel_rfl) (a0s sz35 Y go Y Y Y Y (i := 1) Y Y Y Y ?_))
 intro it gs
 refine a0w (gs.Ys ((k.trans z).trans G) [2, 3] Y Y) (a1b 12 Y (by kernel_rfl) (a0s sz35 Y gs Y Y Y Y (i := 0) Y Y Y Y ?_))
 intro iu H
 refine a0w (H.Ys ((k.trans z).trans G) [2, 3] Y Y) (d_tk 13 Y (by kernel_rfl) Y Y Y Y (H.Ys ((k.trans z).trans G) [2, 3] Y Y) (fun _ _ _ _ _ => a0b Y Y Y Yn) (a2x (by kernel_rfl) (a0c (a1d (a1o (vl := [.agg #[.int .i64 v9.Sign, .slice h3 h4 h5], .agg #[.int .i64 v10.Sign, .slice gp gq gr], .int .i64 0]) Y ⟨a2d ag35 sz35 Y H Y (i := 1) Y, a2d ag35 sz35 Y H Y (i := 0) Y, a1r Y, trivial⟩ (by simp) ?_)))))
 obtain rfl := Yo hm
 exact ⟨_, _, _, Y, H.Yp [] Y Y, h3, h4, h5, gp, gq, gr, Y, Y, ((i5.mono z).mono G), h9⟩
 clear hm
 rcases a0f T with ⟨gt, T⟩ | ⟨gt, T⟩
 refine a1g 40 Y gt (a0d Y Y Y (a1x g9.len u28 Y Y Y (a0u Y Y Y Y Y (a0n Y Y Y Y (a0g (a0o (fun a ha => ?_)))))))
 cases T
 exact ⟨Y, ha.cut (l := [2, 3, 4, 5, 7, 8, 44]) Y⟩
 refine a1g 40 Y gt (a0t Y (by decide) Y (a0t Y (by decide) Y (a0t Y (by decide) Y (a0k Y Y Y Y (a0g (a0o (fun a ha => ?_)))))))
 cases T
 exact ⟨Y, ha.cut (l := [2, 3, 4, 5, 7, 8, 44]) Y⟩
 clear hm
 rcases a0f p with ⟨gu, p⟩ | ⟨gu, p⟩
 refine a1g 13 Y gu (a0t Y (by decide) Y (a0t Y (by decide) Y (a0t Y (by decide) Y (a0n Y Y Y Y (a0g (a0o (fun a ha => ?_)))))))
 cases p
 exact ⟨_, Yf, g0.Yp [0, 1, 2, 3] Y Y, ha.cut (l := [2, 3, 4, 5, 17]) Y⟩
 refine a1g 13 Y gu (a0m ag35 sz35 Y Y g0 Y (i := 2) Y Y ?_)
 obtain ⟨v11, i7, p⟩ := Yb p
 refine a0i ent44 Y Y Y Y g0 (a3o _ _ _ i7 g0.sat (g1.mono Z)) ?_
 rintro _ iv _ iw hb hc ⟨rfl, rfl⟩
 refine a3d Y Y Y (a0k Y Y Y Y (a0g (a0o (fun a ha => ?_))))
 cases p
 exact ⟨_, hb, hc.Yp [0, 1, 2, 3] Y Y, ha.cut (l := [2, 3, 4, 5, 17]) Y⟩
def a9s (n : Nat) (kont1 : (List Int) → Option (Big × Int)) : Nat → (List Int) → (List Int) → Option (Big × Int)
 | 0, _, _ => none
 | mx1 + 1, x1, y1 =>
  bif decide (0 < (y1.length : Int)) then
   (b4s n x1 y1).bind fun v8 =>
   a9s n kont1 mx1 y1 v8.2
  else
   kont1 x1
theorem b4r (n : Nat) (kont1 : (List Int) → Option (Big × Int)) (mx1 : Nat) (x1 : (List Int)) (y1 : (List Int)) : a9s n kont1 (mx1 + 1) x1 y1 =
  bif decide (0 < (y1.length : Int)) then
   (b4s n x1 y1).bind fun v8 =>
   a9s n kont1 mx1 y1 v8.2
  else
   kont1 x1 := rfl
def b5d (n : Nat) (ax1 : Big) (b1 : Big) : Option (Big × Int) :=
 (a4d n ax1).bind fun v1 =>
 (bif !v1 then
  some true
 else
  (a4d n b1).bind fun v9 =>
  some (!v9)).bind fun v2 =>
 bif v2 then
  (a5l n false (⟨0, []⟩ : Big)).bind fun v3 =>
  some (v3.1, v3.2)
 else
  (a2c n ax1.Digits).bind fun v4 =>
  a9s n (fun (x2 : (List Int)) =>
   (a2c n x2).bind fun v5 =>
   (a3u n 1 v5).bind fun v6 =>
   (a5l n true v6).bind fun v7 =>
   some (v7.1, v7.2)) n v4 b1.Digits
theorem b3h (n : Nat) (ax1 : Big) (b1 : Big) (r : (Big × Int)) (hm : b5d n ax1 b1 = some r) {w : World} {F : Frz} (hs : Sat F w) {t j : Option Addr} {u x k o : Nat} (gf : SlR (Rp.int .i64) F t u x ax1.Digits) (gg : SlR (Rp.int .i64) F j k o b1.Digits) :
  Calls Tryz.prog 45 #[.agg #[.int .i64 ax1.Sign, .slice t u x], .agg #[.int .i64 b1.Sign, .slice j k o]] w fun e w' => ∃ v F' O', e = .returned v ∧ HS F w [] F' O' w' ∧ (∃ (a0_1 : Option Addr) (n0_1 : Nat) (c0_1 : Nat), v = .tuple #[.agg #[.int .i64 r.1.Sign, .slice a0_1 n0_1 c0_1], .int .i64 r.2] ∧ O' = [] ∧ SlR (Rp.int .i64) F' a0_1 n0_1 c0_1 r.1.Digits) := by
 unfold b5d at hm
 have h := HS.init hs
 refine a1a 44 Tryz.func45 Y Y Y (a0h (a0a (a2i Y Y Y Y h ?_)))
 intro b2 ih h7
 refine a2i Y Y Y Y h7 ?_
 intro b3 ii h8
 refine a1f ze35 Y Y Y h8 ?_
 intro b4 ij R
 refine a0b Y Y Y (a0g (a0c (a0h (a0h (a0a (a0m ag35 sz35 Y Y R Y (i := 2) Y Y ?_))))))
 obtain ⟨v1, h9, hm⟩ := Yb hm
 refine a0i ent44 Y Y Y Y R (a3o _ _ _ h9 R.sat gf) ?_
 rintro _ hb _ ik T z ⟨rfl, rfl⟩
 refine a3d Y Y Y (a0d Y Y Y ?_)
 obtain ⟨v2, g, hm⟩ := Yb hm
 refine a1z 4 (fun a w' => ∃ (G : Frz), Frz.le hb G ∧ HS F w [] G [.box b4 35 [.int .i64 0, .slice none 0 0], .box b3 35 [.int .i64 b1.Sign, .slice j k o], .box b2 35 [.int .i64 ax1.Sign, .slice t u x]] w' ∧ Has 44 a [(2, .pointer (some ⟨b2, 0, none⟩)), (3, .pointer (some ⟨b3, 0, none⟩)), (4, .pointer (some ⟨b4, 0, none⟩)), (17, .bool v2)]) ?_ ?_
 rintro a il ⟨G, gh, U, gr⟩
 refine a0z gr (a0g (a0c ?_))
 rcases a0f hm with ⟨V, hm⟩ | ⟨V, hm⟩
 refine a0r 17 Y V (a0y Y (a0h (a0a (a1y (v := .agg #[.int .i64 0, .slice none 0 0]) Y Y Y (fun _ => by kernel_rfl) ?_))))
 obtain ⟨v3, hc, hm⟩ := Yb hm
 refine a0i ent80 Y Y Y Y U (a5x _ _ _ _ hc U.sat (SlR.nil _ _)) ?_
 rintro _ im _ io ip hd ⟨gi, gj, gk, rfl, rfl, he⟩
 refine a0l Y Y Y Y (a0l Y Y Y Y (a0s sz35 Y hd Y Y Y Y (i := 0) Y Y Y Y ?_))
 intro iq gl
 refine a0b Y Y Y (a0g (a0c (a1d (a0j (a1o (vl := [.agg #[.int .i64 v3.1.Sign, .slice gi gj gk], .int .i64 v3.2]) Y ⟨a2d ag35 sz35 Y gl Y (i := 0) Y, a1r Y, trivial⟩ (by simp) ?_)))))
 obtain rfl := Yo hm
 exact ⟨_, _, _, Y, gl.Yp [] Y Y, gi, gj, gk, Y, Y, he⟩
 refine a0r 17 Y V (a0q Y (a1c (a0c (a0h (a2l (SH G [.box b4 35 [.int .i64 0, .slice none 0 0], .box b3 35 [.int .i64 b1.Sign, .slice j k o], .box b2 35 [.int .i64 ax1.Sign, .slice t u x]]) 7 Y (by kernel_rfl) U ?_)))))
 intro ir Z
 have S0 := Z.Ys Yf [0, 1, 2] Y Y
 refine d_tk 0 Y (by kernel_rfl) Y Y Y Y S0 (fun _ _ _ _ _ => a0e fa35_1 Y Y Y Yn) (d_tk 1 Y (by kernel_rfl) Y Y Y Y S0 (fun _ _ _ _ hq => a0p ag28 Y Y hq Y (i := 2) Y Y Yn) (d_tk 3 Y (by kernel_rfl) Y Y Y Y S0 (fun _ _ _ _ _ => a0e fa35_1 Y Y Y Yn) (d_tk 4 Y (by kernel_rfl) Y Y Y Y S0 (fun _ _ _ _ hq => a0p ag28 Y Y hq Y (i := 1) Y Y Yn) (a1b 2 Y (by kernel_rfl) ?_))))
 obtain ⟨v4, hf, hm⟩ := Yb hm
 refine a0i ent67 Y Y Y Y Z (a2m _ _ _ hf Z.sat ((gf.mono T).mono gh)) ?_
 rintro _ it _ iu gm gn ⟨hg, hh, hi, xss4, rfl, rfl, hj⟩
 have S1 := gn.Ys gm [1, 2, 3] Y Y
 refine a0w S1 (d_tk 5 Y (by kernel_rfl) Y Y Y Y S1 (fun _ _ _ _ _ => a0b Y Y Y Yn) (d_tk 6 Y (by kernel_rfl) Y Y Y Y S1 (fun _ _ _ _ _ => a0b Y Y Y Yn) (a2x (by kernel_rfl) (a0c (a0h (a1i ?_))))))
 obtain ⟨go, hk, gs, hsx1⟩ := a1h gn (i := 0) Y hj
 intro a gt
 obtain ⟨kont1, hkont1⟩ : ∃ kont1 : (List Int) → Option (Big × Int), kont1 = (fun (x2 : (List Int)) => (a2c n x2).bind fun v5 => (a3u n 1 v5).bind fun v6 => (a5l n true v6).bind fun v7 => some (v7.1, v7.2)) := ⟨_, Y⟩
 replace hm : (fun m (s : (List Int) × (List Int)) => a9s n kont1 m s.1 s.2) n (v4, b1.Digits) = some r := by rw [hkont1]; exact hm
 refine a5p (id := 0) (fun m (s : (List Int) × (List Int)) => a9s n kont1 m s.1 s.2) (fun (y : (List Int)) => kont1 y) r (fun (s : (List Int) × (List Int)) a w' => ∃ (p : Frz) (H : Option Addr) (I : Nat) (J : Nat) (L : Option Addr) (M : Nat) (N : Nat), Frz.le go p ∧ HS F w [] p [.box b4 35 [.int .i64 0, .slice none 0 0]] w' ∧ (SlR (Rp.int .i64) p H I J s.1) ∧ (SlR (Rp.int .i64) p L M N s.2) ∧ Has 44 a [(4, .pointer (some ⟨b4, 0, none⟩)), (6, .slice H I J), (7, .slice L M N)]) (fun (y : (List Int)) a w' => ∃ (Q : Frz) (g0 : Option Addr) (g1 : Nat) (g2 : Nat), Frz.le go Q ∧ HS F w [] Q [.box b4 35 [.int .i64 0, .slice none 0 0]] w' ∧ (SlR (Rp.int .i64) Q g0 g1 g2 y) ∧ Has 44 a [(4, .pointer (some ⟨b4, 0, none⟩)), (6, .slice g0 g1 g2)]) (fun _ => Y) ?_ ?_ hm ⟨_, hg, hh, hi, j, k, o, Yf, gs.Yp [0] Y Y, hsx1, ((((gg.mono T).mono gh).mono gm).mono hk), gt.cut (l := [4, 6, 7]) Y⟩
 clear hm; rintro x2 a hw hm ⟨Q, g0, g1, g2, iv, g3, hl, gu⟩
 rw [hkont1] at hm
 replace hm := hm
 refine a2g (e := .exit 0) gu (a1k (a0c (a0h (a0a (a0d Y Y Y ?_)))))
 obtain ⟨v5, hn, hm⟩ := Yb hm
 refine a0i ent67 Y Y Y Y g3 (a2m _ _ _ hn g3.sat hl) ?_
 rintro _ iw _ hx ix gv ⟨iy, iz, j0, xss8, rfl, rfl, ho⟩
 obtain ⟨j1, j2, g4, hsx2⟩ := a1h gv (i := 0) Y ho
 obtain ⟨v6, hp, hm⟩ := Yb hm
 refine a0i ent82 Y Y Y Y g4 (a4p _ _ _ _ hp g4.sat hsx2) ?_
 rintro _ hy _ hz i0 g5 ⟨j3, j4, j5, rfl, rfl, hr⟩
 obtain ⟨v7, ht, hm⟩ := Yb hm
 refine a0i ent80 Y Y Y Y g5 (a5x _ _ _ _ ht g5.sat hr) ?_
 rintro _ i1 _ i2 i3 gw ⟨g6, g7, g8, rfl, rfl, gx⟩
 refine a0l Y Y Y Y (a0l Y Y Y Y (a0s sz35 Y gw Y Y Y Y (i := 0) Y Y Y Y ?_))
 intro i4 g9
 refine a0b Y Y Y (a0g (a0c (a1d (a1o (vl := [.agg #[.int .i64 v7.1.Sign, .slice g6 g7 g8], .int .i64 v7.2]) Y ⟨a2d ag35 sz35 Y g9 Y (i := 0) Y, a1r Y, trivial⟩ (by simp) ?_))))
 obtain rfl := Yo hm
 exact ⟨_, _, _, Y, g9.Yp [] Y Y, g6, g7, g8, Y, Y, gx⟩
 clear hm hkont1; intro hk1 mx1 K ihx1
 rintro ⟨x1, y1⟩ a i5 hm ⟨p, H, I, J, L, M, N, gp, q, gq, ga, gy⟩
 simp only [b4r] at hm
 refine a1n gy (a0h (a0h (a0a (a0d Y Y Y (a1x ga.len u28 Y Y Y (a0u Y Y Y Y Y (a0g (a0c ?_))))))))
 rcases a0f hm with ⟨gb, hm⟩ | ⟨gb, hm⟩
 refine a0r 29 Y gb (a0y Y (a1c (a0c (a1i (a0h (a0a (a0d Y Y Y (a0d Y Y Y ?_))))))))
 obtain ⟨v8, hu, hm⟩ := Yb hm
 refine a0i ent81 Y Y Y Y q (c2g _ _ _ _ hu q.sat gq ga) ?_
 rintro _ i6 _ i7 gc gz ⟨i8, i9, ia, h0, h1, h2, xss12, rfl, rfl, ib, h3⟩
 refine a0d Y Y Y (a0l Y Y Y Y (a0l Y Y Y Y (a0b Y Y Y (a0b Y Y Y (a0g (a0c (a0a (a0d Y Y Y (a0d Y Y Y (a0b Y Y Y (a0b Y Y Y (a0g (a1q ?_)))))))))))))
 obtain ⟨ic, gd, h4, hsx3⟩ := a1h gz (i := 0) Y h3
 refine a0o (fun a ha => ihx1 (y1, v8.2) a _ hm ?_)
 exact ⟨_, L, M, N, h0, h1, h2, ((gp.trans gc).trans gd), h4.Yp [0] Y Y, ((ga.mono gc).mono gd), hsx3, ha.cut (l := [4, 6, 7]) Y⟩
 refine a0r 29 Y gb (a0q Y (a3p (a0x (a0x (fun a ha => hk1 x1 a _ hm ?_)))))
 exact ⟨_, H, I, J, gp, q.Yp [0] Y Y, gq, ha.cut (l := [4, 6]) Y⟩
 clear hm
 rcases a0f g with ⟨ge, g⟩ | ⟨ge, g⟩
 refine a1g 13 Y ge (a0t Y (by decide) Y (a0t Y (by decide) Y (a0t Y (by decide) Y (a0n Y Y Y Y (a0g (a0o (fun a ha => ?_)))))))
 cases g
 exact ⟨_, Yf, z.Yp [0, 1, 2] Y Y, ha.cut (l := [2, 3, 4, 17]) Y⟩
 refine a1g 13 Y ge (a0m ag35 sz35 Y Y z Y (i := 1) Y Y ?_)
 obtain ⟨v9, hv, g⟩ := Yb g
 refine a0i ent44 Y Y Y Y z (a3o _ _ _ hv z.sat (gg.mono T)) ?_
 rintro _ ie _ ig h5 h6 ⟨rfl, rfl⟩
 refine a3d Y Y Y (a0k Y Y Y Y (a0g (a0o (fun a ha => ?_))))
 cases g
 exact ⟨_, h5, h6.Yp [0, 1, 2] Y Y, ha.cut (l := [2, 3, 4, 17]) Y⟩
theorem u3 : Tryz.prog.underlying 3 = some (.int .i64) := by kernel_rfl
theorem u116 : Tryz.prog.underlying 116 = some (.int .u64) := by kernel_rfl
def b0b (n : Nat) (kont1 : (List Int) → Option Big) : Nat → Int → (List Int) → Option Big
 | 0, _, _ => none
 | mx1 + 1, u2, l1 =>
  bif decide (0 < u2) then
   (app 8 l1 [IntKind.i64.wrap (iand .u64 u2 1048575)]).bind fun l3 =>
   (shr .u64 u2 20).bind fun q1 =>
   b0b n kont1 mx1 q1 l3
  else
   kont1 l1
theorem c0s (n : Nat) (kont1 : (List Int) → Option Big) (mx1 : Nat) (u2 : Int) (l1 : List Int) : b0b n kont1 (mx1 + 1) u2 l1 =
  bif decide (0 < u2) then
   (app 8 l1 [IntKind.i64.wrap (iand .u64 u2 1048575)]).bind fun l3 =>
   (shr .u64 u2 20).bind fun q1 =>
   b0b n kont1 mx1 q1 l3
  else
   kont1 l1 := rfl
def b7a (n : Nat) (nx1 : Int) : Option Big :=
 (bif decide (nx1 < 0) then
  some ((-1), IntKind.u64.wrap (0 - (IntKind.u64.wrap nx1)))
 else
  some (1, IntKind.u64.wrap nx1)).bind fun (sign1, u1) =>
 b0b n (fun (l2 : List Int) =>
  (a3u n sign1 l2).bind fun v1 =>
  some v1) n u1 ([] : List Int)
theorem c4o (n : Nat) (nx1 : Int) (r : Big) (hm : b7a n nx1 = some r) {w : World} {F : Frz} (hs : Sat F w)  :
  Calls Tryz.prog 77 #[.int .i64 nx1] w fun e w' => ∃ v F' O', e = .returned v ∧ HS F w [] F' O' w' ∧ (∃ (a0_1 : Option Addr) (n0_1 : Nat) (c0_1 : Nat), v = .agg #[.int .i64 r.Sign, .slice a0_1 n0_1 c0_1] ∧ O' = [] ∧ SlR (Rp.int .i64) F' a0_1 n0_1 c0_1 r.Digits) := by
 unfold b7a at hm
 have h := HS.init hs
 refine a1a 25 Tryz.func77 Y Y Y (a0h (a0a (a1f ze35 Y Y Y h ?_)))
 intro b1 Z g0
 refine a0g (a0c (a0h (a0a (a0d Y Y Y (c5l u3 u116 Y Y Y (a0b Y Y Y (a0b Y Y Y (a0g (a0c (a0h (a0h (a0a (a0d Y Y Y (a0u Y Y Y Y Y (a0g (a0c ?_))))))))))))))))
 obtain ⟨⟨sign1, u1⟩, k, hm⟩ := Yb hm
 refine a9a (fun a w' => Z = w' ∧ Has 25 a [(2, .pointer (some ⟨b1, 0, none⟩)), (3, .int .i64 sign1), (4, .int .u64 u1)]) ?_ ?_
 rintro a gg ⟨rfl, R⟩
 refine a1n R (a0h (a0a (a0b Y Y Y (a0g (a0c (a0h (a1i ?_)))))))
 have g1 := g0.nilRow 3 1
 intro a T
 obtain ⟨kont1, hkont1⟩ : ∃ kont1 : (List Int) → Option Big, kont1 = (fun (l2 : List Int) => (a3u n sign1 l2).bind fun v1 => some v1) := ⟨_, Y⟩
 replace hm : (fun m (s : Int × List Int) => b0b n kont1 m s.1 s.2) n (u1, ([] : List Int)) = some r := by rw [hkont1]; exact hm
 refine a5p (id := 0) (fun m (s : Int × List Int) => b0b n kont1 m s.1 s.2) (fun (y : List Int) => kont1 y) r (fun (s : Int × List Int) a w' => ∃ (o : Frz) (p : Option Addr) (g : Nat) (t : Nat) (xss1 : List Value), Frz.le F o ∧ HS F w [] o [.row 3 1 p g t xss1, .box b1 35 [.int .i64 0, .slice none 0 0]] w' ∧ (RowN (Rp.int .i64) o g xss1 s.2) ∧ Has 25 a [(2, .pointer (some ⟨b1, 0, none⟩)), (3, .int .i64 sign1), (4, .int .u64 s.1), (5, .slice p g t)]) (fun (y : List Int) a w' => ∃ (u : Frz) (z : Option Addr) (x : Nat) (G : Nat) (xss2 : List Value), Frz.le F u ∧ HS F w [] u [.row 3 1 z x G xss2, .box b1 35 [.int .i64 0, .slice none 0 0]] w' ∧ (RowN (Rp.int .i64) u x xss2 y) ∧ Has 25 a [(2, .pointer (some ⟨b1, 0, none⟩)), (3, .int .i64 sign1), (5, .slice z x G)]) (fun _ => Y) ?_ ?_ hm ⟨_, none, 0, 0, [], Yf, g1.Yp [0, 1] Y Y, ((show RowN (Rp.int .i64) _ 0 [] [] from ⟨Y, Y⟩)), T.cut (l := [2, 3, 4, 5]) Y⟩
 clear hm; rintro l2 a gh hm ⟨u, z, x, G, xss2, gi, g2, g3, U⟩
 rw [hkont1] at hm
 replace hm := hm
 refine a2g (e := .exit 0) U (a1k (a0c (a0h (a0a (a0d Y Y Y (a0d Y Y Y ?_))))))
 obtain ⟨gj, gk, J, hsx1⟩ := a1h g2 (i := 0) Y g3
 obtain ⟨v1, g4, hm⟩ := Yb hm
 refine a0i ent82 Y Y Y Y J (a4p _ _ _ _ g4 J.sat hsx1) ?_
 rintro _ gl _ gm gn g5 ⟨g6, g7, g8, rfl, rfl, g9⟩
 refine a0s sz35 Y g5 Y Y Y Y (i := 0) Y Y Y Y ?_
 intro go L
 refine a0g (a0c (a1d (a3y Y ag35 sz35 Y L Y (i := 0) Y ?_)))
 obtain rfl := Yo hm
 exact ⟨_, _, _, Y, L.Yp [] Y Y, g6, g7, g8, Y, Y, g9⟩
 clear hm hkont1; intro hk1 mx1 K ihx1
 rintro ⟨u2, l1⟩ a gp hm ⟨o, p, g, t, xss1, M, N, Q, V⟩
 simp only [c0s] at hm
 refine a1n V (a0h (a0h (a0a (a0d Y Y Y (a0u Y Y Y Y Y (a0g (a0c ?_)))))))
 rcases a0f hm with ⟨H, hm⟩ | ⟨H, hm⟩
 refine a0r 13 Y H (a0y Y (a1c (a0c (a0h (a1i (a0a (a0d Y Y Y (a0d Y Y Y (a0u Y Y Y Y Y (c5l u116 u3 Y Y Y (a1v (e := 3) (cs := [.int .i64 (IntKind.i64.wrap (iand .u64 u2 1048575))]) (q := 1) Y Y N Y (fun _ => by kernel_rfl) Y Y ?_)))))))))))
 intro b2 gq ga
 obtain ⟨l3, gb, hm⟩ := Yb hm
 refine a9y (r := (Rp.int .i64)) ap28 Y Y ga Y Y (i := 1) (j := 0) Y Y Q ((show RowN (Rp.int .i64) o 1 [.int .i64 (IntKind.i64.wrap (iand .u64 u2 1048575))] [IntKind.i64.wrap (iand .u64 u2 1048575)] from ⟨Y, ⟨_, _, Y, Y, (Y : RowR (Rp.int .i64) _ [] [])⟩⟩)) gb ?_
 intro gc gd gr ge gf
 refine a0b Y Y Y (a0g (a1q (a0c (a0a (a0d Y Y Y ?_)))))
 obtain ⟨q1, hq1, hm⟩ := Yb hm
 refine c7w Y Y Y Y hq1 (a0b Y Y Y (a0g (a0o (fun a ha => ihx1 (q1, l3) a _ hm ?_))))
 exact ⟨_, gc, (g + 1), gd, (xss1 ++ [.int .i64 (IntKind.i64.wrap (iand .u64 u2 1048575))]), M, ge.Yp [1, 2] Y Y, gf, ha.cut (l := [2, 3, 4, 5]) Y⟩
 refine a0r 13 Y H (a0q Y (a3p (a0x (a0x (fun a ha => hk1 l1 a _ hm ?_)))))
 exact ⟨_, p, g, t, xss1, M, N.Yp [0, 1] Y Y, Q, ha.cut (l := [2, 3, 5]) Y⟩
 clear hm
 rcases a0f k with ⟨I, k⟩ | ⟨I, k⟩
 refine a0r 9 Y I (a0y Y (a0a (a0d Y Y Y (c8a Y Y Y (a0b Y Y Y (a0b Y Y Y (a0g (a0o (fun a ha => ?_)))))))))
 cases k
 exact ⟨Y, ha.cut (l := [2, 3, 4]) Y⟩
 refine a0r 9 Y I (a0q Y (a1c (a0o (fun a ha => ?_))))
 cases k
 exact ⟨Y, ha.cut (l := [2, 3, 4]) Y⟩
def b0p (n : Nat) (ax1 : Big) (kont1 : Int → Option (Int × Bool)) : Nat → Int → Int → Option (Int × Bool)
 | 0, _, _ => none
 | mx1 + 1, u1, i1 =>
  bif decide (i1 < (ax1.Digits.length : Int)) then
   (ix ax1.Digits i1).bind fun ex1 =>
   (bif i1 == 3 then
    some (decide (8 < ex1))
   else
    some false).bind fun v5 =>
   bif v5 then
    some (0, false)
   else
    (shl .u64 (IntKind.u64.wrap ex1) (imul .i64 20 i1)).bind fun q1 =>
    b0p n ax1 kont1 mx1 (ior .u64 u1 q1) (iadd .i64 i1 1)
  else
   kont1 u1
theorem b5e (n : Nat) (ax1 : Big) (kont1 : Int → Option (Int × Bool)) (mx1 : Nat) (u1 : Int) (i1 : Int) : b0p n ax1 kont1 (mx1 + 1) u1 i1 =
  bif decide (i1 < (ax1.Digits.length : Int)) then
   (ix ax1.Digits i1).bind fun ex1 =>
   (bif i1 == 3 then
    some (decide (8 < ex1))
   else
    some false).bind fun v5 =>
   bif v5 then
    some (0, false)
   else
    (shl .u64 (IntKind.u64.wrap ex1) (imul .i64 20 i1)).bind fun q1 =>
    b0p n ax1 kont1 mx1 (ior .u64 u1 q1) (iadd .i64 i1 1)
  else
   kont1 u1 := rfl
def c0n (n : Nat) (ax1 : Big) : Option (Int × Bool) :=
 (a4d n ax1).bind fun v1 =>
 (bif !v1 then
  some true
 else
  some (decide (4 < (ax1.Digits.length : Int)))).bind fun v2 =>
 bif v2 then
  some (0, false)
 else
  b0p n ax1 (fun (u2 : Int) =>
   (bif decide (ax1.Sign < 0) then
    some (decide (u2 ≤ 9223372036854775808))
   else
    some false).bind fun v3 =>
   bif v3 then
    some (IntKind.i64.wrap (IntKind.u64.wrap (0 - u2)), true)
   else
    (bif decide (0 ≤ ax1.Sign) then
     some (decide (u2 < 9223372036854775808))
    else
     some false).bind fun v4 =>
    bif v4 then
     some (IntKind.i64.wrap u2, true)
    else
     some (0, false)) n 0 0
theorem c8o (n : Nat) (ax1 : Big) (r : (Int × Bool)) (hm : c0n n ax1 = some r) {w : World} {F : Frz} (hs : Sat F w) {H : Option Addr} {I : Nat} {o : Nat} (J : SlR (Rp.int .i64) F H I o ax1.Digits) :
  Calls Tryz.prog 83 #[.agg #[.int .i64 ax1.Sign, .slice H I o]] w fun e w' => ∃ v F' O', e = .returned v ∧ HS F w [] F' O' w' ∧ (v = .tuple #[.int .i64 r.1, .bool r.2] ∧ O' = []) := by
 unfold c0n at hm
 have h := HS.init hs
 refine a1a 59 Tryz.func83 Y Y Y (a0h (a0a (a2i Y Y Y Y h ?_)))
 intro b1 gb L
 refine a0b Y Y Y (a0b Y Y Y (a0g (a0c (a0h (a0h (a0a (a0m ag35 sz35 Y Y L Y (i := 0) Y Y ?_)))))))
 obtain ⟨v1, g5, hm⟩ := Yb hm
 refine a0i ent44 Y Y Y Y L (a3o _ _ _ g5 L.sat J) ?_
 rintro _ gc _ p g6 g ⟨rfl, rfl⟩
 refine a3d Y Y Y (a0d Y Y Y ?_)
 obtain ⟨v2, q, hm⟩ := Yb hm
 refine a1z 5 (fun a w' => p = w' ∧ Has 59 a [(1, .pointer (some ⟨b1, 0, none⟩)), (15, .bool v2)]) ?_ ?_
 rintro a gd ⟨rfl, V⟩
 refine a0z V (a0g (a0c ?_))
 rcases a0f hm with ⟨M, hm⟩ | ⟨M, hm⟩
 refine a0r 15 Y M (a0y Y (a0h (a0a (a0b Y Y Y (a0b Y Y Y (a0g (a0c (a1d (a0j (a1o (vl := [.int .i64 0, .bool false]) Y ⟨a1r Y, a1r Y, trivial⟩ (by simp) ?_))))))))))
 obtain rfl := Yo hm
 exact ⟨_, _, _, Y, g.Yp [] Y Y, Y, Y⟩
 refine a0r 15 Y M (a0q Y (a1c (a0c (a0h (a0a (a0b Y Y Y (a0g (a0c (a0h (a0h (a0a (a0e fa35_1 Y Y Y (a0p ag28 Y Y g Y (i := 0) Y Y (a1x J.len u28 Y Y Y (a0d Y Y Y (a0g (a0c (a1i ?_))))))))))))))))))
 intro a Z
 obtain ⟨kont1, hkont1⟩ : ∃ kont1 : Int → Option (Int × Bool), kont1 = (fun (u2 : Int) => (bif decide (ax1.Sign < 0) then some (decide (u2 ≤ 9223372036854775808)) else some false).bind fun v3 => bif v3 then some (IntKind.i64.wrap (IntKind.u64.wrap (0 - u2)), true) else (bif decide (0 ≤ ax1.Sign) then some (decide (u2 < 9223372036854775808)) else some false).bind fun v4 => bif v4 then some (IntKind.i64.wrap u2, true) else some (0, false)) := ⟨_, Y⟩
 replace hm : (fun m (s : Int × Int) => b0p n ax1 kont1 m s.1 s.2) n (0, 0) = some r := by rw [hkont1]; exact hm
 refine a5p (id := 0) (fun m (s : Int × Int) => b0p n ax1 kont1 m s.1 s.2) (fun (y : Int) => kont1 y) r (fun (s : Int × Int) a w' => p = w' ∧ Has 59 a [(1, .pointer (some ⟨b1, 0, none⟩)), (4, .int .u64 s.1), (17, .slice H I o), (18, .int .i64 (ax1.Digits.length : Int)), (19, .int .i64 s.2)]) (fun (y : Int) a w' => p = w' ∧ Has 59 a [(1, .pointer (some ⟨b1, 0, none⟩)), (4, .int .u64 y)]) (fun _ => Y) ?_ ?_ hm ⟨Y, Z.cut (l := [1, 4, 17, 18, 19]) Y⟩
 clear hm; rintro u2 a ge hm ⟨rfl, g0⟩
 rw [hkont1] at hm
 replace hm := hm
 refine a2g (e := .exit 0) g0 (a1k (a0c (a0h (a1i (a0h (a0a (a0e fa35_0 Y Y Y (a0p ag3 Y Y g Y (i := 0) Y Y (a0u Y Y Y Y Y (a0d Y Y Y ?_))))))))))
 obtain ⟨v3, t, hm⟩ := Yb hm
 refine a1z 3 (fun a w' => p = w' ∧ Has 59 a [(1, .pointer (some ⟨b1, 0, none⟩)), (4, .int .u64 u2), (45, .bool v3)]) ?_ ?_
 rintro a gf ⟨rfl, g1⟩
 refine a0z g1 (a0b Y Y Y (a0g (a0c ?_)))
 rcases a0f hm with ⟨N, hm⟩ | ⟨N, hm⟩
 refine a0r 38 Y N (a0y Y (a0h (a0a (a0d Y Y Y (c8a Y Y Y (c5l u116 u3 Y Y Y (a0b Y Y Y (a0b Y Y Y (a0g (a0c (a1d (a0v (a0j (a1o (vl := [.int .i64 (IntKind.i64.wrap (IntKind.u64.wrap (0 - u2))), .bool true]) Y ⟨a1r Y, a1r Y, trivial⟩ (by simp) ?_))))))))))))))
 obtain rfl := Yo hm
 exact ⟨_, _, _, Y, g.Yp [] Y Y, Y, Y⟩
 refine a0r 38 Y N (a0q Y (a0h (a0a (a0e fa35_0 Y Y Y (a0p ag3 Y Y g Y (i := 0) Y Y (a0u Y Y Y Y Y (a0d Y Y Y ?_)))))))
 obtain ⟨v4, u, hm⟩ := Yb hm
 refine a1z 3 (fun a w' => p = w' ∧ Has 59 a [(4, .int .u64 u2), (56, .bool v4)]) ?_ ?_
 rintro a gg ⟨rfl, g2⟩
 refine a0z g2 (a0b Y Y Y (a0g (a0c ?_)))
 rcases a0f hm with ⟨Q, hm⟩ | ⟨Q, hm⟩
 refine a0r 49 Y Q (a0y Y (a0h (a0a (a0d Y Y Y (c5l u116 u3 Y Y Y (a0b Y Y Y (a0b Y Y Y (a0g (a0c (a1d (a0v (a0j (a1o (vl := [.int .i64 (IntKind.i64.wrap u2), .bool true]) Y ⟨a1r Y, a1r Y, trivial⟩ (by simp) ?_)))))))))))))
 obtain rfl := Yo hm
 exact ⟨_, _, _, Y, g.Yp [] Y Y, Y, Y⟩
 refine a0r 49 Y Q (a0q Y (a1c (a1q (a0c (a0h (a0a (a0b Y Y Y (a0b Y Y Y (a0g (a0c (a1d (a1o (vl := [.int .i64 0, .bool false]) Y ⟨a1r Y, a1r Y, trivial⟩ (by simp) ?_))))))))))))
 obtain rfl := Yo hm
 exact ⟨_, _, _, Y, g.Yp [] Y Y, Y, Y⟩
 clear hm
 rcases a0f u with ⟨R, u⟩ | ⟨R, u⟩
 refine a1g 53 Y R (a0d Y Y Y (a0u Y Y Y Y Y (a0n Y Y Y Y (a0g (a0o (fun a ha => ?_))))))
 cases u
 exact ⟨Y, ha.cut (l := [4, 56]) Y⟩
 refine a1g 53 Y R (a0t Y (by decide) Y (a0t Y (by decide) Y (a0k Y Y Y Y (a0g (a0o (fun a ha => ?_))))))
 cases u
 exact ⟨Y, ha.cut (l := [4, 56]) Y⟩
 clear hm
 rcases a0f t with ⟨T, t⟩ | ⟨T, t⟩
 refine a1g 42 Y T (a0d Y Y Y (a0u Y Y Y Y Y (a0n Y Y Y Y (a0g (a0o (fun a ha => ?_))))))
 cases t
 exact ⟨Y, ha.cut (l := [1, 4, 45]) Y⟩
 refine a1g 42 Y T (a0t Y (by decide) Y (a0t Y (by decide) Y (a0k Y Y Y Y (a0g (a0o (fun a ha => ?_))))))
 cases t
 exact ⟨Y, ha.cut (l := [1, 4, 45]) Y⟩
 clear hm hkont1; intro hk1 mx1 K ihx1
 rintro ⟨u1, i1⟩ a gh hm ⟨rfl, g3⟩
 simp only [b5e] at hm
 refine a1n g3 (a0h (a0a (a0u Y Y Y Y Y (a0g (a0c (a0h ?_))))))
 rcases a0f hm with ⟨U, hm⟩ | ⟨U, hm⟩
 refine a0r 20 Y U (a0y Y (a1c (a0c (a0h (a1i (a0h (a0a (a0d Y Y Y ?_))))))))
 obtain ⟨ex1, g7, hm⟩ := Yb hm
 refine a2e (r := (Rp.int .i64)) u28 sz3 Y Y Y Y (J.mono g6) g7 ?_
 intro b2 o1 o g8 g9
 have ga : o = [.int .i64 ex1] := g9
 subst ga
 refine a1s (j := 0) ag3 Y Y g g8 Y Y (a0b Y Y Y (a0b Y Y Y (a0g (a0c (a0h (a0h (a0a (a0d Y Y Y (a0u Y Y Y Y Y (a0d Y Y Y ?_))))))))))
 obtain ⟨v5, k, hm⟩ := Yb hm
 refine a1z 3 (fun a w' => p = w' ∧ Has 59 a [(1, .pointer (some ⟨b1, 0, none⟩)), (4, .int .u64 u1), (5, .int .i64 i1), (6, .int .i64 ex1), (17, .slice H I o), (18, .int .i64 (ax1.Digits.length : Int)), (19, .int .i64 i1), (29, .bool v5)]) ?_ ?_
 rintro a gi ⟨rfl, g4⟩
 refine a0z g4 (a0g (a0c ?_))
 rcases a0f hm with ⟨x, hm⟩ | ⟨x, hm⟩
 refine a0r 29 Y x (a0y Y (a0h (a0a (a0b Y Y Y (a0b Y Y Y (a0g (a0c (a1d (a0j (a0v (a0j (a0j (a0v (a0j (a1o (vl := [.int .i64 0, .bool false]) Y ⟨a1r Y, a1r Y, trivial⟩ (by simp) ?_)))))))))))))))
 obtain rfl := Yo hm
 exact ⟨_, _, _, Y, g.Yp [] Y Y, Y, Y⟩
 refine a0r 29 Y x (a0q Y (a1c (a0c (a0a (a0d Y Y Y (a0d Y Y Y (c5l u3 u116 Y Y Y (a0d Y Y Y (a0u Y Y Y Y Y ?_)))))))))
 obtain ⟨q1, hq1, hm⟩ := Yb hm
 refine d1w Y Y Y Y hq1 (a0u Y Y Y Y Y (a0b Y Y Y (a0g (a1q (a0c (a0a (a0u Y Y Y Y Y (a0d Y Y Y (a0g (a0o (fun a ha => ihx1 ((ior .u64 u1 q1), (iadd .i64 i1 1)) a _ hm ?_)))))))))))
 exact ⟨Y, ha.cut (l := [1, 4, 17, 18, 19]) Y⟩
 clear hm
 rcases a0f k with ⟨z, k⟩ | ⟨z, k⟩
 refine a1g 26 Y z (a0d Y Y Y (a0u Y Y Y Y Y (a0n Y Y Y Y (a0g (a0o (fun a ha => ?_))))))
 cases k
 exact ⟨Y, ha.cut (l := [1, 4, 5, 6, 17, 18, 19, 29]) Y⟩
 refine a1g 26 Y z (a0t Y (by decide) Y (a0t Y (by decide) Y (a0k Y Y Y Y (a0g (a0o (fun a ha => ?_))))))
 cases k
 exact ⟨Y, ha.cut (l := [1, 4, 5, 6, 17, 18, 19, 29]) Y⟩
 refine a0r 20 Y U (a0q Y (a3p (a0x (a0x (fun a ha => hk1 u1 a _ hm ?_)))))
 exact ⟨Y, ha.cut (l := [1, 4]) Y⟩
 clear hm
 rcases a0f q with ⟨G, q⟩ | ⟨G, q⟩
 refine a1g 10 Y G (a0t Y (by decide) Y (a0t Y (by decide) Y (a0t Y (by decide) Y (a0t Y (by decide) Y (a0n Y Y Y Y (a0g (a0o (fun a ha => ?_))))))))
 cases q
 exact ⟨Y, ha.cut (l := [1, 15]) Y⟩
 refine a1g 10 Y G (a0e fa35_1 Y Y Y (a0p ag28 Y Y g Y (i := 0) Y Y (a1x J.len u28 Y Y Y (a0u Y Y Y Y Y (a0k Y Y Y Y (a0g (a0o (fun a ha => ?_))))))))
 cases q
 exact ⟨Y, ha.cut (l := [1, 15]) Y⟩
end Go.Proofs.YtknpjecpcmajiaaGreat.M

