/- Several texts in one, for FeeTells.said: what the theorem leans on. -/
import Derived.Test.YtknpjecpcmajiaaGreatRows
import Derived.Test.YtknpjecpcmajiaaGreatPt3
set_option maxHeartbeats 1000000
set_option maxRecDepth 1000000
namespace Go.Proofs.YtknpjecpcmajiaaGreat.M
open Go Go.RowKit Rt
def a7c (n : Nat) (ax1 : Big) (b1 : Big) (kont1 : Option Bool) : Nat → Int → Option Bool
 | 0, _ => none
 | mx1 + 1, i1 =>
  bif decide (i1 < (ax1.Digits.length : Int)) then
   (ix ax1.Digits i1).bind fun ex1 =>
   (ix b1.Digits i1).bind fun ex2 =>
   bif ex1 != ex2 then
    some false
   else
    a7c n ax1 b1 kont1 mx1 (iadd .i64 i1 1)
  else
   kont1
theorem b1y (n : Nat) (ax1 : Big) (b1 : Big) (kont1 : Option Bool) (mx1 : Nat) (i1 : Int) : a7c n ax1 b1 kont1 (mx1 + 1) i1 =
  bif decide (i1 < (ax1.Digits.length : Int)) then
   (ix ax1.Digits i1).bind fun ex1 =>
   (ix b1.Digits i1).bind fun ex2 =>
   bif ex1 != ex2 then
    some false
   else
    a7c n ax1 b1 kont1 mx1 (iadd .i64 i1 1)
  else
   kont1 := rfl
def b1x (n : Nat) (ax1 : Big) (b1 : Big) : Option Bool :=
 (bif ax1.Sign != b1.Sign then
  some true
 else
  some ((ax1.Digits.length : Int) != (b1.Digits.length : Int))).bind fun v1 =>
 bif v1 then
  some false
 else
  a7c n ax1 b1 (
   some true) n 0
theorem c2z (n : Nat) (ax1 : Big) (b1 : Big) (r : Bool) (hm : b1x n ax1 b1 = some r) {w : World} {F : Frz} (hs : Sat F w) {t u : Option Addr} {x k z o : Nat} (G : SlR (Rp.int .i64) F t x k ax1.Digits) (U : SlR (Rp.int .i64) F u z o b1.Digits) :
  Calls Tryz.prog 118 #[.agg #[.int .i64 ax1.Sign, .slice t x k], .agg #[.int .i64 b1.Sign, .slice u z o]] w fun e w' => ∃ v F' O', e = .returned v ∧ HS F w [] F' O' w' ∧ (v = .bool r ∧ O' = []) := by
 unfold b1x at hm
 have h := HS.init hs
 refine a1a 38 Tryz.func118 Y Y Y (a0h (a0a (a2i Y Y Y Y h ?_)))
 intro b2 gf g3
 refine a2i Y Y Y Y g3 ?_
 intro b3 g4 g
 refine a0b Y Y Y (a0g (a0c (a0h (a0h (a0a (a0e fa35_0 Y Y Y (a0p ag3 Y Y g Y (i := 1) Y Y (a0e fa35_0 Y Y Y (a0p ag3 Y Y g Y (i := 0) Y Y (a0u Y Y Y Y Y (a0d Y Y Y ?_)))))))))))
 obtain ⟨v1, p, hm⟩ := Yb hm
 refine a1z 8 (fun a w' => g4 = w' ∧ Has 38 a [(2, .pointer (some ⟨b2, 0, none⟩)), (3, .pointer (some ⟨b3, 0, none⟩)), (19, .bool v1)]) ?_ ?_
 rintro a gg ⟨rfl, Z⟩
 refine a0z Z (a0g (a0c ?_))
 rcases a0f hm with ⟨H, hm⟩ | ⟨H, hm⟩
 refine a0r 19 Y H (a0y Y (a0h (a0a (a0b Y Y Y (a0g (a0c (a1d (a0j (a1j Y Y ?_)))))))))
 obtain rfl := Yo hm
 exact ⟨_, _, _, Y, g.Yp [] Y Y, Y, Y⟩
 refine a0r 19 Y H (a0q Y (a1c (a0c (a0h (a0h (a0a (a0b Y Y Y (a0g (a0c (a1i ?_))))))))))
 intro a g0
 obtain ⟨kont1, hkont1⟩ : ∃ kont1 : Option Bool, kont1 = ( some true) := ⟨_, Y⟩
 replace hm : (fun m (s : Int) => a7c n ax1 b1 kont1 m s) n 0 = some r := by rw [hkont1]; exact hm
 refine a5p (id := 0) (fun m (s : Int) => a7c n ax1 b1 kont1 m s) (fun (y : Unit) => kont1) r (fun (s : Int) a w' => ∃ (I : Frz), Frz.le F I ∧ HS F w [] I [.box b3 35 [.int .i64 b1.Sign, .slice u z o], .box b2 35 [.int .i64 ax1.Sign, .slice t x k]] w' ∧ Has 38 a [(2, .pointer (some ⟨b2, 0, none⟩)), (3, .pointer (some ⟨b3, 0, none⟩)), (5, .int .i64 s)]) (fun (y : Unit) a w' => ∃ (J : Frz), Frz.le F J ∧ HS F w [] J [] w' ∧ Has 38 a []) (fun _ => Y) ?_ ?_ hm ⟨_, Yf, g.Yp [0, 1] Y Y, g0.cut (l := [2, 3, 5]) Y⟩
 clear hm; rintro _u a gh hm ⟨J, gi, g5, g1⟩
 rw [hkont1] at hm
 refine a2g (e := .exit 0) g1 (a1k (a0c (a0h (a0a (a0b Y Y Y (a0g (a0c (a1d (a1j Y Y ?_)))))))))
 obtain rfl := Yo hm
 exact ⟨_, _, _, Y, g5.Yp [] Y Y, Y, Y⟩
 clear hm hkont1; intro hk1 mx1 K ihx1
 rintro i1 a gj hm ⟨I, q, L, g2⟩
 simp only [b1y] at hm
 refine a1n g2 (a0h (a0h (a0a (a0d Y Y Y (a0e fa35_1 Y Y Y (a0p ag28 Y Y L Y (i := 1) Y Y (a1x G.len u28 Y Y Y (a0u Y Y Y Y Y (a0g (a0c ?_))))))))))
 rcases a0f hm with ⟨M, hm⟩ | ⟨M, hm⟩
 refine a0r 24 Y M (a0y Y (a1c (a0c (a0h (a1i (a0h (a3j (by kernel_rfl) (by kernel_rfl) L (a1e Y Y Y Y (fun _ _ _ _ => a0e fa35_1 Y Y Y Yn) (a1e Y Y Y Y (fun _ _ _ hq => a0p ag28 Y Y hq Y (i := 1) Y Y Yn) (a1e Y Y Y Y (fun _ _ _ _ => a0d Y Y Y Yn) ?_))))))))))
 obtain ⟨ex1, g6, hm⟩ := Yb hm
 obtain ⟨b4, o1, k, g7, g8, R⟩ := a2j (P := Tryz.prog) (r := (Rp.int .i64)) u28 sz3 (G.mono q) g6
 have g9 : k = [.int .i64 ex1] := g8
 subst g9
 refine a2o Y Y Y Y R (a1e Y Y Y Y (fun _ _ hleq hq => a1s (j := 0) ag3 Y Y hq (g7.mono hleq) Y Y Yn) (a1e Y Y Y Y (fun _ _ _ _ => a0e fa35_1 Y Y Y Yn) (a1e Y Y Y Y (fun _ _ _ hq => a0p ag28 Y Y hq Y (i := 0) Y Y Yn) (a1e Y Y Y Y (fun _ _ _ _ => a0d Y Y Y Yn) ?_))))
 obtain ⟨ex2, ga, hm⟩ := Yb hm
 obtain ⟨b5, o2, o, gb, gc, T⟩ := a2j (P := Tryz.prog) (r := (Rp.int .i64)) u28 sz3 (U.mono q) ga
 have gd : o = [.int .i64 ex2] := gc
 subst gd
 refine a2o Y Y Y Y T (a1e Y Y Y Y (fun _ _ hleq hq => a1s (j := 0) ag3 Y Y hq (gb.mono hleq) Y Y Yn) (a1e Y Y Y Y (fun _ _ _ _ => a0u Y Y Y Y Y Yn) (b0t ?_)))
 rintro gk ⟨gl, ge, V⟩
 refine a0c ?_
 rcases a0f hm with ⟨N, hm⟩ | ⟨N, hm⟩
 refine a0r 37 Y N (a0y Y (a0h (a0a (a0b Y Y Y (a0g (a0c (a1d (a0v (a0j (a0j (a0v (a0j (a1j Y Y ?_)))))))))))))
 obtain rfl := Yo hm
 exact ⟨_, _, _, Y, V.Yp [] Y Y, Y, Y⟩
 refine a0r 37 Y N (a0q Y (a1c (a1q (a0c (a0a (a0d Y Y Y (a0u Y Y Y Y Y (a0b Y Y Y (a0g (a0o (fun a ha => ihx1 (iadd .i64 i1 1) a _ hm ?_)))))))))))
 exact ⟨_, (q.trans ge), V.Yp [0, 1] Y Y, ha.cut (l := [2, 3, 5]) Y⟩
 refine a0r 24 Y M (a0q Y (a3p (a0x (a0x (fun a ha => hk1 () a _ hm ?_)))))
 exact ⟨_, q, L.Yp [] Y Y, ha.cut (l := []) Y⟩
 clear hm
 rcases a0f p with ⟨Q, p⟩ | ⟨Q, p⟩
 refine a1g 11 Y Q (a0t Y (by decide) Y (a0t Y (by decide) Y (a0t Y (by decide) Y (a0t Y (by decide) Y (a0t Y (by decide) Y (a0t Y (by decide) Y (a0t Y (by decide) Y (a0n Y Y Y Y (a0g (a0o (fun a ha => ?_)))))))))))
 cases p
 exact ⟨Y, ha.cut (l := [2, 3, 19]) Y⟩
 refine a1g 11 Y Q (a0e fa35_1 Y Y Y (a0p ag28 Y Y g Y (i := 1) Y Y (a1x G.len u28 Y Y Y (a0e fa35_1 Y Y Y (a0p ag28 Y Y g Y (i := 0) Y Y (a1x U.len u28 Y Y Y ?_))))))
 refine a0u Y Y Y Y Y (a0k Y Y Y Y (a0g (a0o (fun a ha => ?_))))
 cases p
 exact ⟨Y, ha.cut (l := [2, 3, 19]) Y⟩
theorem u4 : Tryz.prog.underlying 4 = some .bool := by kernel_rfl
def a5d (n : Nat) (ax1 : Big) (kont1 : Option Bool) : Nat → Int → Option Bool
 | 0, _ => none
 | mx1 + 1, i1 =>
  bif decide (i1 < (ax1.Digits.length : Int)) then
   (ix ax1.Digits i1).bind fun ex2 =>
   (bif decide (ex2 < 0) then
    some true
   else
    (ix ax1.Digits i1).bind fun ex3 =>
    some (decide (1048576 ≤ ex3))).bind fun v4 =>
   bif v4 then
    some false
   else
    a5d n ax1 kont1 mx1 (iadd .i64 i1 1)
  else
   kont1
theorem b9a (n : Nat) (ax1 : Big) (kont1 : Option Bool) (mx1 : Nat) (i1 : Int) : a5d n ax1 kont1 (mx1 + 1) i1 =
  bif decide (i1 < (ax1.Digits.length : Int)) then
   (ix ax1.Digits i1).bind fun ex2 =>
   (bif decide (ex2 < 0) then
    some true
   else
    (ix ax1.Digits i1).bind fun ex3 =>
    some (decide (1048576 ≤ ex3))).bind fun v4 =>
   bif v4 then
    some false
   else
    a5d n ax1 kont1 mx1 (iadd .i64 i1 1)
  else
   kont1 := rfl
def a2y (n : Nat) (ax1 : Big) : Option Bool :=
 a5d n ax1 (
  (bif decide (ax1.Sign < (-1)) then
   some true
  else
   some (decide (1 < ax1.Sign))).bind fun v1 =>
  (bif v1 then
   some true
  else
   some (!(((ax1.Digits.length : Int) == 0) == (ax1.Sign == 0)))).bind fun v2 =>
  bif v2 then
   some false
  else
   (bif (ax1.Digits.length : Int) == 0 then
    some true
   else
    (ix ax1.Digits (isub .i64 (ax1.Digits.length : Int) 1)).bind fun ex1 =>
    some (ex1 != 0)).bind fun v3 =>
   some v3) n 0
theorem a3b (n : Nat) (ax1 : Big) (r : Bool) (hm : a2y n ax1 = some r) {w : World} {F : Frz} (hs : Sat F w) {N : Option Addr} {Q : Nat} {G : Nat} (q : SlR (Rp.int .i64) F N Q G ax1.Digits) :
  Calls Tryz.prog 98 #[.agg #[.int .i64 ax1.Sign, .slice N Q G]] w fun e w' => ∃ v F' O', e = .returned v ∧ HS F w [] F' O' w' ∧ (v = .bool r ∧ O' = []) := by
 unfold a2y at hm
 have h := HS.init hs
 refine a1a 56 Tryz.func98 Y Y Y (a0h (a0a (a2i Y Y Y Y h ?_)))
 intro b1 p g
 refine a0b Y Y Y (a0g (a0c (a0h (a0h (a0a (a0b Y Y Y (a0g (a0c (a1i ?_)))))))))
 intro a R
 obtain ⟨kont1, hkont1⟩ : ∃ kont1 : Option Bool, kont1 = ( (bif decide (ax1.Sign < (-1)) then some true else some (decide (1 < ax1.Sign))).bind fun v1 => (bif v1 then some true else some (!(((ax1.Digits.length : Int) == 0) == (ax1.Sign == 0)))).bind fun v2 => bif v2 then some false else (bif (ax1.Digits.length : Int) == 0 then some true else (ix ax1.Digits (isub .i64 (ax1.Digits.length : Int) 1)).bind fun ex1 => some (ex1 != 0)).bind fun v3 => some v3) := ⟨_, Y⟩
 replace hm : (fun m (s : Int) => a5d n ax1 kont1 m s) n 0 = some r := by rw [hkont1]; exact hm
 refine a5p (id := 0) (fun m (s : Int) => a5d n ax1 kont1 m s) (fun (y : Unit) => kont1) r (fun (s : Int) a w' => p = w' ∧ Has 56 a [(1, .pointer (some ⟨b1, 0, none⟩)), (3, .int .i64 s)]) (fun (y : Unit) a w' => p = w' ∧ Has 56 a [(1, .pointer (some ⟨b1, 0, none⟩))]) (fun _ => Y) ?_ ?_ hm ⟨Y, R.cut (l := [1, 3]) Y⟩
 clear hm; rintro _u a gg hm ⟨rfl, T⟩
 rw [hkont1] at hm
 refine a2g (e := .exit 0) T (a1k (a0c (a0h (a0a (a0e fa35_1 Y Y Y (a0p ag28 Y Y g Y (i := 0) Y Y (a1x q.len u28 Y Y Y (a0b Y Y Y (a0g (a0c (a0h (a0h (a0a (a0e fa35_0 Y Y Y ?_))))))))))))))
 refine a0p ag3 Y Y g Y (i := 0) Y Y (a0u Y Y Y Y Y (a0d Y Y Y ?_))
 obtain ⟨v1, t, hm⟩ := Yb hm
 refine a1z 4 (fun a w' => p = w' ∧ Has 56 a [(1, .pointer (some ⟨b1, 0, none⟩)), (4, .int .i64 (ax1.Digits.length : Int)), (36, .bool v1)]) ?_ ?_
 rintro a gh ⟨rfl, U⟩
 refine a0z U (a0d Y Y Y ?_)
 obtain ⟨v2, u, hm⟩ := Yb hm
 refine a1z 7 (fun a w' => p = w' ∧ Has 56 a [(1, .pointer (some ⟨b1, 0, none⟩)), (4, .int .i64 (ax1.Digits.length : Int)), (44, .bool v2)]) ?_ ?_
 rintro a gi ⟨rfl, V⟩
 refine a0z V (a0g (a0c ?_))
 rcases a0f hm with ⟨H, hm⟩ | ⟨H, hm⟩
 refine a0r 44 Y H (a0y Y (a0h (a0a (a0b Y Y Y (a0g (a0c (a1d (a0j (a1j Y Y ?_)))))))))
 obtain rfl := Yo hm
 exact ⟨_, _, _, Y, g.Yp [] Y Y, Y, Y⟩
 refine a0r 44 Y H (a0q Y (a1c (a0c (a0h (a0a (a0d Y Y Y (a0u Y Y Y Y Y (a0d Y Y Y ?_))))))))
 obtain ⟨v3, k, hm⟩ := Yb hm
 refine a1z 8 (fun a w' => p = w' ∧ Has 56 a [(55, .bool v3)]) ?_ ?_
 rintro a gj ⟨rfl, Z⟩
 refine a0z Z (a0b Y Y Y (a0g (a0c (a1d (a1j Y Y ?_)))))
 obtain rfl := Yo hm
 exact ⟨_, _, _, Y, g.Yp [] Y Y, Y, Y⟩
 clear hm
 rcases a0f k with ⟨I, k⟩ | ⟨I, k⟩
 refine a1g 47 Y I (a0t Y (by decide) Y (a0t Y (by decide) Y (a0t Y (by decide) Y (a0t Y (by decide) Y (a0t Y (by decide) Y (a0t Y (by decide) Y (a0t Y (by decide) Y (a0n Y Y Y Y (a0g (a0o (fun a ha => ?_)))))))))))
 cases k
 exact ⟨Y, ha.cut (l := [55]) Y⟩
 refine a1g 47 Y I (a0e fa35_1 Y Y Y (a0p ag28 Y Y g Y (i := 0) Y Y (a0d Y Y Y (a0u Y Y Y Y Y ?_))))
 obtain ⟨ex1, g2, k⟩ := Yb k
 refine a2e (r := (Rp.int .i64)) u28 sz3 Y Y Y Y q g2 ?_
 intro b2 o1 G g3 g4
 have g5 : G = [.int .i64 ex1] := g4
 subst g5
 refine a1s (j := 0) ag3 Y Y g g3 Y Y (a0u Y Y Y Y Y (a0k Y Y Y Y (a0g (a0o (fun a ha => ?_)))))
 cases k
 exact ⟨Y, ha.cut (l := [55]) Y⟩
 clear hm
 rcases a0f u with ⟨J, u⟩ | ⟨J, u⟩
 refine a1g 37 Y J (a0t Y (by decide) Y (a0t Y (by decide) Y (a0t Y (by decide) Y (a0t Y (by decide) Y (a0t Y (by decide) Y (a0t Y (by decide) Y (a0n Y Y Y Y (a0g (a0o (fun a ha => ?_))))))))))
 cases u
 exact ⟨Y, ha.cut (l := [1, 4, 44]) Y⟩
 refine a1g 37 Y J (a0d Y Y Y (a0u Y Y Y Y Y (a0e fa35_0 Y Y Y (a0p ag3 Y Y g Y (i := 0) Y Y (a0u Y Y Y Y Y (d7q u4 Y Y Y Y ?_))))))
 refine a0k Y Y Y Y (a0g (a0o (fun a ha => ?_)))
 cases u
 exact ⟨Y, ha.cut (l := [1, 4, 44]) Y⟩
 clear hm
 rcases a0f t with ⟨L, t⟩ | ⟨L, t⟩
 refine a1g 32 Y L (a0t Y (by decide) Y (a0t Y (by decide) Y (a0t Y (by decide) Y (a0n Y Y Y Y (a0g (a0o (fun a ha => ?_)))))))
 cases t
 exact ⟨Y, ha.cut (l := [1, 4, 36]) Y⟩
 refine a1g 32 Y L (a0e fa35_0 Y Y Y (a0p ag3 Y Y g Y (i := 0) Y Y (a0u Y Y Y Y Y (a0k Y Y Y Y (a0g (a0o (fun a ha => ?_)))))))
 cases t
 exact ⟨Y, ha.cut (l := [1, 4, 36]) Y⟩
 clear hm hkont1; intro hk1 mx1 K ihx1
 rintro i1 a gk hm ⟨rfl, g0⟩
 simp only [b9a] at hm
 refine a1n g0 (a0h (a0h (a0a (a0d Y Y Y (a0e fa35_1 Y Y Y (a0p ag28 Y Y g Y (i := 0) Y Y (a1x q.len u28 Y Y Y (a0u Y Y Y Y Y (a0g (a0c ?_))))))))))
 rcases a0f hm with ⟨M, hm⟩ | ⟨M, hm⟩
 refine a0r 9 Y M (a0y Y (a1c (a0c (a0h (a1i (a0h (a0a (a0e fa35_1 Y Y Y (a0p ag28 Y Y g Y (i := 0) Y Y (a0d Y Y Y ?_))))))))))
 obtain ⟨ex2, g6, hm⟩ := Yb hm
 refine a2e (r := (Rp.int .i64)) u28 sz3 Y Y Y Y q g6 ?_
 intro b3 o2 g7 g8 g9
 have ga : g7 = [.int .i64 ex2] := g9
 subst ga
 refine a1s (j := 0) ag3 Y Y g g8 Y Y (a0u Y Y Y Y Y (a0d Y Y Y ?_))
 obtain ⟨v4, o, hm⟩ := Yb hm
 refine a1z 7 (fun a w' => p = w' ∧ Has 56 a [(1, .pointer (some ⟨b1, 0, none⟩)), (3, .int .i64 i1), (25, .bool v4)]) ?_ ?_
 rintro a gl ⟨rfl, g1⟩
 refine a0z g1 (a0g (a0c ?_))
 rcases a0f hm with ⟨x, hm⟩ | ⟨x, hm⟩
 refine a0r 25 Y x (a0y Y (a0h (a0a (a0b Y Y Y (a0g (a0c (a1d (a0v (a0j (a0j (a0v (a0j (a1j Y Y ?_)))))))))))))
 obtain rfl := Yo hm
 exact ⟨_, _, _, Y, g.Yp [] Y Y, Y, Y⟩
 refine a0r 25 Y x (a0q Y (a1c (a1q (a0c (a0a (a0d Y Y Y (a0u Y Y Y Y Y (a0b Y Y Y (a0g (a0o (fun a ha => ihx1 (iadd .i64 i1 1) a _ hm ?_)))))))))))
 exact ⟨Y, ha.cut (l := [1, 3]) Y⟩
 clear hm
 rcases a0f o with ⟨z, o⟩ | ⟨z, o⟩
 refine a1g 18 Y z (a0t Y (by decide) Y (a0t Y (by decide) Y (a0t Y (by decide) Y (a0t Y (by decide) Y (a0t Y (by decide) Y (a0t Y (by decide) Y (a0n Y Y Y Y (a0g (a0o (fun a ha => ?_))))))))))
 cases o
 exact ⟨Y, ha.cut (l := [1, 3, 25]) Y⟩
 refine a1g 18 Y z (a0e fa35_1 Y Y Y (a0p ag28 Y Y g Y (i := 0) Y Y (a0d Y Y Y ?_)))
 obtain ⟨ex3, gb, o⟩ := Yb o
 refine a2e (r := (Rp.int .i64)) u28 sz3 Y Y Y Y q gb ?_
 intro b4 o3 gc gd ge
 have gf : gc = [.int .i64 ex3] := ge
 subst gf
 refine a1s (j := 0) ag3 Y Y g gd Y Y (a0u Y Y Y Y Y (a0k Y Y Y Y (a0g (a0o (fun a ha => ?_)))))
 cases o
 exact ⟨Y, ha.cut (l := [1, 3, 25]) Y⟩
 refine a0r 9 Y M (a0q Y (a3p (a0x (a0x (fun a ha => hk1 () a _ hm ?_)))))
 exact ⟨Y, ha.cut (l := [1]) Y⟩
def a5v (n : Nat) (l1 : (List Int)) (kont1 : Int → Option (List Int)) : Nat → Int → Option (List Int)
 | 0, _ => none
 | mx1 + 1, nx1 =>
  (bif decide (0 < nx1) then
   (ix l1 (isub .i64 nx1 1)).bind fun ex1 =>
   some (ex1 == 0)
  else
   some false).bind fun v1 =>
  bif v1 then
   a5v n l1 kont1 mx1 (isub .i64 nx1 1)
  else
   kont1 nx1
theorem c0y (n : Nat) (l1 : (List Int)) (kont1 : Int → Option (List Int)) (mx1 : Nat) (nx1 : Int) : a5v n l1 kont1 (mx1 + 1) nx1 =
  (bif decide (0 < nx1) then
   (ix l1 (isub .i64 nx1 1)).bind fun ex1 =>
   some (ex1 == 0)
  else
   some false).bind fun v1 =>
  bif v1 then
   a5v n l1 kont1 mx1 (isub .i64 nx1 1)
  else
   kont1 nx1 := rfl
def a2p (n : Nat) (l1 : (List Int)) : Option (List Int) :=
 a5v n l1 (fun (nx2 : Int) =>
  (lsl l1 0 nx2).bind fun l2 =>
  (app 8 [] l2).bind fun l3 =>
  some l3) n (l1.length : Int)
theorem a7e (n : Nat) (l1 : (List Int)) (r : (List Int)) (hm : a2p n l1 = some r) {w : World} {F : Frz} (hs : Sat F w) {o : Option Addr} {p : Nat} {g : Nat} (t : SlR (Rp.int .i64) F o p g l1) :
  Calls Tryz.prog 135 #[.slice o p g] w fun e w' => ∃ v F' O', e = .returned v ∧ HS F w [] F' O' w' ∧ (∃ (a0_0 : Option Addr) (n0_0 : Nat) (c0_0 : Nat) (xs0_0 : List Value), v = .slice a0_0 n0_0 c0_0 ∧ O' = [.row 3 1 a0_0 n0_0 c0_0 xs0_0] ∧ RowN (Rp.int .i64) F' n0_0 xs0_0 r) := by
 unfold a2p at hm
 have h := HS.init hs
 refine a1a 23 Tryz.func135 Y Y Y (a0h (a0a (a0b Y Y Y (a0g (a0c (a0h (a0a (a0d Y Y Y (a1x t.len u28 Y Y Y (a0b Y Y Y (a0g (a0c (a0h (a1i ?_))))))))))))))
 intro a z
 obtain ⟨kont1, hkont1⟩ : ∃ kont1 : Int → Option (List Int), kont1 = (fun (nx2 : Int) => (lsl l1 0 nx2).bind fun l2 => (app 8 [] l2).bind fun l3 => some l3) := ⟨_, Y⟩
 replace hm : (fun m (s : Int) => a5v n l1 kont1 m s) n (l1.length : Int) = some r := by rw [hkont1]; exact hm
 refine a5p (id := 0) (fun m (s : Int) => a5v n l1 kont1 m s) (fun (y : Int) => kont1 y) r (fun (s : Int) a w' => w = w' ∧ Has 23 a [(0, .slice o p g), (3, .int .i64 s)]) (fun (y : Int) a w' => w = w' ∧ Has 23 a [(0, .slice o p g), (3, .int .i64 y)]) (fun _ => Y) ?_ ?_ hm ⟨Y, z.cut (l := [0, 3]) Y⟩
 clear hm; rintro nx2 a g3 hm ⟨rfl, G⟩
 rw [hkont1] at hm
 replace hm := hm
 refine a2g (e := .exit 0) G (a1k (a0c (a0h (a0a (a1v (e := 3) (cs := []) (q := 1) Y Y h Y (fun _ => by kernel_rfl) Y Y ?_)))))
 intro b1 g4 J
 refine a0d Y Y Y (a0d Y Y Y ?_)
 obtain ⟨l2, L, hm⟩ := Yb hm
 refine c9t u28 (r := (Rp.int .i64)) sz3 Y Y Y Y t L ?_
 intro g5 M g6 N
 obtain ⟨l3, Q, hm⟩ := Yb hm
 refine b9w (r := (Rp.int .i64)) ap28 Y Y Y J Y Y (i := 0) Y ((show RowN (Rp.int .i64) F 0 [] [] from ⟨Y, (Y : RowR (Rp.int .i64) _ [] [])⟩)) N Q ?_
 intro R T g7 xss3 U V
 refine a0b Y Y Y (a0g (a0c (a1d (a1j Y Y ?_))))
 obtain rfl := Yo hm
 exact ⟨_, _, _, Y, U.Yp [0] Y Y, R, (0 + M), T, xss3, Y, Y, V⟩
 clear hm hkont1; intro hk1 mx1 K ihx1
 rintro nx1 a g8 hm ⟨rfl, H⟩
 simp only [c0y] at hm
 refine a1n H (a0h (a0h (a0a (a0d Y Y Y (a0u Y Y Y Y Y (a0d Y Y Y ?_))))))
 obtain ⟨v1, k, hm⟩ := Yb hm
 refine a1z 7 (fun a w' => w = w' ∧ Has 23 a [(0, .slice o p g), (3, .int .i64 nx1), (15, .bool v1)]) ?_ ?_
 rintro a g9 ⟨rfl, I⟩
 refine a0z I (a0g (a0c ?_))
 rcases a0f hm with ⟨u, hm⟩ | ⟨u, hm⟩
 refine a0r 15 Y u (a0y Y (a1c (a0c (a1i (a0a (a0d Y Y Y (a0u Y Y Y Y Y (a0b Y Y Y (a0g (a1q (a0o (fun a ha => ihx1 (isub .i64 nx1 1) a _ hm ?_))))))))))))
 exact ⟨Y, ha.cut (l := [0, 3]) Y⟩
 refine a0r 15 Y u (a0q Y (a3p (a0x (a0x (fun a ha => hk1 nx1 a _ hm ?_)))))
 exact ⟨Y, ha.cut (l := [0, 3]) Y⟩
 clear hm
 rcases a0f k with ⟨x, k⟩ | ⟨x, k⟩
 refine a1g 8 Y x (a0d Y Y Y (a0d Y Y Y (a0u Y Y Y Y Y ?_)))
 obtain ⟨ex1, Z, k⟩ := Yb k
 refine a2e (r := (Rp.int .i64)) u28 sz3 Y Y Y Y t Z ?_
 intro b2 o1 g g0 g1
 have g2 : g = [.int .i64 ex1] := g1
 subst g2
 refine a1s (j := 0) ag3 Y Y h g0 Y Y (a0u Y Y Y Y Y (a0n Y Y Y Y (a0g (a0o (fun a ha => ?_)))))
 cases k
 exact ⟨Y, ha.cut (l := [0, 3, 15]) Y⟩
 refine a1g 8 Y x (a0t Y (by decide) Y (a0t Y (by decide) Y (a0t Y (by decide) Y (a0t Y (by decide) Y (a0t Y (by decide) Y (a0t Y (by decide) Y (a0k Y Y Y Y (a0g (a0o (fun a ha => ?_))))))))))
 cases k
 exact ⟨Y, ha.cut (l := [0, 3, 15]) Y⟩
theorem ent135 : Ent Tryz.prog 135 := fun _ _ => by kernel_rfl
def a2w (n : Nat) (sign1 : Int) (l1 : (List Int)) : Option Big :=
 (a2p n l1).bind fun v1 =>
 bif (v1.length : Int) == 0 then
  some (⟨0, []⟩ : Big)
 else
  some (⟨sign1, v1⟩ : Big)
theorem a4q (n : Nat) (sign1 : Int) (l1 : (List Int)) (r : Big) (hm : a2w n sign1 l1 = some r) {w : World} {F : Frz} (hs : Sat F w) {j : Option Addr} {k : Nat} {l : Nat} (y : SlR (Rp.int .i64) F j k l l1) :
  Calls Tryz.prog 102 #[.int .i64 sign1, .slice j k l] w fun e w' => ∃ v F' O', e = .returned v ∧ HS F w [] F' O' w' ∧ (∃ (a0_1 : Option Addr) (n0_1 : Nat) (c0_1 : Nat), v = .agg #[.int .i64 r.Sign, .slice a0_1 n0_1 c0_1] ∧ O' = [] ∧ SlR (Rp.int .i64) F' a0_1 n0_1 c0_1 r.Digits) := by
 unfold a2w at hm
 have h := HS.init hs
 refine a1a 15 Tryz.func102 Y Y Y (a0h (a0a (a1f ze35 Y Y Y h ?_)))
 intro b1 H m
 refine a0g (a0c (a0h (a0a (a0d Y Y Y ?_))))
 obtain ⟨v1, z, hm⟩ := Yb hm
 refine a0i ent135 Y Y Y Y m (a7e _ _ _ z m.sat y) ?_
 rintro _ I _ J K o ⟨p, q, s, xss2, rfl, rfl, t⟩
 refine a0b Y Y Y (a0g (a0c (a0h (a0h (a0a (a0d Y Y Y (a1x t.len u28 Y Y Y (a0u Y Y Y Y Y (a0g (a0c ?_))))))))))
 rcases a0f hm with ⟨g, hm⟩ | ⟨g, hm⟩
 refine a0r 10 Y g (a0y Y (a0h (a0a (a1y (v := .agg #[.int .i64 0, .slice none 0 0]) Y Y Y (fun _ => by kernel_rfl) (a0s sz35 Y o Y Y Y Y (i := 1) Y Y Y Y ?_)))))
 intro L u
 refine a0g (a0c (a1d (a0j (a3y Y ag35 sz35 Y u Y (i := 1) Y ?_))))
 obtain rfl := Yo hm
 exact ⟨_, _, _, Y, u.Yp [] Y Y, none, 0, 0, Y, Y, SlR.nil _ _⟩
 refine a0r 10 Y g (a0q Y (a1c (a0c (a0h (a0a (a0d Y Y Y (a0d Y Y Y ?_)))))))
 obtain ⟨M, N, G, hsx1⟩ := a1h o (i := 0) Y t
 refine a1y (v := .agg #[.int .i64 sign1, .slice p q s]) Y Y Y (fun _ => by kernel_rfl) (a0s sz35 Y G Y Y Y Y (i := 0) Y Y Y Y ?_)
 intro Q x
 refine a0g (a0c (a1d (a3y Y ag35 sz35 Y x Y (i := 0) Y ?_)))
 obtain rfl := Yo hm
 exact ⟨_, _, _, Y, x.Yp [] Y Y, p, q, s, Y, Y, hsx1⟩
theorem ent102 : Ent Tryz.prog 102 := fun _ _ => by kernel_rfl
def a7u (n : Nat) (kont1 : (List Int) → Option Big) : Nat → Int → (List Int) → Option Big
 | 0, _, _ => none
 | mx1 + 1, nx2, l1 =>
  bif nx2 != 0 then
   (rem nx2 1048576).bind fun q1 =>
   (bif decide (q1 < 0) then
    some (IntKind.i64.wrap (0 - q1))
   else
    some q1).bind fun d1 =>
   (app 8 l1 [d1]).bind fun l3 =>
   (quo .i64 nx2 1048576).bind fun q2 =>
   a7u n kont1 mx1 q2 l3
  else
   kont1 l1
theorem c3j (n : Nat) (kont1 : (List Int) → Option Big) (mx1 : Nat) (nx2 : Int) (l1 : List Int) : a7u n kont1 (mx1 + 1) nx2 l1 =
  bif nx2 != 0 then
   (rem nx2 1048576).bind fun q1 =>
   (bif decide (q1 < 0) then
    some (IntKind.i64.wrap (0 - q1))
   else
    some q1).bind fun d1 =>
   (app 8 l1 [d1]).bind fun l3 =>
   (quo .i64 nx2 1048576).bind fun q2 =>
   a7u n kont1 mx1 q2 l3
  else
   kont1 l1 := rfl
def b2v (n : Nat) (nx1 : Int) : Option Big :=
 bif nx1 == 0 then
  some (⟨0, []⟩ : Big)
 else
  (bif decide (nx1 < 0) then
   some (-1)
  else
   some 1).bind fun sign1 =>
  a7u n (fun (l2 : List Int) =>
   (a2w n sign1 l2).bind fun v1 =>
   some v1) n nx1 ([] : List Int)
theorem b6s (n : Nat) (nx1 : Int) (r : Big) (hm : b2v n nx1 = some r) {w : World} {F : Frz} (hs : Sat F w)  :
  Calls Tryz.prog 59 #[.int .i64 nx1] w fun e w' => ∃ v F' O', e = .returned v ∧ HS F w [] F' O' w' ∧ (∃ (a0_1 : Option Addr) (n0_1 : Nat) (c0_1 : Nat), v = .agg #[.int .i64 r.Sign, .slice a0_1 n0_1 c0_1] ∧ O' = [] ∧ SlR (Rp.int .i64) F' a0_1 n0_1 c0_1 r.Digits) := by
 unfold b2v at hm
 have h := HS.init hs
 refine a1a 28 Tryz.func59 Y Y Y (a0h (a0a (a1f ze35 Y Y Y h ?_)))
 intro b1 g6 N
 refine a0g (a0c (a0h (a0h (a0a (a0d Y Y Y (a0u Y Y Y Y Y (a0g (a0c ?_))))))))
 rcases a0f hm with ⟨G, hm⟩ | ⟨G, hm⟩
 refine a0r 7 Y G (a0y Y (a0h (a0a (a1y (v := .agg #[.int .i64 0, .slice none 0 0]) Y Y Y (fun _ => by kernel_rfl) (a0s sz35 Y N Y Y Y Y (i := 0) Y Y Y Y ?_)))))
 intro gn Q
 refine a0g (a0c (a1d (a0j (a3y Y ag35 sz35 Y Q Y (i := 0) Y ?_))))
 obtain rfl := Yo hm
 exact ⟨_, _, _, Y, Q.Yp [] Y Y, none, 0, 0, Y, Y, SlR.nil _ _⟩
 refine a0r 7 Y G (a0q Y (a1c (a0c (a0h (a0a (a0b Y Y Y (a0g (a0c (a0h (a0h (a0a (a0d Y Y Y (a0u Y Y Y Y Y (a0g (a0c ?_)))))))))))))))
 obtain ⟨sign1, k, hm⟩ := Yb hm
 refine a9a (fun a w' => g6 = w' ∧ Has 28 a [(0, .int .i64 nx1), (2, .pointer (some ⟨b1, 0, none⟩)), (3, .int .i64 sign1)]) ?_ ?_
 rintro a go ⟨rfl, g0⟩
 refine a1n g0 (a0h (a0a (a0b Y Y Y (a0g (a0c (a0h (a1i ?_)))))))
 have g7 := N.nilRow 3 1
 intro a g1
 obtain ⟨kont1, hkont1⟩ : ∃ kont1 : (List Int) → Option Big, kont1 = (fun (l2 : List Int) => (a2w n sign1 l2).bind fun v1 => some v1) := ⟨_, Y⟩
 replace hm : (fun m (s : Int × List Int) => a7u n kont1 m s.1 s.2) n (nx1, ([] : List Int)) = some r := by rw [hkont1]; exact hm
 refine a5p (id := 0) (fun m (s : Int × List Int) => a7u n kont1 m s.1 s.2) (fun (y : List Int) => kont1 y) r (fun (s : Int × List Int) a w' => ∃ (o : Frz) (p : Option Addr) (g : Nat) (t : Nat) (xss1 : List Value), Frz.le F o ∧ HS F w [] o [.row 3 1 p g t xss1, .box b1 35 [.int .i64 0, .slice none 0 0]] w' ∧ (RowN (Rp.int .i64) o g xss1 s.2) ∧ Has 28 a [(0, .int .i64 s.1), (2, .pointer (some ⟨b1, 0, none⟩)), (3, .int .i64 sign1), (4, .slice p g t)]) (fun (y : List Int) a w' => ∃ (x : Frz) (H : Option Addr) (z : Nat) (I : Nat) (xss2 : List Value), Frz.le F x ∧ HS F w [] x [.row 3 1 H z I xss2, .box b1 35 [.int .i64 0, .slice none 0 0]] w' ∧ (RowN (Rp.int .i64) x z xss2 y) ∧ Has 28 a [(2, .pointer (some ⟨b1, 0, none⟩)), (3, .int .i64 sign1), (4, .slice H z I)]) (fun _ => Y) ?_ ?_ hm ⟨_, none, 0, 0, [], Yf, g7.Yp [0, 1] Y Y, ((show RowN (Rp.int .i64) _ 0 [] [] from ⟨Y, Y⟩)), g1.cut (l := [0, 2, 3, 4]) Y⟩
 clear hm; rintro l2 a gp hm ⟨x, H, z, I, xss2, gq, g8, g9, g2⟩
 rw [hkont1] at hm
 replace hm := hm
 refine a2g (e := .exit 0) g2 (a1k (a0c (a0h (a0a (a0d Y Y Y (a0d Y Y Y ?_))))))
 obtain ⟨gr, gs, R, hsx1⟩ := a1h g8 (i := 0) Y g9
 obtain ⟨v1, ga, hm⟩ := Yb hm
 refine a0i ent102 Y Y Y Y R (a4q _ _ _ _ ga R.sat hsx1) ?_
 rintro _ gt _ gu gv gb ⟨gc, gd, ge, rfl, rfl, gf⟩
 refine a0s sz35 Y gb Y Y Y Y (i := 0) Y Y Y Y ?_
 intro gw T
 refine a0g (a0c (a1d (a3y Y ag35 sz35 Y T Y (i := 0) Y ?_)))
 obtain rfl := Yo hm
 exact ⟨_, _, _, Y, T.Yp [] Y Y, gc, gd, ge, Y, Y, gf⟩
 clear hm hkont1; intro hk1 mx1 K ihx1
 rintro ⟨nx2, l1⟩ a gg hm ⟨o, p, g, t, xss1, U, V, Z, g3⟩
 simp only [c3j] at hm
 refine a1n g3 (a0h (a0h (a0a (a0d Y Y Y (a0u Y Y Y Y Y (a0g (a0c ?_)))))))
 rcases a0f hm with ⟨J, hm⟩ | ⟨J, hm⟩
 refine a0r 12 Y J (a0y Y (a1c (a0c (a1i (a0h (a0a (a0d Y Y Y ?_)))))))
 obtain ⟨q1, hq1, hm⟩ := Yb hm
 refine c9e Y Y Y Y hq1 (a0b Y Y Y (a0g (a0c (a0h (a0h (a0a (a0d Y Y Y (a0u Y Y Y Y Y (a0g (a0c ?_))))))))))
 obtain ⟨d1, u, hm⟩ := Yb hm
 refine a9a (fun a w' => gg = w' ∧ Has 28 a [(0, .int .i64 nx2), (2, .pointer (some ⟨b1, 0, none⟩)), (3, .int .i64 sign1), (4, .slice p g t), (5, .int .i64 d1)]) ?_ ?_
 rintro a gx ⟨rfl, g4⟩
 refine a1n g4 (a0h (a0a (a0d Y Y Y (a0d Y Y Y (a1v (e := 3) (cs := [.int .i64 d1]) (q := 1) Y Y V Y (fun _ => by kernel_rfl) Y Y ?_)))))
 intro b2 gy gh
 obtain ⟨l3, gi, hm⟩ := Yb hm
 refine a9y (r := (Rp.int .i64)) ap28 Y Y gh Y Y (i := 1) (j := 0) Y Y Z ((show RowN (Rp.int .i64) o 1 [.int .i64 d1] [d1] from ⟨Y, ⟨_, _, Y, Y, (Y : RowR (Rp.int .i64) _ [] [])⟩⟩)) gi ?_
 intro gj gk gm g5 gl
 refine a0b Y Y Y (a0g (a0c (a0a (a0d Y Y Y ?_))))
 obtain ⟨q2, hq2, hm⟩ := Yb hm
 refine c8l Y Y Y Y hq2 (a0b Y Y Y (a0g (a1q (a0o (fun a ha => ihx1 (q2, l3) a _ hm ?_)))))
 exact ⟨_, gj, (g + 1), gk, (xss1 ++ [.int .i64 d1]), U, g5.Yp [1, 2] Y Y, gl, ha.cut (l := [0, 2, 3, 4]) Y⟩
 clear hm
 rcases a0f u with ⟨L, u⟩ | ⟨L, u⟩
 refine a0r 16 Y L (a0y Y (a0a (a0d Y Y Y (c8a Y Y Y (a0b Y Y Y (a0g (a0o (fun a ha => ?_))))))))
 cases u
 exact ⟨Y, ha.cut (l := [0, 2, 3, 4, 5]) Y⟩
 refine a0r 16 Y L (a0q Y (a1c (a0o (fun a ha => ?_))))
 cases u
 exact ⟨Y, ha.cut (l := [0, 2, 3, 4, 5]) Y⟩
 refine a0r 12 Y J (a0q Y (a3p (a0x (a0x (fun a ha => hk1 l1 a _ hm ?_)))))
 exact ⟨_, p, g, t, xss1, U, V.Yp [0, 1] Y Y, Z, ha.cut (l := [2, 3, 4]) Y⟩
 clear hm
 rcases a0f k with ⟨M, k⟩ | ⟨M, k⟩
 refine a0r 10 Y M (a0y Y (a0a (a0b Y Y Y (a0g (a0o (fun a ha => ?_))))))
 cases k
 exact ⟨Y, ha.cut (l := [0, 2, 3]) Y⟩
 refine a0r 10 Y M (a0q Y (a1c (a0o (fun a ha => ?_))))
 cases k
 exact ⟨Y, ha.cut (l := [0, 2, 3]) Y⟩
def a3i (_n : Nat) (l1 : (List Int)) (i1 : Int) : Option Int :=
 bif decide (i1 < (l1.length : Int)) then
  (ix l1 i1).bind fun ex1 =>
  some ex1
 else
  some 0
theorem a5y (n : Nat) (l1 : (List Int)) (i1 : Int) (r : Int) (hm : a3i n l1 i1 = some r) {w : World} {F : Frz} (hs : Sat F w) {k : Option Addr} {l : Nat} {g : Nat} (m : SlR (Rp.int .i64) F k l g l1) :
  Calls Tryz.prog 142 #[.slice k l g, .int .i64 i1] w fun e w' => e = .returned (.int .i64 r) ∧ w' = w := by
 unfold a3i at hm
 have h := HS.init hs
 refine a1a 13 Tryz.func142 Y Y Y (a0h (a0a (a0b Y Y Y (a0g (a0c (a0h (a0h (a0a (a0d Y Y Y (a0d Y Y Y (a1x m.len u28 Y Y Y (a0u Y Y Y Y Y (a0g (a0c ?_))))))))))))))
 rcases a0f hm with ⟨i, hm⟩ | ⟨i, hm⟩
 refine a0r 8 Y i (a0y Y (a0h (a0a (a0d Y Y Y (a0d Y Y Y ?_)))))
 obtain ⟨ex1, o, hm⟩ := Yb hm
 refine a2e (r := (Rp.int .i64)) u28 sz3 Y Y Y Y m o ?_
 intro b1 o1 g p q
 have s : g = [.int .i64 ex1] := q
 subst s
 refine a1s (j := 0) ag3 Y Y h p Y Y (a0b Y Y Y (a0g (a0c (a1d (a0j (a1j Y Y ?_))))))
 obtain rfl := Yo hm
 exact ⟨Y, Y⟩
 refine a0r 8 Y i (a0q Y (a1c (a0c (a0h (a0a (a0b Y Y Y (a0g (a0c (a1d (a1j Y Y ?_))))))))))
 obtain rfl := Yo hm
 exact ⟨Y, Y⟩
theorem ent142 : Ent Tryz.prog 142 := fun _ _ => by kernel_rfl
def a5s (n : Nat) (ax1 : (List Int)) (b1 : (List Int)) (kont1 : Option Bool) : Nat → Int → Option Bool
 | 0, _ => none
 | mx1 + 1, i1 =>
  bif decide (0 ≤ i1) then
   (a3i n ax1 i1).bind fun v1 =>
   (a3i n b1 i1).bind fun v2 =>
   bif v1 != v2 then
    (a3i n ax1 i1).bind fun v3 =>
    (a3i n b1 i1).bind fun v4 =>
    some (decide (v3 < v4))
   else
    a5s n ax1 b1 kont1 mx1 (isub .i64 i1 1)
  else
   kont1
theorem c1k (n : Nat) (ax1 : (List Int)) (b1 : (List Int)) (kont1 : Option Bool) (mx1 : Nat) (i1 : Int) : a5s n ax1 b1 kont1 (mx1 + 1) i1 =
  bif decide (0 ≤ i1) then
   (a3i n ax1 i1).bind fun v1 =>
   (a3i n b1 i1).bind fun v2 =>
   bif v1 != v2 then
    (a3i n ax1 i1).bind fun v3 =>
    (a3i n b1 i1).bind fun v4 =>
    some (decide (v3 < v4))
   else
    a5s n ax1 b1 kont1 mx1 (isub .i64 i1 1)
  else
   kont1 := rfl
def a6g (n : Nat) (ax1 : (List Int)) (b1 : (List Int)) : Option Bool :=
 a5s n ax1 b1 (
  some false) n (isub .i64 (imax (ax1.length : Int) (b1.length : Int)) 1)
theorem b4b (n : Nat) (ax1 : (List Int)) (b1 : (List Int)) (r : Bool) (hm : a6g n ax1 b1 = some r) {w : World} {F : Frz} (hs : Sat F w) {g i : Option Addr} {j k o p : Nat} (q : SlR (Rp.int .i64) F g j k ax1) (t : SlR (Rp.int .i64) F i o p b1) :
  Calls Tryz.prog 119 #[.slice g j k, .slice i o p] w fun e w' => e = .returned (.bool r) ∧ w' = w := by
 unfold a6g at hm
 have h := HS.init hs
 refine a1a 30 Tryz.func119 Y Y Y (a0h (a0a (a0b Y Y Y (a0g (a0c (a0h (a0h (a0a (a0d Y Y Y (a1x q.len u28 Y Y Y (a0d Y Y Y (a1x t.len u28 Y Y Y (d7c Y Y Y Y (a0u Y Y Y Y Y ?_))))))))))))))
 refine a0b Y Y Y (a0g (a0c (a1i ?_)))
 intro a x
 obtain ⟨kont1, hkont1⟩ : ∃ kont1 : Option Bool, kont1 = ( some false) := ⟨_, Y⟩
 replace hm : (fun m (s : Int) => a5s n ax1 b1 kont1 m s) n (isub .i64 (imax (ax1.length : Int) (b1.length : Int)) 1) = some r := by rw [hkont1]; exact hm
 refine a5p (id := 0) (fun m (s : Int) => a5s n ax1 b1 kont1 m s) (fun (y : Unit) => kont1) r (fun (s : Int) a w' => w = w' ∧ Has 30 a [(0, .slice g j k), (1, .slice i o p), (5, .int .i64 s)]) (fun (y : Unit) a w' => w = w' ∧ Has 30 a []) (fun _ => Y) ?_ ?_ hm ⟨Y, x.cut (l := [0, 1, 5]) Y⟩
 clear hm; rintro _u a M hm ⟨rfl, z⟩
 rw [hkont1] at hm
 refine a2g (e := .exit 0) z (a1k (a0c (a0h (a0a (a0b Y Y Y (a0g (a0c (a1d (a1j Y Y ?_)))))))))
 obtain rfl := Yo hm
 exact ⟨Y, Y⟩
 clear hm hkont1; intro hk1 mx1 K ihx1
 rintro i1 a N hm ⟨rfl, G⟩
 simp only [c1k] at hm
 refine a1n G (a0h (a0h (a0a (a0d Y Y Y (a0u Y Y Y Y Y (a0g (a0c ?_)))))))
 rcases a0f hm with ⟨u, hm⟩ | ⟨u, hm⟩
 refine a0r 13 Y u (a0y Y (a1c (a0c (a0h (a1i (a0h (a0a (a0d Y Y Y (a0d Y Y Y ?_)))))))))
 obtain ⟨v1, H, hm⟩ := Yb hm
 refine a3c ent142 Y Y Y Y (a5y _ _ _ _ H h.sat q) (a0d Y Y Y (a0d Y Y Y ?_))
 obtain ⟨v2, I, hm⟩ := Yb hm
 refine a3c ent142 Y Y Y Y (a5y _ _ _ _ I h.sat t) (a0u Y Y Y Y Y (a0g (a0c ?_)))
 rcases a0f hm with ⟨v, hm⟩ | ⟨v, hm⟩
 refine a0r 22 Y v (a0y Y (a0h (a0a (a0d Y Y Y (a0d Y Y Y ?_)))))
 obtain ⟨v3, J, hm⟩ := Yb hm
 refine a3c ent142 Y Y Y Y (a5y _ _ _ _ J h.sat q) (a0d Y Y Y (a0d Y Y Y ?_))
 obtain ⟨v4, L, hm⟩ := Yb hm
 refine a3c ent142 Y Y Y Y (a5y _ _ _ _ L h.sat t) (a0u Y Y Y Y Y (a0b Y Y Y (a0g (a0c (a1d (a0v (a0j (a0j (a0v (a0j (a1j Y Y ?_)))))))))))
 obtain rfl := Yo hm
 exact ⟨Y, Y⟩
 refine a0r 22 Y v (a0q Y (a1c (a1q (a0c (a0a (a0d Y Y Y (a0u Y Y Y Y Y (a0b Y Y Y (a0g (a0o (fun a ha => ihx1 (isub .i64 i1 1) a _ hm ?_)))))))))))
 exact ⟨Y, ha.cut (l := [0, 1, 5]) Y⟩
 refine a0r 13 Y u (a0q Y (a3p (a0x (a0x (fun a ha => hk1 () a _ hm ?_)))))
 exact ⟨Y, ha.cut (l := []) Y⟩
def a6o (n : Nat) (ax1 : (List Int)) (b1 : (List Int)) (kont1 : (List Int) → Option (List Int)) : Nat → Int → Int → (List Int) → Option (List Int)
 | 0, _, _, _ => none
 | mx1 + 1, carry1, i1, l1 =>
  (bif decide (i1 < (ax1.length : Int)) then
   some true
  else
   some (decide (i1 < (b1.length : Int)))).bind fun v2 =>
  (bif v2 then
   some true
  else
   some (decide (0 < carry1))).bind fun v3 =>
  bif v3 then
   (a3i n ax1 i1).bind fun v4 =>
   (a3i n b1 i1).bind fun v5 =>
   (rem (iadd .i64 (iadd .i64 v4 v5) carry1) 1048576).bind fun q1 =>
   (app 8 l1 [q1]).bind fun l3 =>
   (quo .i64 (iadd .i64 (iadd .i64 v4 v5) carry1) 1048576).bind fun q2 =>
   a6o n ax1 b1 kont1 mx1 q2 (iadd .i64 i1 1) l3
  else
   kont1 l1
theorem c0r (n : Nat) (ax1 : (List Int)) (b1 : (List Int)) (kont1 : (List Int) → Option (List Int)) (mx1 : Nat) (carry1 : Int) (i1 : Int) (l1 : List Int) : a6o n ax1 b1 kont1 (mx1 + 1) carry1 i1 l1 =
  (bif decide (i1 < (ax1.length : Int)) then
   some true
  else
   some (decide (i1 < (b1.length : Int)))).bind fun v2 =>
  (bif v2 then
   some true
  else
   some (decide (0 < carry1))).bind fun v3 =>
  bif v3 then
   (a3i n ax1 i1).bind fun v4 =>
   (a3i n b1 i1).bind fun v5 =>
   (rem (iadd .i64 (iadd .i64 v4 v5) carry1) 1048576).bind fun q1 =>
   (app 8 l1 [q1]).bind fun l3 =>
   (quo .i64 (iadd .i64 (iadd .i64 v4 v5) carry1) 1048576).bind fun q2 =>
   a6o n ax1 b1 kont1 mx1 q2 (iadd .i64 i1 1) l3
  else
   kont1 l1 := rfl
def a8k (n : Nat) (ax1 : (List Int)) (b1 : (List Int)) : Option (List Int) :=
 a6o n ax1 b1 (fun (l2 : List Int) =>
  (a2p n l2).bind fun v1 =>
  some v1) n 0 0 ([] : List Int)
theorem b7c (n : Nat) (ax1 : (List Int)) (b1 : (List Int)) (r : (List Int)) (hm : a8k n ax1 b1 = some r) {w : World} {F : Frz} (hs : Sat F w) {p t : Option Addr} {u x z G : Nat} (g0 : SlR (Rp.int .i64) F p u x ax1) (g1 : SlR (Rp.int .i64) F t z G b1) :
  Calls Tryz.prog 133 #[.slice p u x, .slice t z G] w fun e w' => ∃ v F' O', e = .returned v ∧ HS F w [] F' O' w' ∧ (∃ (a0_0 : Option Addr) (n0_0 : Nat) (c0_0 : Nat) (xs0_0 : List Value), v = .slice a0_0 n0_0 c0_0 ∧ O' = [.row 3 1 a0_0 n0_0 c0_0 xs0_0] ∧ RowN (Rp.int .i64) F' n0_0 xs0_0 r) := by
 unfold a8k at hm
 have h := HS.init hs
 refine a1a 43 Tryz.func133 Y Y Y (a0h (a0a (a0b Y Y Y (a0g (a0c (a0h (a0a (a0b Y Y Y (a0g (a0c (a0h (a0a (a0b Y Y Y (a0g (a0c (a0h (a0h (a0a (a0b Y Y Y (a0g (a0c (a1i ?_))))))))))))))))))))))
 have ga := h.nilRow 3 1
 intro a g5
 obtain ⟨kont1, hkont1⟩ : ∃ kont1 : (List Int) → Option (List Int), kont1 = (fun (l2 : List Int) => (a2p n l2).bind fun v1 => some v1) := ⟨_, Y⟩
 replace hm : (fun m (s : Int × Int × List Int) => a6o n ax1 b1 kont1 m s.1 s.2.1 s.2.2) n (0, 0, ([] : List Int)) = some r := by rw [hkont1]; exact hm
 refine a5p (id := 0) (fun m (s : Int × Int × List Int) => a6o n ax1 b1 kont1 m s.1 s.2.1 s.2.2) (fun (y : List Int) => kont1 y) r (fun (s : Int × Int × List Int) a w' => ∃ (H : Frz) (k : Option Addr) (g : Nat) (o : Nat) (xss3 : List Value), Frz.le F H ∧ HS F w [] H [.row 3 1 k g o xss3] w' ∧ (RowN (Rp.int .i64) H g xss3 s.2.2) ∧ Has 43 a [(0, .slice p u x), (1, .slice t z G), (5, .slice k g o), (6, .int .i64 s.1), (7, .int .i64 s.2.1)]) (fun (y : List Int) a w' => ∃ (L : Frz) (R : Option Addr) (M : Nat) (T : Nat) (xss4 : List Value), Frz.le F L ∧ HS F w [] L [.row 3 1 R M T xss4] w' ∧ (RowN (Rp.int .i64) L M xss4 y) ∧ Has 43 a [(5, .slice R M T)]) (fun _ => Y) ?_ ?_ hm ⟨_, none, 0, 0, [], Yf, ga.Yp [0] Y Y, ((show RowN (Rp.int .i64) _ 0 [] [] from ⟨Y, Y⟩)), g5.cut (l := [0, 1, 5, 6, 7]) Y⟩
 clear hm; rintro l2 a gr hm ⟨L, R, M, T, xss4, gs, gb, gc, g6⟩
 rw [hkont1] at hm
 replace hm := hm
 refine a2g (e := .exit 0) g6 (a1k (a0c (a0h (a0a (a0d Y Y Y ?_)))))
 obtain ⟨gt, gu, g2, hsx1⟩ := a1h gb (i := 0) Y gc
 obtain ⟨v1, gd, hm⟩ := Yb hm
 refine a0i ent135 Y Y Y Y g2 (a7e _ _ _ gd g2.sat hsx1) ?_
 rintro _ gv _ gw gx ge ⟨gf, gg, gh, xss5, rfl, rfl, gi⟩
 refine a0b Y Y Y (a0g (a0c (a1d (a1j Y Y ?_))))
 obtain rfl := Yo hm
 exact ⟨_, _, _, Y, ge.Yp [0] Y Y, gf, gg, gh, xss5, Y, Y, gi⟩
 clear hm hkont1; intro hk1 mx1 K ihx1
 rintro ⟨carry1, i1, l1⟩ a g3 hm ⟨H, k, g, o, xss3, N, Q, g4, g7⟩
 simp only [c0r] at hm
 refine a1n g7 (a0h (a0h (a0a (a0d Y Y Y (a0d Y Y Y (a1x g0.len u28 Y Y Y (a0u Y Y Y Y Y (a0d Y Y Y ?_))))))))
 obtain ⟨v2, I, hm⟩ := Yb hm
 refine a1z 5 (fun a w' => g3 = w' ∧ Has 43 a [(0, .slice p u x), (1, .slice t z G), (5, .slice k g o), (6, .int .i64 carry1), (7, .int .i64 i1), (18, .bool v2)]) ?_ ?_
 rintro a gy ⟨rfl, g8⟩
 refine a0z g8 (a0d Y Y Y ?_)
 obtain ⟨v3, J, hm⟩ := Yb hm
 refine a1z 3 (fun a w' => g3 = w' ∧ Has 43 a [(0, .slice p u x), (1, .slice t z G), (5, .slice k g o), (6, .int .i64 carry1), (7, .int .i64 i1), (22, .bool v3)]) ?_ ?_
 rintro a gz ⟨rfl, g9⟩
 refine a0z g9 (a0g (a0c ?_))
 rcases a0f hm with ⟨U, hm⟩ | ⟨U, hm⟩
 refine a0r 22 Y U (a0y Y (a1c (a0c (a0h (a1i (a0h (a0a (a0d Y Y Y (a0d Y Y Y ?_)))))))))
 obtain ⟨v4, gj, hm⟩ := Yb hm
 refine a3c ent142 Y Y Y Y (a5y _ _ _ _ gj Q.sat (g0.mono N)) (a0d Y Y Y (a0d Y Y Y ?_))
 obtain ⟨v5, gk, hm⟩ := Yb hm
 refine a3c ent142 Y Y Y Y (a5y _ _ _ _ gk Q.sat (g1.mono N)) (a0u Y Y Y Y Y (a0d Y Y Y (a0u Y Y Y Y Y (a0b Y Y Y (a0g (a0c (a0h (a0a (a0d Y Y Y (a0d Y Y Y ?_))))))))))
 obtain ⟨q1, hq1, hm⟩ := Yb hm
 refine c9e Y Y Y Y hq1 (a1v (e := 3) (cs := [.int .i64 q1]) (q := 1) Y Y Q Y (fun _ => by kernel_rfl) Y Y ?_)
 intro b2 h0 gl
 obtain ⟨l3, gm, hm⟩ := Yb hm
 refine a9y (r := (Rp.int .i64)) ap28 Y Y gl Y Y (i := 1) (j := 0) Y Y g4 ((show RowN (Rp.int .i64) H 1 [.int .i64 q1] [q1] from ⟨Y, ⟨_, _, Y, Y, (Y : RowR (Rp.int .i64) _ [] [])⟩⟩)) gm ?_
 intro gn go h1 gp gq
 refine a0b Y Y Y (a0g (a0c (a0a (a0d Y Y Y ?_))))
 obtain ⟨q2, hq2, hm⟩ := Yb hm
 refine c8l Y Y Y Y hq2 (a0b Y Y Y (a0g (a1q (a0c (a0a (a0d Y Y Y (a0u Y Y Y Y Y (a0b Y Y Y (a0g (a0o (fun a ha => ihx1 (q2, (iadd .i64 i1 1), l3) a _ hm ?_)))))))))))
 exact ⟨_, gn, (g + 1), go, (xss3 ++ [.int .i64 q1]), N, gp.Yp [1] Y Y, gq, ha.cut (l := [0, 1, 5, 6, 7]) Y⟩
 refine a0r 22 Y U (a0q Y (a3p (a0x (a0x (fun a ha => hk1 l1 a _ hm ?_)))))
 exact ⟨_, k, g, o, xss3, N, Q.Yp [0] Y Y, g4, ha.cut (l := [5]) Y⟩
 clear hm
 rcases a0f J with ⟨V, J⟩ | ⟨V, J⟩
 refine a1g 19 Y V (a0t Y (by decide) Y (a0t Y (by decide) Y (a0n Y Y Y Y (a0g (a0o (fun a ha => ?_))))))
 cases J
 exact ⟨Y, ha.cut (l := [0, 1, 5, 6, 7, 22]) Y⟩
 refine a1g 19 Y V (a0d Y Y Y (a0u Y Y Y Y Y (a0k Y Y Y Y (a0g (a0o (fun a ha => ?_))))))
 cases J
 exact ⟨Y, ha.cut (l := [0, 1, 5, 6, 7, 22]) Y⟩
 clear hm
 rcases a0f I with ⟨Z, I⟩ | ⟨Z, I⟩
 refine a1g 13 Y Z (a0t Y (by decide) Y (a0t Y (by decide) Y (a0t Y (by decide) Y (a0t Y (by decide) Y (a0n Y Y Y Y (a0g (a0o (fun a ha => ?_))))))))
 cases I
 exact ⟨Y, ha.cut (l := [0, 1, 5, 6, 7, 18]) Y⟩
 refine a1g 13 Y Z (a0d Y Y Y (a0d Y Y Y (a1x g1.len u28 Y Y Y (a0u Y Y Y Y Y (a0k Y Y Y Y (a0g (a0o (fun a ha => ?_))))))))
 cases I
 exact ⟨Y, ha.cut (l := [0, 1, 5, 6, 7, 18]) Y⟩
def a4n (n : Nat) (ax1 : (List Int)) (b1 : (List Int)) (kont1 : (List Int) → Option (List Int)) : Nat → Int → Int → (List Int) → Option (List Int)
 | 0, _, _, _ => none
 | mx1 + 1, borrow1, i1, l1 =>
  bif decide (i1 < (ax1.length : Int)) then
   (ix ax1 i1).bind fun ex1 =>
   (a3i n b1 i1).bind fun v2 =>
   (bif decide ((isub .i64 (isub .i64 ex1 v2) borrow1) < 0) then
    some (1, iadd .i64 (isub .i64 (isub .i64 ex1 v2) borrow1) 1048576)
   else
    some (0, isub .i64 (isub .i64 ex1 v2) borrow1)).bind fun (borrow2, nx1) =>
   (app 8 l1 [nx1]).bind fun l3 =>
   a4n n ax1 b1 kont1 mx1 borrow2 (iadd .i64 i1 1) l3
  else
   kont1 l1
theorem b8y (n : Nat) (ax1 : (List Int)) (b1 : (List Int)) (kont1 : (List Int) → Option (List Int)) (mx1 : Nat) (borrow1 : Int) (i1 : Int) (l1 : List Int) : a4n n ax1 b1 kont1 (mx1 + 1) borrow1 i1 l1 =
  bif decide (i1 < (ax1.length : Int)) then
   (ix ax1 i1).bind fun ex1 =>
   (a3i n b1 i1).bind fun v2 =>
   (bif decide ((isub .i64 (isub .i64 ex1 v2) borrow1) < 0) then
    some (1, iadd .i64 (isub .i64 (isub .i64 ex1 v2) borrow1) 1048576)
   else
    some (0, isub .i64 (isub .i64 ex1 v2) borrow1)).bind fun (borrow2, nx1) =>
   (app 8 l1 [nx1]).bind fun l3 =>
   a4n n ax1 b1 kont1 mx1 borrow2 (iadd .i64 i1 1) l3
  else
   kont1 l1 := rfl
def a3q (n : Nat) (ax1 : (List Int)) (b1 : (List Int)) : Option (List Int) :=
 a4n n ax1 b1 (fun (l2 : List Int) =>
  (a2p n l2).bind fun v1 =>
  some v1) n 0 0 ([] : List Int)
theorem b1c (n : Nat) (ax1 : (List Int)) (b1 : (List Int)) (r : (List Int)) (hm : a3q n ax1 b1 = some r) {w : World} {F : Frz} (hs : Sat F w) {u x : Option Addr} {z k G H : Nat} (V : SlR (Rp.int .i64) F u z k ax1) (g7 : SlR (Rp.int .i64) F x G H b1) :
  Calls Tryz.prog 134 #[.slice u z k, .slice x G H] w fun e w' => ∃ v F' O', e = .returned v ∧ HS F w [] F' O' w' ∧ (∃ (a0_0 : Option Addr) (n0_0 : Nat) (c0_0 : Nat) (xs0_0 : List Value), v = .slice a0_0 n0_0 c0_0 ∧ O' = [.row 3 1 a0_0 n0_0 c0_0 xs0_0] ∧ RowN (Rp.int .i64) F' n0_0 xs0_0 r) := by
 unfold a3q at hm
 have h := HS.init hs
 refine a1a 35 Tryz.func134 Y Y Y (a0h (a0a (a0b Y Y Y (a0g (a0c (a0h (a0a (a0b Y Y Y (a0g (a0c (a0h (a0a (a0b Y Y Y (a0g (a0c (a0h (a0h (a0a (a0b Y Y Y (a0g (a0c (a1i ?_))))))))))))))))))))))
 have g8 := h.nilRow 3 1
 intro a g3
 obtain ⟨kont1, hkont1⟩ : ∃ kont1 : (List Int) → Option (List Int), kont1 = (fun (l2 : List Int) => (a2p n l2).bind fun v1 => some v1) := ⟨_, Y⟩
 replace hm : (fun m (s : Int × Int × List Int) => a4n n ax1 b1 kont1 m s.1 s.2.1 s.2.2) n (0, 0, ([] : List Int)) = some r := by rw [hkont1]; exact hm
 refine a5p (id := 0) (fun m (s : Int × Int × List Int) => a4n n ax1 b1 kont1 m s.1 s.2.1 s.2.2) (fun (y : List Int) => kont1 y) r (fun (s : Int × Int × List Int) a w' => ∃ (I : Frz) (o : Option Addr) (g : Nat) (p : Nat) (xss3 : List Value), Frz.le F I ∧ HS F w [] I [.row 3 1 o g p xss3] w' ∧ (RowN (Rp.int .i64) I g xss3 s.2.2) ∧ Has 35 a [(0, .slice u z k), (1, .slice x G H), (5, .slice o g p), (6, .int .i64 s.1), (7, .int .i64 s.2.1)]) (fun (y : List Int) a w' => ∃ (J : Frz) (N : Option Addr) (L : Nat) (Q : Nat) (xss4 : List Value), Frz.le F J ∧ HS F w [] J [.row 3 1 N L Q xss4] w' ∧ (RowN (Rp.int .i64) J L xss4 y) ∧ Has 35 a [(5, .slice N L Q)]) (fun _ => Y) ?_ ?_ hm ⟨_, none, 0, 0, [], Yf, g8.Yp [0] Y Y, ((show RowN (Rp.int .i64) _ 0 [] [] from ⟨Y, Y⟩)), g3.cut (l := [0, 1, 5, 6, 7]) Y⟩
 clear hm; rintro l2 a gv hm ⟨J, N, L, Q, xss4, gw, g9, ga, g4⟩
 rw [hkont1] at hm
 replace hm := hm
 refine a2g (e := .exit 0) g4 (a1k (a0c (a0h (a0a (a0d Y Y Y ?_)))))
 obtain ⟨gx, gy, Z, hsx1⟩ := a1h g9 (i := 0) Y ga
 obtain ⟨v1, gb, hm⟩ := Yb hm
 refine a0i ent135 Y Y Y Y Z (a7e _ _ _ gb Z.sat hsx1) ?_
 rintro _ gz _ h0 h1 gc ⟨gd, ge, gf, xss5, rfl, rfl, gg⟩
 refine a0b Y Y Y (a0g (a0c (a1d (a1j Y Y ?_))))
 obtain rfl := Yo hm
 exact ⟨_, _, _, Y, gc.Yp [0] Y Y, gd, ge, gf, xss5, Y, Y, gg⟩
 clear hm hkont1; intro hk1 mx1 K ihx1
 rintro ⟨borrow1, i1, l1⟩ a h2 hm ⟨I, o, g, p, xss3, M, g0, g1, g5⟩
 simp only [b8y] at hm
 refine a1n g5 (a0h (a0h (a0a (a0d Y Y Y (a0d Y Y Y (a1x V.len u28 Y Y Y (a0u Y Y Y Y Y (a0g (a0c ?_)))))))))
 rcases a0f hm with ⟨R, hm⟩ | ⟨R, hm⟩
 refine a0r 12 Y R (a0y Y (a1c (a0c (a0h (a1i (a0h (a3j (by kernel_rfl) (by kernel_rfl) g0 (a1e Y Y Y Y (fun _ _ _ _ => a0d Y Y Y Yn) (a1e Y Y Y Y (fun _ _ _ _ => a0d Y Y Y Yn) ?_)))))))))
 obtain ⟨ex1, gh, hm⟩ := Yb hm
 obtain ⟨b2, o1, k, gi, gj, U⟩ := a2j (P := Tryz.prog) (r := (Rp.int .i64)) u28 sz3 (V.mono M) gh
 have gk : k = [.int .i64 ex1] := gj
 subst gk
 refine a2o Y Y Y Y U (a1e Y Y Y Y (fun _ _ hleq hq => a1s (j := 0) ag3 Y Y hq (gi.mono hleq) Y Y Yn) (a1e Y Y Y Y (fun _ _ _ _ => a0d Y Y Y Yn) (a1e Y Y Y Y (fun _ _ _ _ => a0d Y Y Y Yn) ?_)))
 obtain ⟨v2, gl, hm⟩ := Yb hm
 refine a9c ent142 Y Y Y Y (fun _ _ hleq hq => a5y _ _ _ _ gl hq.sat ((g7.mono M).mono hleq)) (a1e Y Y Y Y (fun _ _ _ _ => a0u Y Y Y Y Y Yn) (a1e Y Y Y Y (fun _ _ _ _ => a0d Y Y Y Yn) (a1e Y Y Y Y (fun _ _ _ _ => a0u Y Y Y Y Y Yn) (a1e Y Y Y Y (fun _ _ _ _ => a0b Y Y Y Yn) (b0t ?_)))))
 rintro gm ⟨gn, g2, go⟩
 refine a0c (a0h (a0a (a0b Y Y Y (a0g (a0c (a0h (a0h (a0a (a0d Y Y Y (a0u Y Y Y Y Y (a0g (a0c ?_))))))))))))
 obtain ⟨⟨borrow2, nx1⟩, t, hm⟩ := Yb hm
 refine a9a (fun a w' => gm = w' ∧ Has 35 a [(0, .slice u z k), (1, .slice x G H), (5, .slice o g p), (6, .int .i64 borrow2), (7, .int .i64 i1), (8, .int .i64 nx1)]) ?_ ?_
 rintro a h3 ⟨rfl, g6⟩
 refine a1n g6 (a0a (a0d Y Y Y (a0d Y Y Y (a1v (e := 3) (cs := [.int .i64 nx1]) (q := 1) Y Y go Y (fun _ => by kernel_rfl) Y Y ?_))))
 intro b3 h4 gp
 obtain ⟨l3, gq, hm⟩ := Yb hm
 refine a9y (r := (Rp.int .i64)) ap28 Y Y gp Y Y (i := 1) (j := 0) Y Y (g1.mono g2) ((show RowN (Rp.int .i64) gn 1 [.int .i64 nx1] [nx1] from ⟨Y, ⟨_, _, Y, Y, (Y : RowR (Rp.int .i64) _ [] [])⟩⟩)) gq ?_
 intro gr gs h5 gt gu
 refine a0b Y Y Y (a0g (a1q (a0c (a0a (a0d Y Y Y (a0u Y Y Y Y Y (a0b Y Y Y (a0g (a0o (fun a ha => ihx1 (borrow2, (iadd .i64 i1 1), l3) a _ hm ?_))))))))))
 exact ⟨_, gr, (g + 1), gs, (xss3 ++ [.int .i64 nx1]), (M.trans g2), gt.Yp [1] Y Y, gu, ha.cut (l := [0, 1, 5, 6, 7]) Y⟩
 clear hm
 rcases a0f t with ⟨T, t⟩ | ⟨T, t⟩
 refine a0r 26 Y T (a0y Y (a0h (a0a (a0d Y Y Y (a0u Y Y Y Y Y (a0b Y Y Y (a0g (a0c (a0a (a0b Y Y Y (a0g (a0o (fun a ha => ?_)))))))))))))
 cases t
 exact ⟨Y, ha.cut (l := [0, 1, 5, 6, 7, 8]) Y⟩
 refine a0r 26 Y T (a0q Y (a1c (a0o (fun a ha => ?_))))
 cases t
 exact ⟨Y, ha.cut (l := [0, 1, 5, 6, 7, 8]) Y⟩
 refine a0r 12 Y R (a0q Y (a3p (a0x (a0x (fun a ha => hk1 l1 a _ hm ?_)))))
 exact ⟨_, o, g, p, xss3, M, g0.Yp [0] Y Y, g1, ha.cut (l := [5]) Y⟩
def a5f (n : Nat) (ax1 : (List Int)) (b1 : (List Int)) (i1 : Int) (kont2 : (List Int) → Option (List Int)) : Nat → Int → Int → (List Int) → Option (List Int)
 | 0, _, _, _ => none
 | mx2 + 1, carry1, k1, l4 =>
  (bif decide (k1 < (b1.length : Int)) then
   some true
  else
   some (decide (0 < carry1))).bind fun v2 =>
  bif v2 then
   (ix l4 (iadd .i64 i1 k1)).bind fun ex1 =>
   (ix ax1 i1).bind fun ex2 =>
   (a3i n b1 k1).bind fun v3 =>
   (rem (iadd .i64 (iadd .i64 ex1 (imul .i64 ex2 v3)) carry1) 1048576).bind fun q1 =>
   (ix l4 (iadd .i64 i1 k1)).bind fun _ =>
   (lset l4 (iadd .i64 i1 k1) q1).bind fun l6 =>
   (quo .i64 (iadd .i64 (iadd .i64 ex1 (imul .i64 ex2 v3)) carry1) 1048576).bind fun q2 =>
   a5f n ax1 b1 i1 kont2 mx2 q2 (iadd .i64 k1 1) l6
  else
   kont2 l4
theorem b8u (n : Nat) (ax1 : (List Int)) (b1 : (List Int)) (i1 : Int) (kont2 : (List Int) → Option (List Int)) (mx2 : Nat) (carry1 : Int) (k1 : Int) (l4 : List Int) : a5f n ax1 b1 i1 kont2 (mx2 + 1) carry1 k1 l4 =
  (bif decide (k1 < (b1.length : Int)) then
   some true
  else
   some (decide (0 < carry1))).bind fun v2 =>
  bif v2 then
   (ix l4 (iadd .i64 i1 k1)).bind fun ex1 =>
   (ix ax1 i1).bind fun ex2 =>
   (a3i n b1 k1).bind fun v3 =>
   (rem (iadd .i64 (iadd .i64 ex1 (imul .i64 ex2 v3)) carry1) 1048576).bind fun q1 =>
   (ix l4 (iadd .i64 i1 k1)).bind fun _ =>
   (lset l4 (iadd .i64 i1 k1) q1).bind fun l6 =>
   (quo .i64 (iadd .i64 (iadd .i64 ex1 (imul .i64 ex2 v3)) carry1) 1048576).bind fun q2 =>
   a5f n ax1 b1 i1 kont2 mx2 q2 (iadd .i64 k1 1) l6
  else
   kont2 l4 := rfl
def a4a (n : Nat) (ax1 : (List Int)) (b1 : (List Int)) (kont1 : (List Int) → Option (List Int)) : Nat → Int → (List Int) → Option (List Int)
 | 0, _, _ => none
 | mx1 + 1, i1, l2 =>
  bif decide (i1 < (ax1.length : Int)) then
   a5f n ax1 b1 i1 (fun (l5 : List Int) =>
    a4a n ax1 b1 kont1 mx1 (iadd .i64 i1 1) l5) n 0 0 l2
  else
   kont1 l2
theorem b9h (n : Nat) (ax1 : (List Int)) (b1 : (List Int)) (kont1 : (List Int) → Option (List Int)) (mx1 : Nat) (i1 : Int) (l2 : List Int) : a4a n ax1 b1 kont1 (mx1 + 1) i1 l2 =
  bif decide (i1 < (ax1.length : Int)) then
   a5f n ax1 b1 i1 (fun (l5 : List Int) =>
    a4a n ax1 b1 kont1 mx1 (iadd .i64 i1 1) l5) n 0 0 l2
  else
   kont1 l2 := rfl
def a4k (n : Nat) (ax1 : (List Int)) (b1 : (List Int)) : Option (List Int) :=
 (mks 8 0 (iadd .i64 (ax1.length : Int) (b1.length : Int))).bind fun l1 =>
 a4a n ax1 b1 (fun (l3 : List Int) =>
  (a2p n l3).bind fun v1 =>
  some v1) n 0 l1
theorem b3a (n : Nat) (ax1 : (List Int)) (b1 : (List Int)) (r : (List Int)) (hm : a4k n ax1 b1 = some r) {w : World} {F : Frz} (hs : Sat F w) {t u : Option Addr} {x g z k : Nat} (g3 : SlR (Rp.int .i64) F t x g ax1) (g4 : SlR (Rp.int .i64) F u z k b1) :
  Calls Tryz.prog 117 #[.slice t x g, .slice u z k] w fun e w' => ∃ v F' O', e = .returned v ∧ HS F w [] F' O' w' ∧ (∃ (a0_0 : Option Addr) (n0_0 : Nat) (c0_0 : Nat) (xs0_0 : List Value), v = .slice a0_0 n0_0 c0_0 ∧ O' = [.row 3 1 a0_0 n0_0 c0_0 xs0_0] ∧ RowN (Rp.int .i64) F' n0_0 xs0_0 r) := by
 unfold a4k at hm
 have h := HS.init hs
 refine a1a 60 Tryz.func117 Y Y Y (a0h (a0a (a0b Y Y Y (a0g (a0c (a0h (a0a (a0d Y Y Y (a1x g3.len u28 Y Y Y (a0d Y Y Y (a1x g4.len u28 Y Y Y (a0u Y Y Y Y Y ?_))))))))))))
 obtain ⟨l1, gr, hm⟩ := Yb hm
 refine c2r (r := (Rp.int .i64)) ap28 zi3 (fun _ => Y) Y Y Y h Y Y gr ?_
 intro b2 hl xs1 gs gt
 refine a0b Y Y Y (a0g (a0c (a0h (a0h (a0a (a0b Y Y Y (a0g (a0c (a1i ?_)))))))))
 intro a gi
 obtain ⟨kont1, hkont1⟩ : ∃ kont1 : (List Int) → Option (List Int), kont1 = (fun (l3 : List Int) => (a2p n l3).bind fun v1 => some v1) := ⟨_, Y⟩
 replace hm : (fun m (s : Int × List Int) => a4a n ax1 b1 kont1 m s.1 s.2) n (0, l1) = some r := by rw [hkont1]; exact hm
 refine a5p (id := 0) (fun m (s : Int × List Int) => a4a n ax1 b1 kont1 m s.1 s.2) (fun (y : List Int) => kont1 y) r (fun (s : Int × List Int) a w' => ∃ (G : Frz) (L : Option Addr) (H : Nat) (o : Nat) (xss3 : List Value), Frz.le F G ∧ HS F w [] G [.row 3 1 L H o xss3] w' ∧ (RowN (Rp.int .i64) G H xss3 s.2) ∧ Has 60 a [(0, .slice t x g), (1, .slice u z k), (5, .slice L H o), (6, .int .i64 s.1)]) (fun (y : List Int) a w' => ∃ (Q : Frz) (g5 : Option Addr) (R : Nat) (g6 : Nat) (xss4 : List Value), Frz.le F Q ∧ HS F w [] Q [.row 3 1 g5 R g6 xss4] w' ∧ (RowN (Rp.int .i64) Q R xss4 y) ∧ Has 60 a [(5, .slice g5 R g6)]) (fun _ => Y) ?_ ?_ hm ⟨_, (some ⟨b2, 0, none⟩), ((iadd .i64 (ax1.length : Int) (b1.length : Int)).toNat), ((iadd .i64 (ax1.length : Int) (b1.length : Int)).toNat), xs1, Yf, gs.Yp [0] Y Y, gt, gi.cut (l := [0, 1, 5, 6]) Y⟩
 clear hm; rintro l3 a hn hm ⟨Q, g5, R, g6, xss4, ho, gu, gv, gj⟩
 rw [hkont1] at hm
 replace hm := hm
 refine a2g (e := .exit 0) gj (a1k (a0c (a0h (a0a (a0d Y Y Y ?_)))))
 obtain ⟨hp, hr, ge, hsx1⟩ := a1h gu (i := 0) Y gv
 obtain ⟨v1, gw, hm⟩ := Yb hm
 refine a0i ent135 Y Y Y Y ge (a7e _ _ _ gw ge.sat hsx1) ?_
 rintro _ ht _ hu hv gx ⟨gy, gz, h0, xss5, rfl, rfl, h1⟩
 refine a0b Y Y Y (a0g (a0c (a1d (a1j Y Y ?_))))
 obtain rfl := Yo hm
 exact ⟨_, _, _, Y, gx.Yp [0] Y Y, gy, gz, h0, xss5, Y, Y, h1⟩
 clear hm hkont1; intro hk1 mx1 K ihx1
 rintro ⟨i1, l2⟩ a hw hm ⟨G, L, H, o, xss3, T, gf, gg, gk⟩
 simp only [b9h] at hm
 refine a1n gk (a0h (a0h (a0a (a0d Y Y Y (a0d Y Y Y (a1x g3.len u28 Y Y Y (a0u Y Y Y Y Y (a0g (a0c ?_)))))))))
 rcases a0f hm with ⟨g7, hm⟩ | ⟨g7, hm⟩
 refine a0r 19 Y g7 (a0y Y (a1c (a0c (a0h (a1i (a0h (a0a (a0b Y Y Y (a0g (a0c (a0h (a0a (a0b Y Y Y (a0g (a0c (a1i ?_))))))))))))))))
 intro a gl
 obtain ⟨kont2, hkont2⟩ : ∃ kont2 : (List Int) → Option (List Int), kont2 = (fun (l5 : List Int) => a4a n ax1 b1 kont1 mx1 (iadd .i64 i1 1) l5) := ⟨_, Y⟩
 replace hm : (fun m (s : Int × Int × List Int) => a5f n ax1 b1 i1 kont2 m s.1 s.2.1 s.2.2) n (0, 0, l2) = some r := by rw [hkont2]; exact hm
 refine a5p (id := 2) (fun m (s : Int × Int × List Int) => a5f n ax1 b1 i1 kont2 m s.1 s.2.1 s.2.2) (fun (y : List Int) => kont2 y) r (fun (s : Int × Int × List Int) a w' => ∃ (U : Frz) (I : Option Addr) (q : Nat) (J : Nat) (xss6 : List Value), Frz.le G U ∧ HS F w [] U [.row 3 1 I q J xss6] w' ∧ (RowN (Rp.int .i64) U q xss6 s.2.2) ∧ Has 60 a [(0, .slice t x g), (1, .slice u z k), (5, .slice I q J), (6, .int .i64 i1), (7, .int .i64 s.1), (8, .int .i64 s.2.1)]) (fun (y : List Int) a w' => ∃ (V : Frz) (Z : Option Addr) (M : Nat) (g0 : Nat) (xss7 : List Value), Frz.le G V ∧ HS F w [] V [.row 3 1 Z M g0 xss7] w' ∧ (RowN (Rp.int .i64) V M xss7 y) ∧ Has 60 a [(0, .slice t x g), (1, .slice u z k), (5, .slice Z M g0), (6, .int .i64 i1)]) (fun _ => Y) ?_ ?_ hm ⟨_, L, H, o, xss3, Yf, gf.Yp [0] Y Y, gg, gl.cut (l := [0, 1, 5, 6, 7, 8]) Y⟩
 clear hm; rintro l5 a hx hm ⟨V, Z, M, g0, xss7, h2, h3, h4, gm⟩
 rw [hkont2] at hm
 replace hm := hm
 refine a2g (e := .exit 2) gm (a1k (a1q (a0c (a0a (a0d Y Y Y (a0u Y Y Y Y Y (a0b Y Y Y (a0g (a0o (fun a ha => ihx1 ((iadd .i64 i1 1), l5) a _ hm ?_))))))))))
 exact ⟨_, Z, M, g0, xss7, (T.trans h2), h3.Yp [0] Y Y, h4, ha.cut (l := [0, 1, 5, 6]) Y⟩
 clear hm hkont2; intro hk2 mx2 K ihx2
 rintro ⟨carry1, k1, l4⟩ a h5 hm ⟨U, I, q, J, xss6, g1, g8, g2, gn⟩
 simp only [b8u] at hm
 refine a1n gn (a0h (a0h (a0a (a0d Y Y Y (a0d Y Y Y (a1x g4.len u28 Y Y Y (a0u Y Y Y Y Y (a0d Y Y Y ?_))))))))
 obtain ⟨v2, N, hm⟩ := Yb hm
 refine a1z 3 (fun a w' => h5 = w' ∧ Has 60 a [(0, .slice t x g), (1, .slice u z k), (5, .slice I q J), (6, .int .i64 i1), (7, .int .i64 carry1), (8, .int .i64 k1), (29, .bool v2)]) ?_ ?_
 rintro a hy ⟨rfl, go⟩
 refine a0z go (a0g (a0c ?_))
 rcases a0f hm with ⟨g9, hm⟩ | ⟨g9, hm⟩
 refine a0r 29 Y g9 (a0y Y (a1c (a0c (a0h (a1i (a0h (a3j (by kernel_rfl) (by kernel_rfl) g8 (a1e Y Y Y Y (fun _ _ _ _ => a0d Y Y Y Yn) (a1e Y Y Y Y (fun _ _ _ _ => a0d Y Y Y Yn) (a1e Y Y Y Y (fun _ _ _ _ => a0d Y Y Y Yn) (a1e Y Y Y Y (fun _ _ _ _ => a0u Y Y Y Y Y Yn) ?_)))))))))))
 obtain ⟨ex1, h6, hm⟩ := Yb hm
 obtain ⟨b3, o1, g, gp, ho1, h7, hp1, gc⟩ := a6p (P := Tryz.prog) (r := (Rp.int .i64)) u28 sz3 g8 (p := 0) Y Y g2 h6
 have h8 : g = [.int .i64 ex1] := h7
 subst h8
 refine a2o Y Y Y Y gc (a1e Y Y Y Y (fun _ _ _ hq => a4f (j := 0) ag3 Y Y hq Y (p := 0) Y Y gp ho1 hp1 Y Yn) (a1e Y Y Y Y (fun _ _ _ _ => a0d Y Y Y Yn) (a1e Y Y Y Y (fun _ _ _ _ => a0d Y Y Y Yn) ?_)))
 obtain ⟨ex2, h9, hm⟩ := Yb hm
 obtain ⟨b4, o2, k, hb, hc, gd⟩ := a2j (P := Tryz.prog) (r := (Rp.int .i64)) u28 sz3 ((g3.mono T).mono g1) h9
 have hd : k = [.int .i64 ex2] := hc
 subst hd
 refine a2o Y Y Y Y gd (a1e Y Y Y Y (fun _ _ hleq hq => a1s (j := 0) ag3 Y Y hq (hb.mono hleq) Y Y Yn) (a1e Y Y Y Y (fun _ _ _ _ => a0d Y Y Y Yn) (a1e Y Y Y Y (fun _ _ _ _ => a0d Y Y Y Yn) ?_)))
 obtain ⟨v3, he, hm⟩ := Yb hm
 refine a9c ent142 Y Y Y Y (fun _ _ hleq hq => a5y _ _ _ _ he hq.sat (((g4.mono T).mono g1).mono hleq)) (a1e Y Y Y Y (fun _ _ _ _ => a0u Y Y Y Y Y Yn) (a1e Y Y Y Y (fun _ _ _ _ => a0u Y Y Y Y Y Yn) (a1e Y Y Y Y (fun _ _ _ _ => a0d Y Y Y Yn) (a1e Y Y Y Y (fun _ _ _ _ => a0u Y Y Y Y Y Yn) (a1e Y Y Y Y (fun _ _ _ _ => a0b Y Y Y Yn) (b0t ?_))))))
 rintro hz ⟨i0, ga, gh⟩
 refine a0c (a0h (a0a (a0d Y Y Y (a0d Y Y Y (a0d Y Y Y (a0u Y Y Y Y Y (a0d Y Y Y ?_)))))))
 obtain ⟨q1, hq1, hm⟩ := Yb hm
 refine c9e Y Y Y Y hq1 ?_
 obtain ⟨ex3, hf, hm⟩ := Yb hm
 refine a4b (r := (Rp.int .i64)) u28 sz3 Y Y gh Y Y (p := 0) Y Y (g2.mono ga) hf ?_
 intro b5 o3 o gq ho2 hg hp2
 have hh : o = [.int .i64 ex3] := hg
 subst hh
 obtain ⟨l6, hi, hm⟩ := Yb hm
 refine a8b (r := (Rp.int .i64)) sz3 Y gh Y Y Y Y Y (p := 0) Y Y gq ho2 (g2.mono ga) Y Y hi ?_
 intro i2 xs2 hj hk
 refine a0g (a0c (a0a (a0d Y Y Y ?_)))
 obtain ⟨q2, hq2, hm⟩ := Yb hm
 refine c8l Y Y Y Y hq2 (a0b Y Y Y (a0g (a1q (a0c (a0a (a0d Y Y Y (a0u Y Y Y Y Y (a0b Y Y Y (a0g (a0o (fun a ha => ihx2 (q2, (iadd .i64 k1 1), l6) a _ hm ?_)))))))))))
 exact ⟨_, I, q, J, xs2, (g1.trans ga), hj.Yp [0] Y Y, hk, ha.cut (l := [0, 1, 5, 6, 7, 8]) Y⟩
 refine a0r 29 Y g9 (a0q Y (a3p (a0x (a0x (fun a ha => hk2 l4 a _ hm ?_)))))
 exact ⟨_, I, q, J, xss6, g1, g8.Yp [0] Y Y, g2, ha.cut (l := [0, 1, 5, 6]) Y⟩
 clear hm
 rcases a0f N with ⟨gb, N⟩ | ⟨gb, N⟩
 refine a1g 26 Y gb (a0t Y (by decide) Y (a0t Y (by decide) Y (a0n Y Y Y Y (a0g (a0o (fun a ha => ?_))))))
 cases N
 exact ⟨Y, ha.cut (l := [0, 1, 5, 6, 7, 8, 29]) Y⟩
 refine a1g 26 Y gb (a0d Y Y Y (a0u Y Y Y Y Y (a0k Y Y Y Y (a0g (a0o (fun a ha => ?_))))))
 cases N
 exact ⟨Y, ha.cut (l := [0, 1, 5, 6, 7, 8, 29]) Y⟩
 refine a0r 19 Y g7 (a0q Y (a3p (a0x (a0x (fun a ha => hk1 l2 a _ hm ?_)))))
 exact ⟨_, L, H, o, xss3, T, gf.Yp [0] Y Y, gg, ha.cut (l := [5]) Y⟩
theorem ent117 : Ent Tryz.prog 117 := fun _ _ => by kernel_rfl
theorem ent134 : Ent Tryz.prog 134 := fun _ _ => by kernel_rfl
theorem ent119 : Ent Tryz.prog 119 := fun _ _ => by kernel_rfl
def a4s (n : Nat) (b1 : (List Int)) (v2 : (List Int)) (kont2 : Int → Option ((List Int) × (List Int))) : Nat → Int → Int → Option ((List Int) × (List Int))
 | 0, _, _ => none
 | mx2 + 1, lo1, hi1 =>
  bif decide (1 < (isub .i64 hi1 lo1)) then
   (quo .i64 (iadd .i64 lo1 hi1) 2).bind fun q1 =>
   (a4k n b1 [q1]).bind fun v6 =>
   (a6g n v2 v6).bind fun v7 =>
   bif v7 then
    a4s n b1 v2 kont2 mx2 lo1 q1
   else
    a4s n b1 v2 kont2 mx2 q1 hi1
  else
   kont2 lo1
theorem c1g (n : Nat) (b1 : (List Int)) (v2 : (List Int)) (kont2 : Int → Option ((List Int) × (List Int))) (mx2 : Nat) (lo1 : Int) (hi1 : Int) : a4s n b1 v2 kont2 (mx2 + 1) lo1 hi1 =
  bif decide (1 < (isub .i64 hi1 lo1)) then
   (quo .i64 (iadd .i64 lo1 hi1) 2).bind fun q1 =>
   (a4k n b1 [q1]).bind fun v6 =>
   (a6g n v2 v6).bind fun v7 =>
   bif v7 then
    a4s n b1 v2 kont2 mx2 lo1 q1
   else
    a4s n b1 v2 kont2 mx2 q1 hi1
  else
   kont2 lo1 := rfl
def a4u (n : Nat) (ax1 : (List Int)) (b1 : (List Int)) (kont1 : (List Int) → (List Int) → Option ((List Int) × (List Int))) : Nat → (List Int) → Int → (List Int) → Option ((List Int) × (List Int))
 | 0, _, _, _ => none
 | mx1 + 1, rx1, i1, l2 =>
  bif decide (0 ≤ i1) then
   (ix ax1 i1).bind fun ex1 =>
   (app 8 [ex1] rx1).bind fun l4 =>
   (a2p n l4).bind fun v2 =>
   a4s n b1 v2 (fun (lo2 : Int) =>
    (ix l2 i1).bind fun _ =>
    (lset l2 i1 lo2).bind fun l5 =>
    (a2p n [lo2]).bind fun v3 =>
    (a4k n b1 v3).bind fun v4 =>
    (a3q n v2 v4).bind fun v5 =>
    a4u n ax1 b1 kont1 mx1 v5 (isub .i64 i1 1) l5) n 0 1048576
  else
   kont1 rx1 l2
theorem c1b (n : Nat) (ax1 : (List Int)) (b1 : (List Int)) (kont1 : (List Int) → (List Int) → Option ((List Int) × (List Int))) (mx1 : Nat) (rx1 : (List Int)) (i1 : Int) (l2 : List Int) : a4u n ax1 b1 kont1 (mx1 + 1) rx1 i1 l2 =
  bif decide (0 ≤ i1) then
   (ix ax1 i1).bind fun ex1 =>
   (app 8 [ex1] rx1).bind fun l4 =>
   (a2p n l4).bind fun v2 =>
   a4s n b1 v2 (fun (lo2 : Int) =>
    (ix l2 i1).bind fun _ =>
    (lset l2 i1 lo2).bind fun l5 =>
    (a2p n [lo2]).bind fun v3 =>
    (a4k n b1 v3).bind fun v4 =>
    (a3q n v2 v4).bind fun v5 =>
    a4u n ax1 b1 kont1 mx1 v5 (isub .i64 i1 1) l5) n 0 1048576
  else
   kont1 rx1 l2 := rfl
def a8p (n : Nat) (ax1 : (List Int)) (b1 : (List Int)) : Option ((List Int) × (List Int)) :=
 (mks 8 0 (ax1.length : Int)).bind fun l1 =>
 a4u n ax1 b1 (fun (rx2 : (List Int)) (l3 : List Int) =>
  (a2p n l3).bind fun v1 =>
  some (v1, rx2)) n [] (isub .i64 (ax1.length : Int) 1) l1
theorem b7l (n : Nat) (ax1 : (List Int)) (b1 : (List Int)) (r : ((List Int) × (List Int))) (hm : a8p n ax1 b1 = some r) {w : World} {F : Frz} (hs : Sat F w) {J L : Option Addr} {M t N u : Nat} (gh : SlR (Rp.int .i64) F J M t ax1) (gx : SlR (Rp.int .i64) F L N u b1) :
  Calls Tryz.prog 132 #[.slice J M t, .slice L N u] w fun e w' => ∃ v F' O', e = .returned v ∧ HS F w [] F' O' w' ∧ (∃ (a0_0 : Option Addr) (n0_0 : Nat) (c0_0 : Nat) (xs0_0 : List Value) (a1_0 : Option Addr) (n1_0 : Nat) (c1_0 : Nat), v = .tuple #[.slice a0_0 n0_0 c0_0, .slice a1_0 n1_0 c1_0] ∧ O' = [.row 3 1 a0_0 n0_0 c0_0 xs0_0] ∧ RowN (Rp.int .i64) F' n0_0 xs0_0 r.1 ∧ SlR (Rp.int .i64) F' a1_0 n1_0 c1_0 r.2) := by
 unfold a8p at hm
 have h := HS.init hs
 refine a1a 60 Tryz.func132 Y Y Y (a0h (a0a (a0b Y Y Y (a0b Y Y Y (a0g (a0c (a0h (a0a (a0d Y Y Y (a1x gh.len u28 Y Y Y ?_))))))))))
 obtain ⟨l1, hv, hm⟩ := Yb hm
 refine c2r (r := (Rp.int .i64)) ap28 zi3 (fun _ => Y) Y Y Y h Y Y hv ?_
 intro b2 jn xs1 hw hx
 refine a0b Y Y Y (a0g (a0c (a0h (a0a (a0b Y Y Y (a0g (a0c (a0h (a0h (a0a (a0d Y Y Y (a1x gh.len u28 Y Y Y (a0u Y Y Y Y Y (a0b Y Y Y (a0g (a0c (a1i ?_)))))))))))))))))
 intro a h6
 obtain ⟨kont1, hkont1⟩ : ∃ kont1 : (List Int) → (List Int) → Option ((List Int) × (List Int)), kont1 = (fun (rx2 : (List Int)) (l3 : List Int) => (a2p n l3).bind fun v1 => some (v1, rx2)) := ⟨_, Y⟩
 replace hm : (fun m (s : (List Int) × Int × List Int) => a4u n ax1 b1 kont1 m s.1 s.2.1 s.2.2) n ([], (isub .i64 (ax1.length : Int) 1), l1) = some r := by rw [hkont1]; exact hm
 refine a5p (id := 0) (fun m (s : (List Int) × Int × List Int) => a4u n ax1 b1 kont1 m s.1 s.2.1 s.2.2) (fun (y : (List Int) × List Int) => kont1 y.1 y.2) r (fun (s : (List Int) × Int × List Int) a w' => ∃ (x : Frz) (g7 : Option Addr) (g8 : Nat) (g9 : Nat) (k : Option Addr) (g : Nat) (o : Nat) (xss4 : List Value), Frz.le F x ∧ HS F w [] x [.row 3 1 k g o xss4] w' ∧ (SlR (Rp.int .i64) x g7 g8 g9 s.1) ∧ (RowN (Rp.int .i64) x g xss4 s.2.2) ∧ Has 60 a [(0, .slice J M t), (1, .slice L N u), (6, .slice k g o), (7, .slice g7 g8 g9), (8, .int .i64 s.2.1)]) (fun (y : (List Int) × List Int) a w' => ∃ (Q : Frz) (R : Option Addr) (T : Nat) (U : Nat) (gi : Option Addr) (ga : Nat) (gj : Nat) (xss6 : List Value), Frz.le F Q ∧ HS F w [] Q [.row 3 1 gi ga gj xss6] w' ∧ (SlR (Rp.int .i64) Q R T U y.1) ∧ (RowN (Rp.int .i64) Q ga xss6 y.2) ∧ Has 60 a [(6, .slice gi ga gj), (7, .slice R T U)]) (fun _ => Y) ?_ ?_ hm ⟨_, none, 0, 0, (some ⟨b2, 0, none⟩), ((ax1.length : Int).toNat), ((ax1.length : Int).toNat), xs1, Yf, hw.Yp [0] Y Y, SlR.nil _ _, hx, h6.cut (l := [0, 1, 6, 7, 8]) Y⟩
 clear hm; rintro ⟨rx2, l3⟩ a jo hm ⟨Q, R, T, U, gi, ga, gj, xss6, jp, hy, hz, i0, h7⟩
 rw [hkont1] at hm
 replace hm := hm
 refine a2g (e := .exit 0) h7 (a1k (a0c (a0h (a0a (a0d Y Y Y ?_)))))
 obtain ⟨jq, i2, gy, hsx1⟩ := a1h hy (i := 0) Y i0
 obtain ⟨v1, i3, hm⟩ := Yb hm
 refine a0i ent135 Y Y Y Y gy (a7e _ _ _ i3 gy.sat hsx1) ?_
 rintro _ jr _ js i4 i5 ⟨gz, h0, h1, xss7, rfl, rfl, i6⟩
 refine a0d Y Y Y (a0b Y Y Y (a0b Y Y Y (a0g (a0c (a1d (a1o (vl := [.slice gz h0 h1, .slice R T U]) Y ⟨a1r Y, a1r Y, trivial⟩ (by simp) ?_))))))
 obtain rfl := Yo hm
 exact ⟨_, _, _, Y, i5.Yp [0] Y Y, gz, h0, h1, xss7, R, T, U, Y, Y, i6, ((hz.mono i2).mono i4)⟩
 clear hm hkont1; intro hk1 mx1 K ihx1
 rintro ⟨rx1, i1, l2⟩ a jt hm ⟨x, g7, g8, g9, k, g, o, xss4, V, gk, h2, gl, h8⟩
 simp only [c1b] at hm
 refine a1n h8 (a0h (a0h (a0a (a0d Y Y Y (a0u Y Y Y Y Y (a0g (a0c ?_)))))))
 rcases a0f hm with ⟨gm, hm⟩ | ⟨gm, hm⟩
 refine a0r 19 Y gm (a0y Y (a1c (a0c (a0h (a1i (a0h (a0a (a0d Y Y Y (a0d Y Y Y ?_)))))))))
 obtain ⟨ex1, i7, hm⟩ := Yb hm
 refine a2e (r := (Rp.int .i64)) u28 sz3 Y Y Y Y (gh.mono V) i7 ?_
 intro b3 o1 t i8 i9
 have ia : t = [.int .i64 ex1] := i9
 subst ia
 refine a1s (j := 0) ag3 Y Y gk i8 Y Y (a1v (e := 3) (cs := [.int .i64 ex1]) (q := 1) Y Y gk Y (fun _ => by kernel_rfl) Y Y ?_)
 intro b4 ju ib
 refine a0d Y Y Y ?_
 obtain ⟨l4, ic, hm⟩ := Yb hm
 refine b9w (r := (Rp.int .i64)) ap28 Y Y Y ib Y Y (i := 0) Y ((show RowN (Rp.int .i64) x 1 [.int .i64 ex1] [ex1] from ⟨Y, ⟨_, _, Y, Y, (Y : RowR (Rp.int .i64) _ [] [])⟩⟩)) h2 ic ?_
 intro jv jw jx xss8 ie ig
 obtain ⟨jy, Z, h3, hsx2⟩ := a1h ie (i := 0) Y ig
 obtain ⟨v2, ih, hm⟩ := Yb hm
 refine a0i ent135 Y Y Y Y h3 (a7e _ _ _ ih h3.sat hsx2) ?_
 rintro _ h4 _ jz g0 ii ⟨gb, gc, gd, xss9, rfl, rfl, h5⟩
 refine a0b Y Y Y (a0g (a0c (a0h (a0a (a0b Y Y Y (a0g (a0c (a0h (a0a (a0b Y Y Y (a0g (a0c (a0h (a1i ?_))))))))))))))
 intro a h9
 obtain ⟨kont2, hkont2⟩ : ∃ kont2 : Int → Option ((List Int) × (List Int)), kont2 = (fun (lo2 : Int) => (ix l2 i1).bind fun ex2 => (lset l2 i1 lo2).bind fun l5 => (a2p n [lo2]).bind fun v3 => (a4k n b1 v3).bind fun v4 => (a3q n v2 v4).bind fun v5 => a4u n ax1 b1 kont1 mx1 v5 (isub .i64 i1 1) l5) := ⟨_, Y⟩
 replace hm : (fun m (s : Int × Int) => a4s n b1 v2 kont2 m s.1 s.2) n (0, 1048576) = some r := by rw [hkont2]; exact hm
 refine a5p (id := 2) (fun m (s : Int × Int) => a4s n b1 v2 kont2 m s.1 s.2) (fun (y : Int) => kont2 y) r (fun (s : Int × Int) a w' => ∃ (ge : Frz), Frz.le h4 ge ∧ HS F w [] ge [.row 3 1 gb gc gd xss9, .row 3 1 k g o xss4] w' ∧ Has 60 a [(0, .slice J M t), (1, .slice L N u), (6, .slice k g o), (7, .slice gb gc gd), (8, .int .i64 i1), (9, .int .i64 s.1), (10, .int .i64 s.2)]) (fun (y : Int) a w' => ∃ (gf : Frz), Frz.le h4 gf ∧ HS F w [] gf [.row 3 1 gb gc gd xss9, .row 3 1 k g o xss4] w' ∧ Has 60 a [(0, .slice J M t), (1, .slice L N u), (6, .slice k g o), (7, .slice gb gc gd), (8, .int .i64 i1), (9, .int .i64 y)]) (fun _ => Y) ?_ ?_ hm ⟨_, Yf, ii.Yp [0, 1] Y Y, h9.cut (l := [0, 1, 6, 7, 8, 9, 10]) Y⟩
 clear hm; rintro lo2 a k0 hm ⟨gf, g1, gn, hb⟩
 rw [hkont2] at hm
 replace hm := hm
 refine a2g (e := .exit 2) hb (a1k (a0c (a0h (a0a (a0d Y Y Y (a0d Y Y Y (a0d Y Y Y ?_)))))))
 obtain ⟨ex2, ij, hm⟩ := Yb hm
 refine a4b (r := (Rp.int .i64)) u28 sz3 Y Y gn Y Y (p := 1) Y Y (((gl.mono Z).mono g0).mono g1) ij ?_
 intro b5 o2 u hc ho1 ik hp1
 have il : u = [.int .i64 ex2] := ik
 subst il
 obtain ⟨l5, im, hm⟩ := Yb hm
 refine a8b (r := (Rp.int .i64)) sz3 Y gn Y Y Y Y Y (p := 1) Y Y hc ho1 (((gl.mono Z).mono g0).mono g1) Y Y im ?_
 intro k1 xs2 hd io
 refine a0g (a0c (a0a (a0d Y Y Y (a0d Y Y Y (a0d Y Y Y (a1v (e := 3) (cs := [.int .i64 lo2]) (q := 1) Y Y hd Y (fun _ => by kernel_rfl) Y Y ?_))))))
 intro b6 iy he
 obtain ⟨k2, gg, go, hsx3⟩ := a1h he (i := 0) Y ((show RowN (Rp.int .i64) gf 1 [.int .i64 lo2] [lo2] from ⟨Y, ⟨_, _, Y, Y, (Y : RowR (Rp.int .i64) _ [] [])⟩⟩))
 obtain ⟨v3, ip, hm⟩ := Yb hm
 refine a0i ent135 Y Y Y Y go (a7e _ _ _ ip go.sat hsx3) ?_
 rintro _ iz _ j0 z hf ⟨j1, j2, j3, xss10, rfl, rfl, hg⟩
 obtain ⟨j4, G, gp, hsx4⟩ := a1h hf (i := 0) Y hg
 have iq := (((((V.trans Z).trans g0).trans g1).trans gg).trans z).trans G
 obtain ⟨v4, ir, hm⟩ := Yb hm
 refine a0i ent117 Y Y Y Y gp (b3a _ _ _ _ ir gp.sat (gx.mono iq) hsx4) ?_
 rintro _ j5 _ j6 g3 hh ⟨j7, j8, j9, xss11, rfl, rfl, hi⟩
 obtain ⟨ja, g4, hj, hsx5⟩ := a1h hh (i := 1) Y (((((h5.mono g1).mono gg).mono z).mono G).mono g3)
 obtain ⟨jb, g5, gq, hsx6⟩ := a1h hj (i := 0) Y (hi.mono g4)
 obtain ⟨v5, it, hm⟩ := Yb hm
 refine a0i ent134 Y Y Y Y gq (b1c _ _ _ _ it gq.sat (hsx5.mono g5) hsx6) ?_
 rintro _ jc _ jd gr hk ⟨hl, hn, ho, xss12, rfl, rfl, hp⟩
 refine a0b Y Y Y (a0g (a1q (a0c (a0a (a0d Y Y Y (a0u Y Y Y Y Y (a0b Y Y Y (a0g ?_))))))))
 obtain ⟨je, gs, hq, hsx7⟩ := a1h hk (i := 0) Y hp
 refine a0o (fun a ha => ihx1 (v5, (isub .i64 i1 1), l5) a _ hm ?_)
 exact ⟨_, hl, hn, ho, k, g, o, xs2, (((((((((((V.trans Z).trans g0).trans g1).trans gg).trans z).trans G).trans g3).trans g4).trans g5).trans gr).trans gs), hq.Yp [0] Y Y, hsx7, ((((((((io.mono gg).mono z).mono G).mono g3).mono g4).mono g5).mono gr).mono gs), ha.cut (l := [0, 1, 6, 7, 8]) Y⟩
 clear hm hkont2; intro hk2 mx2 K ihx2
 rintro ⟨lo1, hi1⟩ a jf hm ⟨ge, g2, gt, hr⟩
 simp only [c1g] at hm
 refine a1n hr (a0h (a0h (a0a (a0d Y Y Y (a0d Y Y Y (a0u Y Y Y Y Y (a0u Y Y Y Y Y (a0g (a0c ?_)))))))))
 rcases a0f hm with ⟨gu, hm⟩ | ⟨gu, hm⟩
 refine a0r 33 Y gu (a0y Y (a1c (a0c (a1i (a0h (a0a (a0d Y Y Y (a0d Y Y Y (a0u Y Y Y Y Y ?_)))))))))
 obtain ⟨q1, hq1, hm⟩ := Yb hm
 refine c8l Y Y Y Y hq1 (a0b Y Y Y (a0g (a0c (a0h (a0a (a0d Y Y Y (a0d Y Y Y (a0d Y Y Y (a1v (e := 3) (cs := [.int .i64 q1]) (q := 1) Y Y gt Y (fun _ => by kernel_rfl) Y Y ?_)))))))))
 intro b7 jg ht
 obtain ⟨jh, H, gv, hsx8⟩ := a1h ht (i := 0) Y ((show RowN (Rp.int .i64) ge 1 [.int .i64 q1] [q1] from ⟨Y, ⟨_, _, Y, Y, (Y : RowR (Rp.int .i64) _ [] [])⟩⟩))
 have iu := (((V.trans Z).trans g0).trans g2).trans H
 obtain ⟨v6, iv, hm⟩ := Yb hm
 refine a0i ent117 Y Y Y Y gv (b3a _ _ _ _ iv gv.sat (gx.mono iu) hsx8) ?_
 rintro _ ji _ jj g6 I ⟨jk, jl, jm, xss13, rfl, rfl, hu⟩
 obtain ⟨v7, iw, hm⟩ := Yb hm
 refine a3c ent119 Y Y Y Y (b4b _ _ _ _ iw (b1t _) (I.viewRow (p := 1) Y Y (((h5.mono g2).mono H).mono g6)) (I.viewRow (p := 0) Y Y hu)) (a0g (a0c ?_))
 rcases a0f hm with ⟨gw, hm⟩ | ⟨gw, hm⟩
 refine a0r 43 Y gw (a0y Y (a0a (a0d Y Y Y (a0b Y Y Y (a0g (a1q (a0o (fun a ha => ihx2 (lo1, q1) a _ hm ?_))))))))
 exact ⟨_, ((g2.trans H).trans g6), I.Yp [1, 2] Y Y, ha.cut (l := [0, 1, 6, 7, 8, 9, 10]) Y⟩
 refine a0r 43 Y gw (a0q Y (a0a (a0d Y Y Y (a0b Y Y Y (a0g (a1q (a0o (fun a ha => ihx2 (q1, hi1) a _ hm ?_))))))))
 exact ⟨_, ((g2.trans H).trans g6), I.Yp [1, 2] Y Y, ha.cut (l := [0, 1, 6, 7, 8, 9, 10]) Y⟩
 refine a0r 33 Y gu (a0q Y (a3p (a0x (a0x (fun a ha => hk2 lo1 a _ hm ?_)))))
 exact ⟨_, g2, gt.Yp [0, 1] Y Y, ha.cut (l := [0, 1, 6, 7, 8, 9]) Y⟩
 refine a0r 19 Y gm (a0q Y (a3p (a0x (a0x (fun a ha => hk1 (rx1, l2) a _ hm ?_)))))
 exact ⟨_, g7, g8, g9, k, g, o, xss4, V, gk.Yp [0] Y Y, h2, gl, ha.cut (l := [6, 7]) Y⟩
theorem ent98 : Ent Tryz.prog 98 := fun _ _ => by kernel_rfl
theorem ent118 : Ent Tryz.prog 118 := fun _ _ => by kernel_rfl
def a8g (n : Nat) (ax1 : Big) (b1 : Big) : Option Int :=
 (a2y n ax1).bind fun v1 =>
 (bif !v1 then
  some true
 else
  (a2y n b1).bind fun v6 =>
  some (!v6)).bind fun v2 =>
 (bif v2 then
  some true
 else
  (b1x n ax1 b1).bind fun v5 =>
  some v5).bind fun v3 =>
 bif v3 then
  some 0
 else
  bif ax1.Sign != b1.Sign then
   bif decide (ax1.Sign < b1.Sign) then
    some (-1)
   else
    some 1
  else
   (a6g n ax1.Digits b1.Digits).bind fun v4 =>
   bif v4 == (decide (0 < ax1.Sign)) then
    some (-1)
   else
    some 1
theorem b4h (n : Nat) (ax1 : Big) (b1 : Big) (r : Int) (hm : a8g n ax1 b1 = some r) {w : World} {F : Frz} (hs : Sat F w) {p q : Option Addr} {s t u x : Nat} (H : SlR (Rp.int .i64) F p s t ax1.Digits) (I : SlR (Rp.int .i64) F q u x b1.Digits) :
  Calls Tryz.prog 79 #[.agg #[.int .i64 ax1.Sign, .slice p s t], .agg #[.int .i64 b1.Sign, .slice q u x]] w fun e w' => ∃ v F' O', e = .returned v ∧ HS F w [] F' O' w' ∧ (v = .int .i64 r ∧ O' = []) := by
 unfold a8g at hm
 have h := HS.init hs
 refine a1a 37 Tryz.func79 Y Y Y (a0h (a0a (a2i Y Y Y Y h ?_)))
 intro b2 gb g1
 refine a2i Y Y Y Y g1 ?_
 intro b3 gc J
 refine a0b Y Y Y (a0g (a0c (a0h (a0h (a0a (a0m ag35 sz35 Y Y J Y (i := 1) Y Y ?_))))))
 obtain ⟨v1, g2, hm⟩ := Yb hm
 refine a0i ent98 Y Y Y Y J (a3b _ _ _ g2 J.sat H) ?_
 rintro _ g3 _ gd m y ⟨rfl, rfl⟩
 refine a3d Y Y Y (a0d Y Y Y ?_)
 obtain ⟨v2, j, hm⟩ := Yb hm
 refine a1z 4 (fun a w' => ∃ (z : Frz), Frz.le g3 z ∧ HS F w [] z [.box b3 35 [.int .i64 b1.Sign, .slice q u x], .box b2 35 [.int .i64 ax1.Sign, .slice p s t]] w' ∧ Has 37 a [(2, .pointer (some ⟨b2, 0, none⟩)), (3, .pointer (some ⟨b3, 0, none⟩)), (12, .bool v2)]) ?_ ?_
 rintro a ge ⟨z, G, o, Z⟩
 refine a0z Z (a0d Y Y Y ?_)
 obtain ⟨v3, k, hm⟩ := Yb hm
 refine a1z 4 (fun a w' => ∃ (K : Frz), Frz.le z K ∧ HS F w [] K [.box b3 35 [.int .i64 b1.Sign, .slice q u x], .box b2 35 [.int .i64 ax1.Sign, .slice p s t]] w' ∧ Has 37 a [(2, .pointer (some ⟨b2, 0, none⟩)), (3, .pointer (some ⟨b3, 0, none⟩)), (17, .bool v3)]) ?_ ?_
 rintro a gf ⟨K, U, g, g0⟩
 refine a0z g0 (a0g (a0c ?_))
 rcases a0f hm with ⟨L, hm⟩ | ⟨L, hm⟩
 refine a0r 17 Y L (a0y Y (a0h (a0a (a0b Y Y Y (a0g (a0c (a1d (a0j (a1j Y Y ?_)))))))))
 obtain rfl := Yo hm
 exact ⟨_, _, _, Y, g.Yp [] Y Y, Y, Y⟩
 refine a0r 17 Y L (a0q Y (a1c (a0c (a0h (a0h (a0a (a0e fa35_0 Y Y Y (a0p ag3 Y Y g Y (i := 1) Y Y (a0e fa35_0 Y Y Y (a0p ag3 Y Y g Y (i := 0) Y Y (a0u Y Y Y Y Y ?_)))))))))))
 refine a0g (a0c ?_)
 rcases a0f hm with ⟨M, hm⟩ | ⟨M, hm⟩
 refine a0r 22 Y M (a0y Y (a0h (a0h (a0a (a0e fa35_0 Y Y Y (a0p ag3 Y Y g Y (i := 1) Y Y (a0e fa35_0 Y Y Y (a0p ag3 Y Y g Y (i := 0) Y Y (a0u Y Y Y Y Y ?_)))))))))
 refine a0g (a0c ?_)
 rcases a0f hm with ⟨N, hm⟩ | ⟨N, hm⟩
 refine a0r 27 Y N (a0y Y (a0h (a0a (a0b Y Y Y (a0g (a0c (a1d (a0j (a0j (a1j Y Y ?_))))))))))
 obtain rfl := Yo hm
 exact ⟨_, _, _, Y, g.Yp [] Y Y, Y, Y⟩
 refine a0r 27 Y N (a0q Y (a1c (a0c (a0h (a0a (a0b Y Y Y (a0g (a0c (a1d (a0j (a1j Y Y ?_)))))))))))
 obtain rfl := Yo hm
 exact ⟨_, _, _, Y, g.Yp [] Y Y, Y, Y⟩
 refine a0r 22 Y M (a0q Y (a1c (a0c (a0h (a0h (a3j (by kernel_rfl) (by kernel_rfl) g (a1e Y Y Y Y (fun _ _ _ _ => a0e fa35_1 Y Y Y Yn) (a1e Y Y Y Y (fun _ _ _ hq => a0p ag28 Y Y hq Y (i := 1) Y Y Yn) (a1e Y Y Y Y (fun _ _ _ _ => a0e fa35_1 Y Y Y Yn) (a1e Y Y Y Y (fun _ _ _ hq => a0p ag28 Y Y hq Y (i := 0) Y Y Yn) ?_))))))))))
 obtain ⟨v4, g4, hm⟩ := Yb hm
 refine a9c ent119 Y Y Y Y (fun _ _ hleq hq => b4b _ _ _ _ g4 hq.sat ((((H.mono m).mono G).mono U).mono hleq) ((((I.mono m).mono G).mono U).mono hleq)) (a1e Y Y Y Y (fun _ _ _ _ => a0e fa35_0 Y Y Y Yn) (a1e Y Y Y Y (fun _ _ _ hq => a0p ag3 Y Y hq Y (i := 1) Y Y Yn) (a1e Y Y Y Y (fun _ _ _ _ => a0u Y Y Y Y Y Yn) (a1e Y Y Y Y (fun _ _ _ _ => d7r u4 Y Y Y Y Yn) (b0t ?_)))))
 rintro gg ⟨gh, gi, V⟩
 refine a0c ?_
 rcases a0f hm with ⟨Q, hm⟩ | ⟨Q, hm⟩
 refine a0r 36 Y Q (a0y Y (a0h (a0a (a0b Y Y Y (a0g (a0c (a1d (a0j (a1j Y Y ?_)))))))))
 obtain rfl := Yo hm
 exact ⟨_, _, _, Y, V.Yp [] Y Y, Y, Y⟩
 refine a0r 36 Y Q (a0q Y (a1c (a0c (a0h (a0a (a0b Y Y Y (a0g (a0c (a1d (a1j Y Y ?_))))))))))
 obtain rfl := Yo hm
 exact ⟨_, _, _, Y, V.Yp [] Y Y, Y, Y⟩
 clear hm
 rcases a0f k with ⟨R, k⟩ | ⟨R, k⟩
 refine a1g 13 Y R (a0t Y (by decide) Y (a0t Y (by decide) Y (a0t Y (by decide) Y (a0n Y Y Y Y (a0g (a0o (fun a ha => ?_)))))))
 cases k
 exact ⟨_, Yf, o.Yp [0, 1] Y Y, ha.cut (l := [2, 3, 17]) Y⟩
 refine a1g 13 Y R (a0m ag35 sz35 Y Y o Y (i := 1) Y Y (a0m ag35 sz35 Y Y o Y (i := 0) Y Y ?_))
 obtain ⟨v5, g5, k⟩ := Yb k
 refine a0i ent118 Y Y Y Y o (c2z _ _ _ _ g5 o.sat ((H.mono m).mono G) ((I.mono m).mono G)) ?_
 rintro _ gj _ gk g6 g7 ⟨rfl, rfl⟩
 refine a0k Y Y Y Y (a0g (a0o (fun a ha => ?_)))
 cases k
 exact ⟨_, g6, g7.Yp [0, 1] Y Y, ha.cut (l := [2, 3, 17]) Y⟩
 clear hm
 rcases a0f j with ⟨T, j⟩ | ⟨T, j⟩
 refine a1g 8 Y T (a0t Y (by decide) Y (a0t Y (by decide) Y (a0t Y (by decide) Y (a0n Y Y Y Y (a0g (a0o (fun a ha => ?_)))))))
 cases j
 exact ⟨_, Yf, y.Yp [0, 1] Y Y, ha.cut (l := [2, 3, 12]) Y⟩
 refine a1g 8 Y T (a0m ag35 sz35 Y Y y Y (i := 0) Y Y ?_)
 obtain ⟨v6, g8, j⟩ := Yb j
 refine a0i ent98 Y Y Y Y y (a3b _ _ _ g8 y.sat (I.mono m)) ?_
 rintro _ gl _ gm g9 ga ⟨rfl, rfl⟩
 refine a3d Y Y Y (a0k Y Y Y Y (a0g (a0o (fun a ha => ?_))))
 cases j
 exact ⟨_, g9, ga.Yp [0, 1] Y Y, ha.cut (l := [2, 3, 12]) Y⟩
def b2h (n : Nat) (ax1 : Big) : Option Big :=
 (a2y n ax1).bind fun v1 =>
 bif !v1 then
  some (⟨0, []⟩ : Big)
 else
  (a2w n (IntKind.i64.wrap (0 - ax1.Sign)) ax1.Digits).bind fun v2 =>
  some v2
theorem b2r (n : Nat) (ax1 : Big) (r : Big) (hm : b2h n ax1 = some r) {w : World} {F : Frz} (hs : Sat F w) {l : Option Addr} {m : Nat} {o : Nat} (p : SlR (Rp.int .i64) F l m o ax1.Digits) :
  Calls Tryz.prog 99 #[.agg #[.int .i64 ax1.Sign, .slice l m o]] w fun e w' => ∃ v F' O', e = .returned v ∧ HS F w [] F' O' w' ∧ (∃ (a0_1 : Option Addr) (n0_1 : Nat) (c0_1 : Nat), v = .agg #[.int .i64 r.Sign, .slice a0_1 n0_1 c0_1] ∧ O' = [] ∧ SlR (Rp.int .i64) F' a0_1 n0_1 c0_1 r.Digits) := by
 unfold b2h at hm
 have h := HS.init hs
 refine a1a 13 Tryz.func99 Y Y Y (a0h (a0a (a2i Y Y Y Y h ?_)))
 intro b1 K t
 refine a1f ze35 Y Y Y t ?_
 intro b2 L j
 refine a0g (a0c (a0h (a0h (a0a (a0m ag35 sz35 Y Y j Y (i := 1) Y Y ?_)))))
 obtain ⟨v1, u, hm⟩ := Yb hm
 refine a0i ent98 Y Y Y Y j (a3b _ _ _ u j.sat p) ?_
 rintro _ M _ N x g ⟨rfl, rfl⟩
 refine a3d Y Y Y (a0g (a0c ?_))
 rcases a0f hm with ⟨k, hm⟩ | ⟨k, hm⟩
 refine a0r 5 Y k (a0y Y (a0h (a0a (a1y (v := .agg #[.int .i64 0, .slice none 0 0]) Y Y Y (fun _ => by kernel_rfl) (a0s sz35 Y g Y Y Y Y (i := 0) Y Y Y Y ?_)))))
 intro Q q
 refine a0g (a0c (a1d (a0j (a3y Y ag35 sz35 Y q Y (i := 0) Y ?_))))
 obtain rfl := Yo hm
 exact ⟨_, _, _, Y, q.Yp [] Y Y, none, 0, 0, Y, Y, SlR.nil _ _⟩
 refine a0r 5 Y k (a0q Y (a1c (a0c (a0h (a0a (a0e fa35_0 Y Y Y (a0p ag3 Y Y g Y (i := 1) Y Y (c8a Y Y Y (a0e fa35_1 Y Y Y (a0p ag28 Y Y g Y (i := 1) Y Y ?_))))))))))
 obtain ⟨v2, y, hm⟩ := Yb hm
 refine a0i ent102 Y Y Y Y g (a4q _ _ _ _ y g.sat (p.mono x)) ?_
 rintro _ R _ T U z ⟨G, H, I, rfl, rfl, J⟩
 refine a0s sz35 Y z Y Y Y Y (i := 0) Y Y Y Y ?_
 intro V s
 refine a0g (a0c (a1d (a3y Y ag35 sz35 Y s Y (i := 0) Y ?_)))
 obtain rfl := Yo hm
 exact ⟨_, _, _, Y, s.Yp [] Y Y, G, H, I, Y, Y, J⟩
theorem ent133 : Ent Tryz.prog 133 := fun _ _ => by kernel_rfl
def b3g (n : Nat) (ax1 : Big) (b1 : Big) : Option (Big × Int) :=
 (a2y n ax1).bind fun v1 =>
 (bif !v1 then
  some true
 else
  (a2y n b1).bind fun v12 =>
  some (!v12)).bind fun v2 =>
 bif v2 then
  some ((⟨0, []⟩ : Big), 1)
 else
  (bif ax1.Sign == 0 then
   some true
  else
   some (b1.Sign == 0)).bind fun v3 =>
  (bif v3 then
   some true
  else
   some (ax1.Sign == b1.Sign)).bind fun v4 =>
  bif v4 then
   (a8k n ax1.Digits b1.Digits).bind fun v5 =>
   (a2w n (ior .i64 ax1.Sign b1.Sign) v5).bind fun v6 =>
   some (v6, 0)
  else
   (a6g n ax1.Digits b1.Digits).bind fun v7 =>
   bif v7 then
    (a3q n b1.Digits ax1.Digits).bind fun v8 =>
    (a2w n b1.Sign v8).bind fun v9 =>
    some (v9, 0)
   else
    (a3q n ax1.Digits b1.Digits).bind fun v10 =>
    (a2w n ax1.Sign v10).bind fun v11 =>
    some (v11, 0)
theorem b2x (n : Nat) (ax1 : Big) (b1 : Big) (r : (Big × Int)) (hm : b3g n ax1 b1 = some r) {w : World} {F : Frz} (hs : Sat F w) {o p : Option Addr} {q s t u : Nat} (H : SlR (Rp.int .i64) F o q s ax1.Digits) (I : SlR (Rp.int .i64) F p t u b1.Digits) :
  Calls Tryz.prog 140 #[.agg #[.int .i64 ax1.Sign, .slice o q s], .agg #[.int .i64 b1.Sign, .slice p t u]] w fun e w' => ∃ v F' O', e = .returned v ∧ HS F w [] F' O' w' ∧ (∃ (a0_1 : Option Addr) (n0_1 : Nat) (c0_1 : Nat), v = .tuple #[.agg #[.int .i64 r.1.Sign, .slice a0_1 n0_1 c0_1], .int .i64 r.2] ∧ O' = [] ∧ SlR (Rp.int .i64) F' a0_1 n0_1 c0_1 r.1.Digits) := by
 unfold b3g at hm
 have h := HS.init hs
 refine a1a 62 Tryz.func140 Y Y Y (a0h (a0a (a2i Y Y Y Y h ?_)))
 intro b2 i1 h0
 refine a2i Y Y Y Y h0 ?_
 intro b3 i2 h1
 refine a1f ze35 Y Y Y h1 ?_
 intro b4 i3 Z
 refine a0b Y Y Y (a0g (a0c (a0h (a0h (a0a (a0m ag35 sz35 Y Y Z Y (i := 2) Y Y ?_))))))
 obtain ⟨v1, h2, hm⟩ := Yb hm
 refine a0i ent98 Y Y Y Y Z (a3b _ _ _ h2 Z.sat H) ?_
 rintro _ h3 _ i4 j R ⟨rfl, rfl⟩
 refine a3d Y Y Y (a0d Y Y Y ?_)
 obtain ⟨v2, m, hm⟩ := Yb hm
 refine a1z 4 (fun a w' => ∃ (x : Frz), Frz.le h3 x ∧ HS F w [] x [.box b4 35 [.int .i64 0, .slice none 0 0], .box b3 35 [.int .i64 b1.Sign, .slice p t u], .box b2 35 [.int .i64 ax1.Sign, .slice o q s]] w' ∧ Has 62 a [(2, .pointer (some ⟨b2, 0, none⟩)), (3, .pointer (some ⟨b3, 0, none⟩)), (4, .pointer (some ⟨b4, 0, none⟩)), (13, .bool v2)]) ?_ ?_
 rintro a gi ⟨x, k, g, gv⟩
 refine a0z gv (a0g (a0c ?_))
 rcases a0f hm with ⟨g0, hm⟩ | ⟨g0, hm⟩
 refine a0r 13 Y g0 (a0y Y (a0h (a0a (a1y (v := .agg #[.int .i64 0, .slice none 0 0]) Y Y Y (fun _ => by kernel_rfl) (a0s sz35 Y g Y Y Y Y (i := 0) Y Y Y Y ?_)))))
 intro i5 gj
 refine a0b Y Y Y (a0g (a0c (a1d (a0j (a1o (vl := [.agg #[.int .i64 0, .slice none 0 0], .int .i64 1]) Y ⟨a2d ag35 sz35 Y gj Y (i := 0) Y, a1r Y, trivial⟩ (by simp) ?_)))))
 obtain rfl := Yo hm
 exact ⟨_, _, _, Y, gj.Yp [] Y Y, none, 0, 0, Y, Y, SlR.nil _ _⟩
 refine a0r 13 Y g0 (a0q Y (a1c (a0c (a0h (a0h (a0a (a0e fa35_0 Y Y Y (a0p ag3 Y Y g Y (i := 2) Y Y (a0u Y Y Y Y Y (a0d Y Y Y ?_))))))))))
 obtain ⟨v3, J, hm⟩ := Yb hm
 refine a1z 4 (fun a w' => gi = w' ∧ Has 62 a [(2, .pointer (some ⟨b2, 0, none⟩)), (3, .pointer (some ⟨b3, 0, none⟩)), (4, .pointer (some ⟨b4, 0, none⟩)), (22, .bool v3)]) ?_ ?_
 rintro a i6 ⟨rfl, gw⟩
 refine a0z gw (a0d Y Y Y ?_)
 obtain ⟨v4, K, hm⟩ := Yb hm
 refine a1z 6 (fun a w' => gi = w' ∧ Has 62 a [(2, .pointer (some ⟨b2, 0, none⟩)), (3, .pointer (some ⟨b3, 0, none⟩)), (4, .pointer (some ⟨b4, 0, none⟩)), (29, .bool v4)]) ?_ ?_
 rintro a i7 ⟨rfl, gx⟩
 refine a0z gx (a0g (a0c ?_))
 rcases a0f hm with ⟨g1, hm⟩ | ⟨g1, hm⟩
 refine a0r 29 Y g1 (a0y Y (a0h (a2l (SH x [.box b3 35 [.int .i64 b1.Sign, .slice p t u], .box b2 35 [.int .i64 ax1.Sign, .slice o q s]]) 13 Y (by kernel_rfl) g ?_)))
 intro i8 g2
 have S0 := g2.Ys Yf [1, 2] Y Y
 refine d_tk 0 Y (by kernel_rfl) Y Y Y Y S0 (fun _ _ _ _ _ => a0e fa35_0 Y Y Y Yn) (d_tk 1 Y (by kernel_rfl) Y Y Y Y S0 (fun _ _ _ _ hq => a0p ag3 Y Y hq Y (i := 1) Y Y Yn) (d_tk 2 Y (by kernel_rfl) Y Y Y Y S0 (fun _ _ _ _ _ => a0e fa35_0 Y Y Y Yn) (d_tk 3 Y (by kernel_rfl) Y Y Y Y S0 (fun _ _ _ _ hq => a0p ag3 Y Y hq Y (i := 0) Y Y Yn) (d_tk 4 Y (by kernel_rfl) Y Y Y Y S0 (fun _ _ _ _ _ => a0u Y Y Y Y Y Yn) (d_tk 5 Y (by kernel_rfl) Y Y Y Y S0 (fun _ _ _ _ _ => a0e fa35_1 Y Y Y Yn) (d_tk 6 Y (by kernel_rfl) Y Y Y Y S0 (fun _ _ _ _ hq => a0p ag28 Y Y hq Y (i := 1) Y Y Yn) ?_))))))
 refine d_tk 7 Y (by kernel_rfl) Y Y Y Y S0 (fun _ _ _ _ _ => a0e fa35_1 Y Y Y Yn) (d_tk 8 Y (by kernel_rfl) Y Y Y Y S0 (fun _ _ _ _ hq => a0p ag28 Y Y hq Y (i := 0) Y Y Yn) (a1b 9 Y (by kernel_rfl) ?_))
 obtain ⟨v5, h4, hm⟩ := Yb hm
 refine a0i ent133 Y Y Y Y g2 (b7c _ _ _ _ h4 g2.sat ((H.mono j).mono k) ((I.mono j).mono k)) ?_
 rintro _ i9 _ hj T gk ⟨ia, ib, ic, xss3, rfl, rfl, h5⟩
 refine a0w (gk.Ys T [2, 3] Y Y) (a1b 10 Y (by kernel_rfl) ?_)
 obtain ⟨id, g3, gl, hsx1⟩ := a1h gk (i := 0) Y h5
 obtain ⟨v6, h6, hm⟩ := Yb hm
 refine a0i ent102 Y Y Y Y gl (a4q _ _ _ _ h6 gl.sat hsx1) ?_
 rintro _ ie _ hk g4 g5 ⟨gm, gn, go, rfl, rfl, h7⟩
 refine a0w (g5.Ys ((T.trans g3).trans g4) [1, 2] Y Y) (a1b 11 Y (by kernel_rfl) (a0s sz35 Y g5 Y Y Y Y (i := 0) Y Y Y Y ?_))
 intro hl y
 refine a0w (y.Ys ((T.trans g3).trans g4) [1, 2] Y Y) (d_tk 12 Y (by kernel_rfl) Y Y Y Y (y.Ys ((T.trans g3).trans g4) [1, 2] Y Y) (fun _ _ _ _ _ => a0b Y Y Y Yn) (a2x (by kernel_rfl) (a0c (a1d (a0j (a1o (vl := [.agg #[.int .i64 v6.Sign, .slice gm gn go], .int .i64 0]) Y ⟨a2d ag35 sz35 Y y Y (i := 0) Y, a1r Y, trivial⟩ (by simp) ?_))))))
 obtain rfl := Yo hm
 exact ⟨_, _, _, Y, y.Yp [] Y Y, gm, gn, go, Y, Y, h7⟩
 refine a0r 29 Y g1 (a0q Y (a1c (a0c (a0h (a0h (a0a (a0e fa35_1 Y Y Y (a0p ag28 Y Y g Y (i := 2) Y Y (a0e fa35_1 Y Y Y (a0p ag28 Y Y g Y (i := 1) Y Y ?_))))))))))
 obtain ⟨v7, h8, hm⟩ := Yb hm
 refine a3c ent119 Y Y Y Y (b4b _ _ _ _ h8 g.sat ((H.mono j).mono k) ((I.mono j).mono k)) (a0g (a0c ?_))
 rcases a0f hm with ⟨g6, hm⟩ | ⟨g6, hm⟩
 refine a0r 45 Y g6 (a0y Y (a0h (a2l (SH x [.box b3 35 [.int .i64 b1.Sign, .slice p t u], .box b2 35 [.int .i64 ax1.Sign, .slice o q s]]) 10 Y (by kernel_rfl) g ?_)))
 intro hn L
 have S1 := L.Ys Yf [1, 2] Y Y
 refine d_tk 0 Y (by kernel_rfl) Y Y Y Y S1 (fun _ _ _ _ _ => a0e fa35_0 Y Y Y Yn) (d_tk 1 Y (by kernel_rfl) Y Y Y Y S1 (fun _ _ _ _ hq => a0p ag3 Y Y hq Y (i := 0) Y Y Yn) (d_tk 2 Y (by kernel_rfl) Y Y Y Y S1 (fun _ _ _ _ _ => a0e fa35_1 Y Y Y Yn) (d_tk 3 Y (by kernel_rfl) Y Y Y Y S1 (fun _ _ _ _ hq => a0p ag28 Y Y hq Y (i := 0) Y Y Yn) (d_tk 4 Y (by kernel_rfl) Y Y Y Y S1 (fun _ _ _ _ _ => a0e fa35_1 Y Y Y Yn) (d_tk 5 Y (by kernel_rfl) Y Y Y Y S1 (fun _ _ _ _ hq => a0p ag28 Y Y hq Y (i := 1) Y Y Yn) (a1b 6 Y (by kernel_rfl) ?_))))))
 obtain ⟨v8, h9, hm⟩ := Yb hm
 refine a0i ent134 Y Y Y Y L (b1c _ _ _ _ h9 L.sat ((I.mono j).mono k) ((H.mono j).mono k)) ?_
 rintro _ ig _ ho U g7 ⟨ih, ii, ij, xss5, rfl, rfl, hb⟩
 refine a0w (g7.Ys U [2, 3] Y Y) (a1b 7 Y (by kernel_rfl) ?_)
 obtain ⟨ik, g8, g9, hsx2⟩ := a1h g7 (i := 0) Y hb
 obtain ⟨v9, hc, hm⟩ := Yb hm
 refine a0i ent102 Y Y Y Y g9 (a4q _ _ _ _ hc g9.sat hsx2) ?_
 rintro _ il _ hp ga gb ⟨gp, gq, gr, rfl, rfl, hd⟩
 refine a0w (gb.Ys ((U.trans g8).trans ga) [1, 2] Y Y) (a1b 8 Y (by kernel_rfl) (a0s sz35 Y gb Y Y Y Y (i := 0) Y Y Y Y ?_))
 intro hr z
 refine a0w (z.Ys ((U.trans g8).trans ga) [1, 2] Y Y) (d_tk 9 Y (by kernel_rfl) Y Y Y Y (z.Ys ((U.trans g8).trans ga) [1, 2] Y Y) (fun _ _ _ _ _ => a0b Y Y Y Yn) (a2x (by kernel_rfl) (a0c (a1d (a0j (a1o (vl := [.agg #[.int .i64 v9.Sign, .slice gp gq gr], .int .i64 0]) Y ⟨a2d ag35 sz35 Y z Y (i := 0) Y, a1r Y, trivial⟩ (by simp) ?_))))))
 obtain rfl := Yo hm
 exact ⟨_, _, _, Y, z.Yp [] Y Y, gp, gq, gr, Y, Y, hd⟩
 refine a0r 45 Y g6 (a0q Y (a1c (a0c (a0h (a2l (SH x [.box b3 35 [.int .i64 b1.Sign, .slice p t u], .box b2 35 [.int .i64 ax1.Sign, .slice o q s]]) 10 Y (by kernel_rfl) g ?_)))))
 intro ht M
 have S2 := M.Ys Yf [1, 2] Y Y
 refine d_tk 0 Y (by kernel_rfl) Y Y Y Y S2 (fun _ _ _ _ _ => a0e fa35_0 Y Y Y Yn) (d_tk 1 Y (by kernel_rfl) Y Y Y Y S2 (fun _ _ _ _ hq => a0p ag3 Y Y hq Y (i := 1) Y Y Yn) (d_tk 2 Y (by kernel_rfl) Y Y Y Y S2 (fun _ _ _ _ _ => a0e fa35_1 Y Y Y Yn) (d_tk 3 Y (by kernel_rfl) Y Y Y Y S2 (fun _ _ _ _ hq => a0p ag28 Y Y hq Y (i := 1) Y Y Yn) (d_tk 4 Y (by kernel_rfl) Y Y Y Y S2 (fun _ _ _ _ _ => a0e fa35_1 Y Y Y Yn) (d_tk 5 Y (by kernel_rfl) Y Y Y Y S2 (fun _ _ _ _ hq => a0p ag28 Y Y hq Y (i := 0) Y Y Yn) (a1b 6 Y (by kernel_rfl) ?_))))))
 obtain ⟨v10, he, hm⟩ := Yb hm
 refine a0i ent134 Y Y Y Y M (b1c _ _ _ _ he M.sat ((H.mono j).mono k) ((I.mono j).mono k)) ?_
 rintro _ im _ hu V gc ⟨io, ip, iq, xss7, rfl, rfl, hf⟩
 refine a0w (gc.Ys V [2, 3] Y Y) (a1b 7 Y (by kernel_rfl) ?_)
 obtain ⟨hv, N, gd, hsx3⟩ := a1h gc (i := 0) Y hf
 obtain ⟨v11, hg, hm⟩ := Yb hm
 refine a0i ent102 Y Y Y Y gd (a4q _ _ _ _ hg gd.sat hsx3) ?_
 rintro _ hw _ hx Q ge ⟨gs, gt, gu, rfl, rfl, hh⟩
 refine a0w (ge.Ys ((V.trans N).trans Q) [1, 2] Y Y) (a1b 8 Y (by kernel_rfl) (a0s sz35 Y ge Y Y Y Y (i := 0) Y Y Y Y ?_))
 intro hy G
 refine a0w (G.Ys ((V.trans N).trans Q) [1, 2] Y Y) (d_tk 9 Y (by kernel_rfl) Y Y Y Y (G.Ys ((V.trans N).trans Q) [1, 2] Y Y) (fun _ _ _ _ _ => a0b Y Y Y Yn) (a2x (by kernel_rfl) (a0c (a1d (a1o (vl := [.agg #[.int .i64 v11.Sign, .slice gs gt gu], .int .i64 0]) Y ⟨a2d ag35 sz35 Y G Y (i := 0) Y, a1r Y, trivial⟩ (by simp) ?_)))))
 obtain rfl := Yo hm
 exact ⟨_, _, _, Y, G.Yp [] Y Y, gs, gt, gu, Y, Y, hh⟩
 clear hm
 rcases a0f K with ⟨gf, K⟩ | ⟨gf, K⟩
 refine a1g 23 Y gf (a0t Y (by decide) Y (a0t Y (by decide) Y (a0t Y (by decide) Y (a0t Y (by decide) Y (a0t Y (by decide) Y (a0n Y Y Y Y (a0g (a0o (fun a ha => ?_)))))))))
 cases K
 exact ⟨Y, ha.cut (l := [2, 3, 4, 29]) Y⟩
 refine a1g 23 Y gf (a0e fa35_0 Y Y Y (a0p ag3 Y Y g Y (i := 2) Y Y (a0e fa35_0 Y Y Y (a0p ag3 Y Y g Y (i := 1) Y Y (a0u Y Y Y Y Y (a0k Y Y Y Y (a0g ?_)))))))
 refine a0o (fun a ha => ?_)
 cases K
 exact ⟨Y, ha.cut (l := [2, 3, 4, 29]) Y⟩
 clear hm
 rcases a0f J with ⟨gg, J⟩ | ⟨gg, J⟩
 refine a1g 18 Y gg (a0t Y (by decide) Y (a0t Y (by decide) Y (a0t Y (by decide) Y (a0n Y Y Y Y (a0g (a0o (fun a ha => ?_)))))))
 cases J
 exact ⟨Y, ha.cut (l := [2, 3, 4, 22]) Y⟩
 refine a1g 18 Y gg (a0e fa35_0 Y Y Y (a0p ag3 Y Y g Y (i := 1) Y Y (a0u Y Y Y Y Y (a0k Y Y Y Y (a0g (a0o (fun a ha => ?_)))))))
 cases J
 exact ⟨Y, ha.cut (l := [2, 3, 4, 22]) Y⟩
 clear hm
 rcases a0f m with ⟨gh, m⟩ | ⟨gh, m⟩
 refine a1g 9 Y gh (a0t Y (by decide) Y (a0t Y (by decide) Y (a0t Y (by decide) Y (a0n Y Y Y Y (a0g (a0o (fun a ha => ?_)))))))
 cases m
 exact ⟨_, Yf, R.Yp [0, 1, 2] Y Y, ha.cut (l := [2, 3, 4, 13]) Y⟩
 refine a1g 9 Y gh (a0m ag35 sz35 Y Y R Y (i := 1) Y Y ?_)
 obtain ⟨v12, hi, m⟩ := Yb m
 refine a0i ent98 Y Y Y Y R (a3b _ _ _ hi R.sat (I.mono j)) ?_
 rintro _ hz _ i0 gy gz ⟨rfl, rfl⟩
 refine a3d Y Y Y (a0k Y Y Y Y (a0g (a0o (fun a ha => ?_))))
 cases m
 exact ⟨_, gy, gz.Yp [0, 1, 2] Y Y, ha.cut (l := [2, 3, 4, 13]) Y⟩
theorem ent99 : Ent Tryz.prog 99 := fun _ _ => by kernel_rfl
theorem ent140 : Ent Tryz.prog 140 := fun _ _ => by kernel_rfl
def b5r (n : Nat) (ax1 : Big) (b1 : Big) : Option (Big × Int) :=
 (a2y n b1).bind fun v1 =>
 bif !v1 then
  some ((⟨0, []⟩ : Big), 1)
 else
  ((b2h n b1).bind fun v2 =>
  (b3g n ax1 v2).bind fun v3 =>
  some (v3.1.Sign, v3.1.Digits, v3.2)).bind fun (f1, f2, ex1) =>
  some ((⟨f1, f2⟩ : Big), ex1)
theorem c4q (n : Nat) (ax1 : Big) (b1 : Big) (r : (Big × Int)) (hm : b5r n ax1 b1 = some r) {w : World} {F : Frz} (hs : Sat F w) {K L : Option Addr} {M N Q R : Nat} (V : SlR (Rp.int .i64) F K M N ax1.Digits) (Z : SlR (Rp.int .i64) F L Q R b1.Digits) :
  Calls Tryz.prog 141 #[.agg #[.int .i64 ax1.Sign, .slice K M N], .agg #[.int .i64 b1.Sign, .slice L Q R]] w fun e w' => ∃ v F' O', e = .returned v ∧ HS F w [] F' O' w' ∧ (∃ (a0_1 : Option Addr) (n0_1 : Nat) (c0_1 : Nat), v = .tuple #[.agg #[.int .i64 r.1.Sign, .slice a0_1 n0_1 c0_1], .int .i64 r.2] ∧ O' = [] ∧ SlR (Rp.int .i64) F' a0_1 n0_1 c0_1 r.1.Digits) := by
 unfold b5r at hm
 have h := HS.init hs
 refine a1a 21 Tryz.func141 Y Y Y (a0h (a0a (a2i Y Y Y Y h ?_)))
 intro b2 gm gd
 refine a2i Y Y Y Y gd ?_
 intro b3 gn ge
 refine a1f ze35 Y Y Y ge ?_
 intro b4 go g0
 refine a0b Y Y Y (a0g (a0c (a0h (a0h (a0a (a0m ag35 sz35 Y Y g0 Y (i := 1) Y Y ?_))))))
 obtain ⟨v1, gf, hm⟩ := Yb hm
 refine a0i ent98 Y Y Y Y g0 (a3b _ _ _ gf g0.sat Z) ?_
 rintro _ g6 _ gp s g7 ⟨rfl, rfl⟩
 refine a3d Y Y Y (a0g (a0c ?_))
 rcases a0f hm with ⟨g1, hm⟩ | ⟨g1, hm⟩
 refine a0r 10 Y g1 (a0y Y (a0h (a0a (a1y (v := .agg #[.int .i64 0, .slice none 0 0]) Y Y Y (fun _ => by kernel_rfl) (a0s sz35 Y g7 Y Y Y Y (i := 0) Y Y Y Y ?_)))))
 intro gq g8
 refine a0b Y Y Y (a0g (a0c (a1d (a0j (a1o (vl := [.agg #[.int .i64 0, .slice none 0 0], .int .i64 1]) Y ⟨a2d ag35 sz35 Y g8 Y (i := 0) Y, a1r Y, trivial⟩ (by simp) ?_)))))
 obtain rfl := Yo hm
 exact ⟨_, _, _, Y, g8.Yp [] Y Y, none, 0, 0, Y, Y, SlR.nil _ _⟩
 refine a0r 10 Y g1 (a0q Y (a1c (a0c ?_)))
 obtain ⟨⟨f1, f2, ex1⟩, o, hm⟩ := Yb hm
 refine c8s (fun a w' => ∃ (T : Frz) (b5 : Nat) (t : Option Addr) (u : Nat) (x : Nat), Frz.le g6 T ∧ HS F w [] T [.box b5 35 [.int .i64 f1, .slice t u x], .box b4 35 [.int .i64 0, .slice none 0 0], .box b3 35 [.int .i64 b1.Sign, .slice L Q R], .box b2 35 [.int .i64 ax1.Sign, .slice K M N]] w' ∧ (SlR (Rp.int .i64) T t u x f2) ∧ Has 21 a [(4, .pointer (some ⟨b4, 0, none⟩)), (6, .pointer (some ⟨b5, 0, none⟩)), (7, .int .i64 ex1)]) ?_ ?_
 rintro a gr ⟨T, b5, t, u, x, gs, g9, gg, gc⟩
 refine a1n gc (a0h (a0a (a0m ag35 sz35 Y Y g9 Y (i := 0) Y Y (a0d Y Y Y (a0s sz35 Y g9 Y Y Y Y (i := 1) Y Y Y Y ?_)))))
 intro gt ga
 refine a0b Y Y Y (a0g (a0c (a1d (a1o (vl := [.agg #[.int .i64 f1, .slice t u x], .int .i64 ex1]) Y ⟨a2d ag35 sz35 Y ga Y (i := 1) Y, a1r Y, trivial⟩ (by simp) ?_))))
 obtain rfl := Yo hm
 exact ⟨_, _, _, Y, ga.Yp [] Y Y, t, u, x, Y, Y, gg⟩
 clear hm
 refine a2l (SH g6 [.box b4 35 [.int .i64 0, .slice none 0 0], .box b3 35 [.int .i64 b1.Sign, .slice L Q R], .box b2 35 [.int .i64 ax1.Sign, .slice K M N]]) 10 Y (by kernel_rfl) g7 ?_
 intro gu y
 refine d_tk 0 Y (by kernel_rfl) Y Y Y Y (y.Ys Yf [0, 1, 2] Y Y) (fun _ _ _ _ hq => a0m ag35 sz35 Y Y hq Y (i := 2) Y Y Yn) (d_tk 1 Y (by kernel_rfl) Y Y Y Y (y.Ys Yf [0, 1, 2] Y Y) (fun _ _ _ _ hq => a0m ag35 sz35 Y Y hq Y (i := 1) Y Y Yn) (b1q 2 7 Y Y (by kernel_rfl) ?_ ?_))
 obtain ⟨v2, g2, o⟩ := Yb o
 refine a0i ent99 Y Y Y Y y (b2r _ _ _ g2 y.sat (Z.mono s)) ?_
 rintro _ gh _ gi g q ⟨gj, gk, gl, rfl, rfl, U⟩
 refine a0w (q.Ys g [0, 1, 2] Y Y) (b1q 3 7 Y Y (by kernel_rfl) ?_ ?_)
 obtain ⟨v3, z, o⟩ := Yb o
 refine a0i ent140 Y Y Y Y q (b2x _ _ _ _ z q.sat ((V.mono s).mono g) U) ?_
 rintro _ gb _ g3 j m ⟨G, H, I, rfl, rfl, J⟩
 have S0 := m.Ys (g.trans j) [0, 1, 2] Y Y
 refine a0w S0 (d_tk 4 Y (by kernel_rfl) Y Y Y Y S0 (fun _ _ _ _ _ => a0d Y Y Y Yn) (d_tk 5 Y (by kernel_rfl) Y Y Y Y S0 (fun _ _ _ _ _ => a0l Y Y Y Y Yn) (d_tk 6 Y (by kernel_rfl) Y Y Y Y S0 (fun _ _ _ _ _ => a0l Y Y Y Y Yn) (a1b 7 Y (by kernel_rfl) (a1f ze35 Y Y Y m ?_)))))
 intro b6 g4 p
 refine a0w (p.Ys (g.trans j) [1, 2, 3] Y Y) (a1b 8 Y (by kernel_rfl) (a0s sz35 Y p Y Y Y Y (i := 0) Y Y Y Y ?_))
 intro g5 k
 refine a0w (k.Ys (g.trans j) [1, 2, 3] Y Y) (d_tk 9 Y (by kernel_rfl) Y Y Y Y (k.Ys (g.trans j) [1, 2, 3] Y Y) (fun _ _ _ _ _ => a0b Y Y Y Yn) (a2x (by kernel_rfl) (a0o (fun a ha => ?_))))
 cases o
 exact ⟨_, b6, G, H, I, (g.trans j), k.Yp [0, 1, 2, 3] Y Y, J, ha.cut (l := [4, 6, 7]) Y⟩
 refine a1f ze35 Y Y Y q ?_
 intro b6 g3 m
 refine a0w (m.Ys g [1, 2, 3] Y Y) (a1b 3 Y (by kernel_rfl) ?_)
 obtain ⟨v3, z, o⟩ := Yb o
 refine a0i ent140 Y Y Y Y m (b2x _ _ _ _ z m.sat ((V.mono s).mono g) U) ?_
 rintro _ gb _ g4 j p ⟨G, H, I, rfl, rfl, J⟩
 have S1 := p.Ys (g.trans j) [1, 2, 3] Y Y
 refine a0w S1 (d_tk 4 Y (by kernel_rfl) Y Y Y Y S1 (fun _ _ _ _ _ => a0d Y Y Y Yn) (d_tk 5 Y (by kernel_rfl) Y Y Y Y S1 (fun _ _ _ _ _ => a0l Y Y Y Y Yn) (d_tk 6 Y (by kernel_rfl) Y Y Y Y S1 (fun _ _ _ _ _ => a0l Y Y Y Y Yn) (a1b 8 Y (by kernel_rfl) (a0s sz35 Y p Y Y Y Y (i := 0) Y Y Y Y ?_)))))
 intro g5 k
 refine a0w (k.Ys (g.trans j) [1, 2, 3] Y Y) (d_tk 9 Y (by kernel_rfl) Y Y Y Y (k.Ys (g.trans j) [1, 2, 3] Y Y) (fun _ _ _ _ _ => a0b Y Y Y Yn) (a2x (by kernel_rfl) (a0o (fun a ha => ?_))))
 cases o
 exact ⟨_, b6, G, H, I, (g.trans j), k.Yp [0, 1, 2, 3] Y Y, J, ha.cut (l := [4, 6, 7]) Y⟩
 refine a1f ze35 Y Y Y y ?_
 intro b6 gi q
 refine a0w (q.Ys Yf [1, 2, 3] Y Y) (a1b 2 Y (by kernel_rfl) ?_)
 obtain ⟨v2, g2, o⟩ := Yb o
 refine a0i ent99 Y Y Y Y q (b2r _ _ _ g2 q.sat (Z.mono s)) ?_
 rintro _ gh _ g3 g m ⟨gj, gk, gl, rfl, rfl, U⟩
 refine a0w (m.Ys g [1, 2, 3] Y Y) (a1b 3 Y (by kernel_rfl) ?_)
 obtain ⟨v3, z, o⟩ := Yb o
 refine a0i ent140 Y Y Y Y m (b2x _ _ _ _ z m.sat ((V.mono s).mono g) U) ?_
 rintro _ gb _ g4 j p ⟨G, H, I, rfl, rfl, J⟩
 have S2 := p.Ys (g.trans j) [1, 2, 3] Y Y
 refine a0w S2 (d_tk 4 Y (by kernel_rfl) Y Y Y Y S2 (fun _ _ _ _ _ => a0d Y Y Y Yn) (d_tk 5 Y (by kernel_rfl) Y Y Y Y S2 (fun _ _ _ _ _ => a0l Y Y Y Y Yn) (d_tk 6 Y (by kernel_rfl) Y Y Y Y S2 (fun _ _ _ _ _ => a0l Y Y Y Y Yn) (a1b 8 Y (by kernel_rfl) (a0s sz35 Y p Y Y Y Y (i := 0) Y Y Y Y ?_)))))
 intro g5 k
 refine a0w (k.Ys (g.trans j) [1, 2, 3] Y Y) (d_tk 9 Y (by kernel_rfl) Y Y Y Y (k.Ys (g.trans j) [1, 2, 3] Y Y) (fun _ _ _ _ _ => a0b Y Y Y Yn) (a2x (by kernel_rfl) (a0o (fun a ha => ?_))))
 cases o
 exact ⟨_, b6, G, H, I, (g.trans j), k.Yp [0, 1, 2, 3] Y Y, J, ha.cut (l := [4, 6, 7]) Y⟩
def a4m (n : Nat) (ax1 : Big) (b1 : Big) : Option (Big × Int) :=
 (a2y n ax1).bind fun v1 =>
 (bif !v1 then
  some true
 else
  (a2y n b1).bind fun v5 =>
  some (!v5)).bind fun v2 =>
 bif v2 then
  some ((⟨0, []⟩ : Big), 1)
 else
  (a4k n ax1.Digits b1.Digits).bind fun v3 =>
  (a2w n (imul .i64 ax1.Sign b1.Sign) v3).bind fun v4 =>
  some (v4, 0)
theorem a4w (n : Nat) (ax1 : Big) (b1 : Big) (r : (Big × Int)) (hm : a4m n ax1 b1 = some r) {w : World} {F : Frz} (hs : Sat F w) {k m : Option Addr} {o p q s : Nat} (M : SlR (Rp.int .i64) F k o p ax1.Digits) (N : SlR (Rp.int .i64) F m q s b1.Digits) :
  Calls Tryz.prog 78 #[.agg #[.int .i64 ax1.Sign, .slice k o p], .agg #[.int .i64 b1.Sign, .slice m q s]] w fun e w' => ∃ v F' O', e = .returned v ∧ HS F w [] F' O' w' ∧ (∃ (a0_1 : Option Addr) (n0_1 : Nat) (c0_1 : Nat), v = .tuple #[.agg #[.int .i64 r.1.Sign, .slice a0_1 n0_1 c0_1], .int .i64 r.2] ∧ O' = [] ∧ SlR (Rp.int .i64) F' a0_1 n0_1 c0_1 r.1.Digits) := by
 unfold a4m at hm
 have h := HS.init hs
 refine a1a 26 Tryz.func78 Y Y Y (a0h (a0a (a2i Y Y Y Y h ?_)))
 intro b2 gg g4
 refine a2i Y Y Y Y g4 ?_
 intro b3 gh g5
 refine a1f ze35 Y Y Y g5 ?_
 intro b4 gi y
 refine a0b Y Y Y (a0g (a0c (a0h (a0h (a0a (a0m ag35 sz35 Y Y y Y (i := 2) Y Y ?_))))))
 obtain ⟨v1, g6, hm⟩ := Yb hm
 refine a0i ent98 Y Y Y Y y (a3b _ _ _ g6 y.sat M) ?_
 rintro _ g7 _ gj z t ⟨rfl, rfl⟩
 refine a3d Y Y Y (a0d Y Y Y ?_)
 obtain ⟨v2, g, hm⟩ := Yb hm
 refine a1z 4 (fun a w' => ∃ (u : Frz), Frz.le g7 u ∧ HS F w [] u [.box b4 35 [.int .i64 0, .slice none 0 0], .box b3 35 [.int .i64 b1.Sign, .slice m q s], .box b2 35 [.int .i64 ax1.Sign, .slice k o p]] w' ∧ Has 26 a [(2, .pointer (some ⟨b2, 0, none⟩)), (3, .pointer (some ⟨b3, 0, none⟩)), (4, .pointer (some ⟨b4, 0, none⟩)), (13, .bool v2)]) ?_ ?_
 rintro a gk ⟨u, Q, R, g2⟩
 refine a0z g2 (a0g (a0c ?_))
 rcases a0f hm with ⟨G, hm⟩ | ⟨G, hm⟩
 refine a0r 13 Y G (a0y Y (a0h (a0a (a1y (v := .agg #[.int .i64 0, .slice none 0 0]) Y Y Y (fun _ => by kernel_rfl) (a0s sz35 Y R Y Y Y Y (i := 0) Y Y Y Y ?_)))))
 intro gl T
 refine a0b Y Y Y (a0g (a0c (a1d (a0j (a1o (vl := [.agg #[.int .i64 0, .slice none 0 0], .int .i64 1]) Y ⟨a2d ag35 sz35 Y T Y (i := 0) Y, a1r Y, trivial⟩ (by simp) ?_)))))
 obtain rfl := Yo hm
 exact ⟨_, _, _, Y, T.Yp [] Y Y, none, 0, 0, Y, Y, SlR.nil _ _⟩
 refine a0r 13 Y G (a0q Y (a1c (a0c (a0h (a2l (SH u [.box b3 35 [.int .i64 b1.Sign, .slice m q s], .box b2 35 [.int .i64 ax1.Sign, .slice k o p]]) 13 Y (by kernel_rfl) R ?_)))))
 intro gm H
 have S0 := H.Ys Yf [1, 2] Y Y
 refine d_tk 0 Y (by kernel_rfl) Y Y Y Y S0 (fun _ _ _ _ _ => a0e fa35_0 Y Y Y Yn) (d_tk 1 Y (by kernel_rfl) Y Y Y Y S0 (fun _ _ _ _ hq => a0p ag3 Y Y hq Y (i := 1) Y Y Yn) (d_tk 2 Y (by kernel_rfl) Y Y Y Y S0 (fun _ _ _ _ _ => a0e fa35_0 Y Y Y Yn) (d_tk 3 Y (by kernel_rfl) Y Y Y Y S0 (fun _ _ _ _ hq => a0p ag3 Y Y hq Y (i := 0) Y Y Yn) (d_tk 4 Y (by kernel_rfl) Y Y Y Y S0 (fun _ _ _ _ _ => a0u Y Y Y Y Y Yn) (d_tk 5 Y (by kernel_rfl) Y Y Y Y S0 (fun _ _ _ _ _ => a0e fa35_1 Y Y Y Yn) (d_tk 6 Y (by kernel_rfl) Y Y Y Y S0 (fun _ _ _ _ hq => a0p ag28 Y Y hq Y (i := 1) Y Y Yn) ?_))))))
 refine d_tk 7 Y (by kernel_rfl) Y Y Y Y S0 (fun _ _ _ _ _ => a0e fa35_1 Y Y Y Yn) (d_tk 8 Y (by kernel_rfl) Y Y Y Y S0 (fun _ _ _ _ hq => a0p ag28 Y Y hq Y (i := 0) Y Y Yn) (a1b 9 Y (by kernel_rfl) ?_))
 obtain ⟨v3, g8, hm⟩ := Yb hm
 refine a0i ent117 Y Y Y Y H (b3a _ _ _ _ g8 H.sat ((M.mono z).mono Q) ((N.mono z).mono Q)) ?_
 rintro _ gn _ go x U ⟨gp, gq, gr, xss3, rfl, rfl, g9⟩
 refine a0w (U.Ys x [2, 3] Y Y) (a1b 10 Y (by kernel_rfl) ?_)
 obtain ⟨gs, I, V, hsx1⟩ := a1h U (i := 0) Y g9
 obtain ⟨v4, ga, hm⟩ := Yb hm
 refine a0i ent102 Y Y Y Y V (a4q _ _ _ _ ga V.sat hsx1) ?_
 rintro _ gt _ gu J K ⟨Z, g0, g1, rfl, rfl, gb⟩
 refine a0w (K.Ys ((x.trans I).trans J) [1, 2] Y Y) (a1b 11 Y (by kernel_rfl) (a0s sz35 Y K Y Y Y Y (i := 0) Y Y Y Y ?_))
 intro ge j
 refine a0w (j.Ys ((x.trans I).trans J) [1, 2] Y Y) (d_tk 12 Y (by kernel_rfl) Y Y Y Y (j.Ys ((x.trans I).trans J) [1, 2] Y Y) (fun _ _ _ _ _ => a0b Y Y Y Yn) (a2x (by kernel_rfl) (a0c (a1d (a1o (vl := [.agg #[.int .i64 v4.Sign, .slice Z g0 g1], .int .i64 0]) Y ⟨a2d ag35 sz35 Y j Y (i := 0) Y, a1r Y, trivial⟩ (by simp) ?_)))))
 obtain rfl := Yo hm
 exact ⟨_, _, _, Y, j.Yp [] Y Y, Z, g0, g1, Y, Y, gb⟩
 clear hm
 rcases a0f g with ⟨L, g⟩ | ⟨L, g⟩
 refine a1g 9 Y L (a0t Y (by decide) Y (a0t Y (by decide) Y (a0t Y (by decide) Y (a0n Y Y Y Y (a0g (a0o (fun a ha => ?_)))))))
 cases g
 exact ⟨_, Yf, t.Yp [0, 1, 2] Y Y, ha.cut (l := [2, 3, 4, 13]) Y⟩
 refine a1g 9 Y L (a0m ag35 sz35 Y Y t Y (i := 1) Y Y ?_)
 obtain ⟨v5, gc, g⟩ := Yb g
 refine a0i ent98 Y Y Y Y t (a3b _ _ _ gc t.sat (N.mono z)) ?_
 rintro _ gv _ gf gd g3 ⟨rfl, rfl⟩
 refine a3d Y Y Y (a0k Y Y Y Y (a0g (a0o (fun a ha => ?_))))
 cases g
 exact ⟨_, gd, g3.Yp [0, 1, 2] Y Y, ha.cut (l := [2, 3, 4, 13]) Y⟩
theorem ent132 : Ent Tryz.prog 132 := fun _ _ => by kernel_rfl
def b1i (n : Nat) (ax1 : Big) (b1 : Big) : Option (Big × Big × Int) :=
 (a2y n ax1).bind fun v1 =>
 (bif !v1 then
  some true
 else
  (a2y n b1).bind fun v11 =>
  some (!v11)).bind fun v2 =>
 bif v2 then
  some ((⟨0, []⟩ : Big), (⟨0, []⟩ : Big), 1)
 else
  bif b1.Sign == 0 then
   some ((⟨0, []⟩ : Big), (⟨0, []⟩ : Big), 14)
  else
   (a8p n ax1.Digits b1.Digits).bind fun v3 =>
   (bif decide (0 ≤ (imul .i64 ax1.Sign b1.Sign)) then
    some true
   else
    some ((v3.2.length : Int) == 0)).bind fun v4 =>
   bif v4 then
    (a2w n (imul .i64 ax1.Sign b1.Sign) v3.1).bind fun v5 =>
    (a2w n ax1.Sign v3.2).bind fun v6 =>
    some (v5, v6, 0)
   else
    (a8k n v3.1 [1]).bind fun v7 =>
    (a2w n (-1) v7).bind fun v8 =>
    (a3q n b1.Digits v3.2).bind fun v9 =>
    (a2w n b1.Sign v9).bind fun v10 =>
    some (v8, v10, 0)
theorem b8m (n : Nat) (ax1 : Big) (b1 : Big) (r : (Big × Big × Int)) (hm : b1i n ax1 b1 = some r) {w : World} {F : Frz} (hs : Sat F w) {J K : Option Addr} {L M N Q : Nat} (gu : SlR (Rp.int .i64) F J L M ax1.Digits) (g2 : SlR (Rp.int .i64) F K N Q b1.Digits) :
  Calls Tryz.prog 101 #[.agg #[.int .i64 ax1.Sign, .slice J L M], .agg #[.int .i64 b1.Sign, .slice K N Q]] w fun e w' => ∃ v F' O', e = .returned v ∧ HS F w [] F' O' w' ∧ (∃ (a0_1 : Option Addr) (n0_1 : Nat) (c0_1 : Nat) (a1_1 : Option Addr) (n1_1 : Nat) (c1_1 : Nat), v = .tuple #[.agg #[.int .i64 r.1.Sign, .slice a0_1 n0_1 c0_1], .agg #[.int .i64 r.2.1.Sign, .slice a1_1 n1_1 c1_1], .int .i64 r.2.2] ∧ O' = [] ∧ SlR (Rp.int .i64) F' a0_1 n0_1 c0_1 r.1.Digits ∧ SlR (Rp.int .i64) F' a1_1 n1_1 c1_1 r.2.1.Digits) := by
 unfold b1i at hm
 have h := HS.init hs
 refine a1a 65 Tryz.func101 Y Y Y (a0h (a0a (a2i Y Y Y Y h ?_)))
 intro b2 iy hd
 refine a2i Y Y Y Y hd ?_
 intro b3 iz he
 refine a1f ze35 Y Y Y he ?_
 intro b4 j0 hf
 refine a1f ze35 Y Y Y hf ?_
 intro b5 j1 g3
 refine a0b Y Y Y (a0g (a0c (a0h (a0h (a0a (a0m ag35 sz35 Y Y g3 Y (i := 3) Y Y ?_))))))
 obtain ⟨v1, hg, hm⟩ := Yb hm
 refine a0i ent98 Y Y Y Y g3 (a3b _ _ _ hg g3.sat gu) ?_
 rintro _ hh _ j2 g0 g1 ⟨rfl, rfl⟩
 refine a3d Y Y Y (a0d Y Y Y ?_)
 obtain ⟨v2, s, hm⟩ := Yb hm
 refine a1z 4 (fun a w' => ∃ (g4 : Frz), Frz.le hh g4 ∧ HS F w [] g4 [.box b5 35 [.int .i64 0, .slice none 0 0], .box b4 35 [.int .i64 0, .slice none 0 0], .box b3 35 [.int .i64 b1.Sign, .slice K N Q], .box b2 35 [.int .i64 ax1.Sign, .slice J L M]] w' ∧ Has 65 a [(2, .pointer (some ⟨b2, 0, none⟩)), (3, .pointer (some ⟨b3, 0, none⟩)), (4, .pointer (some ⟨b4, 0, none⟩)), (5, .pointer (some ⟨b5, 0, none⟩)), (16, .bool v2)]) ?_ ?_
 rintro a j3 ⟨g4, g5, t, h5⟩
 refine a0z h5 (a0g (a0c ?_))
 rcases a0f hm with ⟨g6, hm⟩ | ⟨g6, hm⟩
 refine a0r 16 Y g6 (a0y Y (a0h (a0a (a1y (v := .agg #[.int .i64 0, .slice none 0 0]) Y Y Y (fun _ => by kernel_rfl) (a1y (v := .agg #[.int .i64 0, .slice none 0 0]) Y Y Y (fun _ => by kernel_rfl) (a0s sz35 Y t Y Y Y Y (i := 1) Y Y Y Y ?_))))))
 intro j4 hi
 refine a0s sz35 Y hi Y Y Y Y (i := 0) Y Y Y Y ?_
 intro j5 g7
 refine a0b Y Y Y (a0g (a0c (a1d (a0j (a1o (vl := [.agg #[.int .i64 0, .slice none 0 0], .agg #[.int .i64 0, .slice none 0 0], .int .i64 1]) Y ⟨a2d ag35 sz35 Y g7 Y (i := 1) Y, a2d ag35 sz35 Y g7 Y (i := 0) Y, a1r Y, trivial⟩ (by simp) ?_)))))
 obtain rfl := Yo hm
 exact ⟨_, _, _, Y, g7.Yp [] Y Y, none, 0, 0, none, 0, 0, Y, Y, SlR.nil _ _, SlR.nil _ _⟩
 refine a0r 16 Y g6 (a0q Y (a1c (a0c (a0h (a0h (a0a (a0e fa35_0 Y Y Y (a0p ag3 Y Y t Y (i := 2) Y Y (a0u Y Y Y Y Y (a0g (a0c ?_)))))))))))
 rcases a0f hm with ⟨g8, hm⟩ | ⟨g8, hm⟩
 refine a0r 21 Y g8 (a0y Y (a0h (a0a (a1y (v := .agg #[.int .i64 0, .slice none 0 0]) Y Y Y (fun _ => by kernel_rfl) (a1y (v := .agg #[.int .i64 0, .slice none 0 0]) Y Y Y (fun _ => by kernel_rfl) (a0s sz35 Y t Y Y Y Y (i := 1) Y Y Y Y ?_))))))
 intro j6 hj
 refine a0s sz35 Y hj Y Y Y Y (i := 0) Y Y Y Y ?_
 intro i9 U
 refine a0b Y Y Y (a0g (a0c (a1d (a0j (a1o (vl := [.agg #[.int .i64 0, .slice none 0 0], .agg #[.int .i64 0, .slice none 0 0], .int .i64 14]) Y ⟨a2d ag35 sz35 Y U Y (i := 1) Y, a2d ag35 sz35 Y U Y (i := 0) Y, a1r Y, trivial⟩ (by simp) ?_)))))
 obtain rfl := Yo hm
 exact ⟨_, _, _, Y, U.Yp [] Y Y, none, 0, 0, none, 0, 0, Y, Y, SlR.nil _ _, SlR.nil _ _⟩
 refine a0r 21 Y g8 (a0q Y (a1c (a0c (a0h (a0a (a0e fa35_1 Y Y Y (a0p ag28 Y Y t Y (i := 3) Y Y (a0e fa35_1 Y Y Y (a0p ag28 Y Y t Y (i := 2) Y Y ?_)))))))))
 obtain ⟨v3, hk, hm⟩ := Yb hm
 refine a0i ent132 Y Y Y Y t (b7l _ _ _ _ hk t.sat ((gu.mono g0).mono g5) ((g2.mono g0).mono g5)) ?_
 rintro _ g9 _ h6 hl I ⟨hn, ho, hp, xss3, hr, ht, hu, rfl, rfl, gv, ga⟩
 refine a0d Y Y Y (a0l Y Y Y Y (a0l Y Y Y Y (a0b Y Y Y (a0b Y Y Y (a0g (a0c (a0h (a0h (a0a (a0e fa35_0 Y Y Y (a0p ag3 Y Y I Y (i := 4) Y Y (a0e fa35_0 Y Y Y (a0p ag3 Y Y I Y (i := 3) Y Y (a0u Y Y Y Y Y (a0u Y Y Y Y Y ?_)))))))))))))))
 refine a0d Y Y Y ?_
 obtain ⟨v4, R, hm⟩ := Yb hm
 refine a1z 4 (fun a w' => h6 = w' ∧ Has 65 a [(2, .pointer (some ⟨b2, 0, none⟩)), (3, .pointer (some ⟨b3, 0, none⟩)), (4, .pointer (some ⟨b4, 0, none⟩)), (5, .pointer (some ⟨b5, 0, none⟩)), (7, .slice hn ho hp), (8, .slice hr ht hu), (42, .bool v4)]) ?_ ?_
 rintro a ia ⟨rfl, h7⟩
 refine a0z h7 (a0g (a0c ?_))
 rcases a0f hm with ⟨gb, hm⟩ | ⟨gb, hm⟩
 refine a0r 42 Y gb (a0y Y (a0h (a2l (SH g9 [.box b3 35 [.int .i64 b1.Sign, .slice K N Q], .box b2 35 [.int .i64 ax1.Sign, .slice J L M]]) 14 Y (by kernel_rfl) I ?_)))
 intro ib gc
 have S0 := gc.Ys Yf [3, 4] Y Y
 refine d_tk 0 Y (by kernel_rfl) Y Y Y Y S0 (fun _ _ _ _ _ => a0e fa35_0 Y Y Y Yn) (d_tk 1 Y (by kernel_rfl) Y Y Y Y S0 (fun _ _ _ _ hq => a0p ag3 Y Y hq Y (i := 1) Y Y Yn) (d_tk 2 Y (by kernel_rfl) Y Y Y Y S0 (fun _ _ _ _ _ => a0e fa35_0 Y Y Y Yn) (d_tk 3 Y (by kernel_rfl) Y Y Y Y S0 (fun _ _ _ _ hq => a0p ag3 Y Y hq Y (i := 0) Y Y Yn) (d_tk 4 Y (by kernel_rfl) Y Y Y Y S0 (fun _ _ _ _ _ => a0u Y Y Y Y Y Yn) (d_tk 5 Y (by kernel_rfl) Y Y Y Y S0 (fun _ _ _ _ _ => a0d Y Y Y Yn) (d_tk 7 Y (by kernel_rfl) Y Y Y Y S0 (fun _ _ _ _ _ => a0e fa35_0 Y Y Y Yn) ?_))))))
 refine d_tk 8 Y (by kernel_rfl) Y Y Y Y S0 (fun _ _ _ _ hq => a0p ag3 Y Y hq Y (i := 1) Y Y Yn) (d_tk 9 Y (by kernel_rfl) Y Y Y Y S0 (fun _ _ _ _ _ => a0d Y Y Y Yn) (a1b 6 Y (by kernel_rfl) ?_))
 obtain ⟨j7, G, gd, hsx1⟩ := a1h gc (i := 0) Y gv
 obtain ⟨v5, hv, hm⟩ := Yb hm
 refine a0i ent102 Y Y Y Y gd (a4q _ _ _ _ hv gd.sat hsx1) ?_
 rintro _ j8 _ ic H V ⟨gw, gx, gy, rfl, rfl, hw⟩
 refine a0w (V.Ys (G.trans H) [2, 3] Y Y) (a1b 10 Y (by kernel_rfl) ?_)
 obtain ⟨v6, hx, hm⟩ := Yb hm
 refine a0i ent102 Y Y Y Y V (a4q _ _ _ _ hx V.sat ((ga.mono G).mono H)) ?_
 rintro _ j9 _ id T ge ⟨gz, h0, h1, rfl, rfl, hy⟩
 refine a0w (ge.Ys ((G.trans H).trans T) [2, 3] Y Y) (a1b 11 Y (by kernel_rfl) (a0s sz35 Y ge Y Y Y Y (i := 1) Y Y Y Y ?_))
 intro ie gf
 refine a0w (gf.Ys ((G.trans H).trans T) [2, 3] Y Y) (a1b 12 Y (by kernel_rfl) (a0s sz35 Y gf Y Y Y Y (i := 0) Y Y Y Y ?_))
 intro ig u
 refine a0w (u.Ys ((G.trans H).trans T) [2, 3] Y Y) (d_tk 13 Y (by kernel_rfl) Y Y Y Y (u.Ys ((G.trans H).trans T) [2, 3] Y Y) (fun _ _ _ _ _ => a0b Y Y Y Yn) (a2x (by kernel_rfl) (a0c (a1d (a0j (a1o (vl := [.agg #[.int .i64 v5.Sign, .slice gw gx gy], .agg #[.int .i64 v6.Sign, .slice gz h0 h1], .int .i64 0]) Y ⟨a2d ag35 sz35 Y u Y (i := 1) Y, a2d ag35 sz35 Y u Y (i := 0) Y, a1r Y, trivial⟩ (by simp) ?_))))))
 obtain rfl := Yo hm
 exact ⟨_, _, _, Y, u.Yp [] Y Y, gw, gx, gy, gz, h0, h1, Y, Y, (hw.mono T), hy⟩
 refine a0r 42 Y gb (a0q Y (a1c (a0c (a0h (a2l (SH g9 [.box b3 35 [.int .i64 b1.Sign, .slice K N Q], .box b2 35 [.int .i64 ax1.Sign, .slice J L M]]) 14 Y (by kernel_rfl) I ?_)))))
 intro ih gg
 have S1 := gg.Ys Yf [3, 4] Y Y
 refine d_tk 0 Y (by kernel_rfl) Y Y Y Y S1 (fun _ _ _ _ _ => a0d Y Y Y Yn) (d_tk 4 Y (by kernel_rfl) Y Y Y Y S1 (fun _ _ _ _ _ => a0e fa35_0 Y Y Y Yn) (d_tk 5 Y (by kernel_rfl) Y Y Y Y S1 (fun _ _ _ _ hq => a0p ag3 Y Y hq Y (i := 0) Y Y Yn) (d_tk 6 Y (by kernel_rfl) Y Y Y Y S1 (fun _ _ _ _ _ => a0e fa35_1 Y Y Y Yn) (d_tk 7 Y (by kernel_rfl) Y Y Y Y S1 (fun _ _ _ _ hq => a0p ag28 Y Y hq Y (i := 0) Y Y Yn) (d_tk 8 Y (by kernel_rfl) Y Y Y Y S1 (fun _ _ _ _ _ => a0d Y Y Y Yn) (a1b 1 Y (by kernel_rfl) ?_))))))
 refine a1v (e := 3) (cs := [.int .i64 1]) (q := 1) Y Y gg Y (fun _ => by kernel_rfl) Y Y ?_
 intro b6 ii gh
 refine a0w (gh.Ys Yf [4, 5] Y Y) (a1b 2 Y (by kernel_rfl) ?_)
 obtain ⟨ja, k, h8, hsx2⟩ := a1h gh (i := 1) Y gv
 obtain ⟨jb, m, gi, hsx3⟩ := a1h h8 (i := 0) Y ((show RowN (Rp.int .i64) g9 1 [.int .i64 1] [1] from ⟨Y, ⟨_, _, Y, Y, (Y : RowR (Rp.int .i64) _ [] [])⟩⟩).mono k)
 obtain ⟨v7, hz, hm⟩ := Yb hm
 refine a0i ent133 Y Y Y Y gi (b7c _ _ _ _ hz gi.sat (hsx2.mono m) hsx3) ?_
 rintro _ jc _ ij o gj ⟨jd, je, jf, xss7, rfl, rfl, i0⟩
 refine a0w (gj.Ys ((k.trans m).trans o) [3, 4] Y Y) (a1b 3 Y (by kernel_rfl) ?_)
 obtain ⟨ik, g, gk, hsx4⟩ := a1h gj (i := 0) Y i0
 obtain ⟨v8, i1, hm⟩ := Yb hm
 refine a0i ent102 Y Y Y Y gk (a4q _ _ _ _ i1 gk.sat hsx4) ?_
 rintro _ il _ im j Z ⟨h2, h3, h4, rfl, rfl, i2⟩
 refine a0w (Z.sh ((((k.trans m).trans o).trans g).trans j) [2, 3] (by decide) Y) (a1b 9 Y (by kernel_rfl) ?_)
 have i3 := ((((((g0.trans g5).trans hl).trans k).trans m).trans o).trans g).trans j
 have i4 := (((k.trans m).trans o).trans g).trans j
 obtain ⟨v9, i5, hm⟩ := Yb hm
 refine a0i ent134 Y Y Y Y Z (b1c _ _ _ _ i5 Z.sat (g2.mono i3) (ga.mono i4)) ?_
 rintro _ io _ ip p gl ⟨jg, jh, ji, xss9, rfl, rfl, i6⟩
 refine a0w (gl.sh (((((k.trans m).trans o).trans g).trans j).trans p) [3, 4] (by decide) Y) (a1b 10 Y (by kernel_rfl) ?_)
 obtain ⟨iq, x, gm, hsx5⟩ := a1h gl (i := 0) Y i6
 obtain ⟨v10, i7, hm⟩ := Yb hm
 refine a0i ent102 Y Y Y Y gm (a4q _ _ _ _ i7 gm.sat hsx5) ?_
 rintro _ ir _ it y gn ⟨go, gp, gq, rfl, rfl, h9⟩
 refine a0w (gn.sh (((((((k.trans m).trans o).trans g).trans j).trans p).trans x).trans y) [2, 3] (by decide) Y) (a1b 11 Y (by kernel_rfl) (a0s sz35 Y gn Y Y Y Y (i := 1) Y Y Y Y ?_))
 intro iu gr
 refine a0w (gr.sh (((((((k.trans m).trans o).trans g).trans j).trans p).trans x).trans y) [2, 3] (by decide) Y) (a1b 12 Y (by kernel_rfl) (a0s sz35 Y gr Y Y Y Y (i := 0) Y Y Y Y ?_))
 intro iv z
 refine a0w (z.sh (((((((k.trans m).trans o).trans g).trans j).trans p).trans x).trans y) [2, 3] (by decide) Y) (d_tk 13 Y (by kernel_rfl) Y Y Y Y (z.sh (((((((k.trans m).trans o).trans g).trans j).trans p).trans x).trans y) [2, 3] (by decide) Y) (fun _ _ _ _ _ => a0b Y Y Y Yn) (a2x (by kernel_rfl) (a0c (a1d (a1o (vl := [.agg #[.int .i64 v8.Sign, .slice h2 h3 h4], .agg #[.int .i64 v10.Sign, .slice go gp gq], .int .i64 0]) Y ⟨a2d ag35 sz35 Y z Y (i := 1) Y, a2d ag35 sz35 Y z Y (i := 0) Y, a1r Y, trivial⟩ (by simp) ?_)))))
 obtain rfl := Yo hm
 exact ⟨_, _, _, Y, z.Yp [] Y Y, h2, h3, h4, go, gp, gq, Y, Y, (((i2.mono p).mono x).mono y), h9⟩
 clear hm
 rcases a0f R with ⟨gs, R⟩ | ⟨gs, R⟩
 refine a1g 38 Y gs (a0t Y (by decide) Y (a0t Y (by decide) Y (a0t Y (by decide) Y (a0n Y Y Y Y (a0g (a0o (fun a ha => ?_)))))))
 cases R
 exact ⟨Y, ha.cut (l := [2, 3, 4, 5, 7, 8, 42]) Y⟩
 refine a1g 38 Y gs (a0d Y Y Y (a1x ga.len u28 Y Y Y (a0u Y Y Y Y Y (a0k Y Y Y Y (a0g (a0o (fun a ha => ?_)))))))
 cases R
 exact ⟨Y, ha.cut (l := [2, 3, 4, 5, 7, 8, 42]) Y⟩
 clear hm
 rcases a0f s with ⟨gt, s⟩ | ⟨gt, s⟩
 refine a1g 12 Y gt (a0t Y (by decide) Y (a0t Y (by decide) Y (a0t Y (by decide) Y (a0n Y Y Y Y (a0g (a0o (fun a ha => ?_)))))))
 cases s
 exact ⟨_, Yf, g1.Yp [0, 1, 2, 3] Y Y, ha.cut (l := [2, 3, 4, 5, 16]) Y⟩
 refine a1g 12 Y gt (a0m ag35 sz35 Y Y g1 Y (i := 2) Y Y ?_)
 obtain ⟨v11, i8, s⟩ := Yb s
 refine a0i ent98 Y Y Y Y g1 (a3b _ _ _ i8 g1.sat (g2.mono g0)) ?_
 rintro _ iw _ ix hb hc ⟨rfl, rfl⟩
 refine a3d Y Y Y (a0k Y Y Y Y (a0g (a0o (fun a ha => ?_))))
 cases s
 exact ⟨_, hb, hc.Yp [0, 1, 2, 3] Y Y, ha.cut (l := [2, 3, 4, 5, 16]) Y⟩
def a6m (n : Nat) (kont1 : (List Int) → Option (Big × Int)) : Nat → (List Int) → (List Int) → Option (Big × Int)
 | 0, _, _ => none
 | mx1 + 1, x1, y1 =>
  bif decide (0 < (y1.length : Int)) then
   (a8p n x1 y1).bind fun v4 =>
   a6m n kont1 mx1 y1 v4.2
  else
   kont1 x1
theorem c2e (n : Nat) (kont1 : (List Int) → Option (Big × Int)) (mx1 : Nat) (x1 : (List Int)) (y1 : (List Int)) : a6m n kont1 (mx1 + 1) x1 y1 =
  bif decide (0 < (y1.length : Int)) then
   (a8p n x1 y1).bind fun v4 =>
   a6m n kont1 mx1 y1 v4.2
  else
   kont1 x1 := rfl
def b2e (n : Nat) (ax1 : Big) (b1 : Big) : Option (Big × Int) :=
 (a2y n ax1).bind fun v1 =>
 (bif !v1 then
  some true
 else
  (a2y n b1).bind fun v5 =>
  some (!v5)).bind fun v2 =>
 bif v2 then
  some ((⟨0, []⟩ : Big), 1)
 else
  a6m n (fun (x2 : (List Int)) =>
   (a2w n 1 x2).bind fun v3 =>
   some (v3, 0)) n ax1.Digits b1.Digits
theorem b8s (n : Nat) (ax1 : Big) (b1 : Big) (r : (Big × Int)) (hm : b2e n ax1 b1 = some r) {w : World} {F : Frz} (hs : Sat F w) {o p : Option Addr} {q t u x : Nat} (g6 : SlR (Rp.int .i64) F o q t ax1.Digits) (g7 : SlR (Rp.int .i64) F p u x b1.Digits) :
  Calls Tryz.prog 100 #[.agg #[.int .i64 ax1.Sign, .slice o q t], .agg #[.int .i64 b1.Sign, .slice p u x]] w fun e w' => ∃ v F' O', e = .returned v ∧ HS F w [] F' O' w' ∧ (∃ (a0_1 : Option Addr) (n0_1 : Nat) (c0_1 : Nat), v = .tuple #[.agg #[.int .i64 r.1.Sign, .slice a0_1 n0_1 c0_1], .int .i64 r.2] ∧ O' = [] ∧ SlR (Rp.int .i64) F' a0_1 n0_1 c0_1 r.1.Digits) := by
 unfold b2e at hm
 have h := HS.init hs
 refine a1a 36 Tryz.func100 Y Y Y (a0h (a0a (a2i Y Y Y Y h ?_)))
 intro b2 h5 gn
 refine a2i Y Y Y Y gn ?_
 intro b3 h6 go
 refine a1f ze35 Y Y Y go ?_
 intro b4 h7 R
 refine a0b Y Y Y (a0g (a0c (a0h (a0h (a0a (a0m ag35 sz35 Y Y R Y (i := 2) Y Y ?_))))))
 obtain ⟨v1, gp, hm⟩ := Yb hm
 refine a0i ent98 Y Y Y Y R (a3b _ _ _ gp R.sat g6) ?_
 rintro _ gq _ h8 T z ⟨rfl, rfl⟩
 refine a3d Y Y Y (a0d Y Y Y ?_)
 obtain ⟨v2, g, hm⟩ := Yb hm
 refine a1z 4 (fun a w' => ∃ (j : Frz), Frz.le gq j ∧ HS F w [] j [.box b4 35 [.int .i64 0, .slice none 0 0], .box b3 35 [.int .i64 b1.Sign, .slice p u x], .box b2 35 [.int .i64 ax1.Sign, .slice o q t]] w' ∧ Has 36 a [(2, .pointer (some ⟨b2, 0, none⟩)), (3, .pointer (some ⟨b3, 0, none⟩)), (4, .pointer (some ⟨b4, 0, none⟩)), (17, .bool v2)]) ?_ ?_
 rintro a h9 ⟨j, g8, G, gh⟩
 refine a0z gh (a0g (a0c ?_))
 rcases a0f hm with ⟨U, hm⟩ | ⟨U, hm⟩
 refine a0r 17 Y U (a0y Y (a0h (a0a (a1y (v := .agg #[.int .i64 0, .slice none 0 0]) Y Y Y (fun _ => by kernel_rfl) (a0s sz35 Y G Y Y Y Y (i := 0) Y Y Y Y ?_)))))
 intro hb g9
 refine a0b Y Y Y (a0g (a0c (a1d (a0j (a1o (vl := [.agg #[.int .i64 0, .slice none 0 0], .int .i64 1]) Y ⟨a2d ag35 sz35 Y g9 Y (i := 0) Y, a1r Y, trivial⟩ (by simp) ?_)))))
 obtain rfl := Yo hm
 exact ⟨_, _, _, Y, g9.Yp [] Y Y, none, 0, 0, Y, Y, SlR.nil _ _⟩
 refine a0r 17 Y U (a0q Y (a1c (a0c (a0h (a0a (a0e fa35_1 Y Y Y (a0p ag28 Y Y G Y (i := 2) Y Y (a0b Y Y Y (a0g (a0c (a0h (a0a (a0e fa35_1 Y Y Y (a0p ag28 Y Y G Y (i := 1) Y Y ?_))))))))))))))
 refine a0b Y Y Y (a0g (a0c (a0h (a1i ?_))))
 intro a gi
 obtain ⟨kont1, hkont1⟩ : ∃ kont1 : (List Int) → Option (Big × Int), kont1 = (fun (x2 : (List Int)) => (a2w n 1 x2).bind fun v3 => some (v3, 0)) := ⟨_, Y⟩
 replace hm : (fun m (s : (List Int) × (List Int)) => a6m n kont1 m s.1 s.2) n (ax1.Digits, b1.Digits) = some r := by rw [hkont1]; exact hm
 refine a5p (id := 0) (fun m (s : (List Int) × (List Int)) => a6m n kont1 m s.1 s.2) (fun (y : (List Int)) => kont1 y) r (fun (s : (List Int) × (List Int)) a w' => ∃ (k : Frz) (H : Option Addr) (I : Nat) (J : Nat) (L : Option Addr) (M : Nat) (N : Nat), Frz.le j k ∧ HS F w [] k [.box b4 35 [.int .i64 0, .slice none 0 0]] w' ∧ (SlR (Rp.int .i64) k H I J s.1) ∧ (SlR (Rp.int .i64) k L M N s.2) ∧ Has 36 a [(4, .pointer (some ⟨b4, 0, none⟩)), (6, .slice H I J), (7, .slice L M N)]) (fun (y : (List Int)) a w' => ∃ (Q : Frz) (V : Option Addr) (Z : Nat) (g0 : Nat), Frz.le j Q ∧ HS F w [] Q [.box b4 35 [.int .i64 0, .slice none 0 0]] w' ∧ (SlR (Rp.int .i64) Q V Z g0 y) ∧ Has 36 a [(4, .pointer (some ⟨b4, 0, none⟩)), (6, .slice V Z g0)]) (fun _ => Y) ?_ ?_ hm ⟨_, o, q, t, p, u, x, Yf, G.Yp [0] Y Y, ((g6.mono T).mono g8), ((g7.mono T).mono g8), gi.cut (l := [4, 6, 7]) Y⟩
 clear hm; rintro x2 a hc hm ⟨Q, V, Z, g0, hd, ga, gr, gj⟩
 rw [hkont1] at hm
 replace hm := hm
 refine a2g (e := .exit 0) gj (a1k (a0c (a0h (a0a (a0d Y Y Y ?_)))))
 obtain ⟨v3, gs, hm⟩ := Yb hm
 refine a0i ent102 Y Y Y Y ga (a4q _ _ _ _ gs ga.sat gr) ?_
 rintro _ he _ hf hg gt ⟨gb, gc, gd, rfl, rfl, gu⟩
 refine a0s sz35 Y gt Y Y Y Y (i := 0) Y Y Y Y ?_
 intro hh g1
 refine a0b Y Y Y (a0g (a0c (a1d (a1o (vl := [.agg #[.int .i64 v3.Sign, .slice gb gc gd], .int .i64 0]) Y ⟨a2d ag35 sz35 Y g1 Y (i := 0) Y, a1r Y, trivial⟩ (by simp) ?_))))
 obtain rfl := Yo hm
 exact ⟨_, _, _, Y, g1.Yp [] Y Y, gb, gc, gd, Y, Y, gu⟩
 clear hm hkont1; intro hk1 mx1 K ihx1
 rintro ⟨x1, y1⟩ a h2 hm ⟨k, H, I, J, L, M, N, ge, g2, gf, g3, gk⟩
 simp only [c2e] at hm
 refine a1n gk (a0h (a0h (a0a (a0d Y Y Y (a1x g3.len u28 Y Y Y (a0u Y Y Y Y Y (a0g (a0c ?_))))))))
 rcases a0f hm with ⟨g4, hm⟩ | ⟨g4, hm⟩
 refine a0r 25 Y g4 (a0y Y (a1c (a0c (a1i (a0h (a0a (a0d Y Y Y (a0d Y Y Y ?_))))))))
 obtain ⟨v4, gv, hm⟩ := Yb hm
 refine a0i ent132 Y Y Y Y g2 (b7l _ _ _ _ gv g2.sat gf g3) ?_
 rintro _ hi _ h3 gg gl ⟨hj, hk, hl, xss7, gw, gx, gy, rfl, rfl, hn, gz⟩
 refine a0d Y Y Y (a0l Y Y Y Y (a0l Y Y Y Y (a0b Y Y Y (a0b Y Y Y (a0g (a0c (a0h (a0a (a0d Y Y Y (a0b Y Y Y (a0g (a0c (a0a (a0d Y Y Y (a0b Y Y Y (a0g (a1q (a0o (fun a ha => ihx1 (y1, v4.2) a _ hm ?_)))))))))))))))))))
 exact ⟨_, L, M, N, gw, gx, gy, (ge.trans gg), gl.Yp [1] Y Y, (g3.mono gg), gz, ha.cut (l := [4, 6, 7]) Y⟩
 refine a0r 25 Y g4 (a0q Y (a3p (a0x (a0x (fun a ha => hk1 x1 a _ hm ?_)))))
 exact ⟨_, H, I, J, ge, g2.Yp [0] Y Y, gf, ha.cut (l := [4, 6]) Y⟩
 clear hm
 rcases a0f g with ⟨g5, g⟩ | ⟨g5, g⟩
 refine a1g 13 Y g5 (a0t Y (by decide) Y (a0t Y (by decide) Y (a0t Y (by decide) Y (a0n Y Y Y Y (a0g (a0o (fun a ha => ?_)))))))
 cases g
 exact ⟨_, Yf, z.Yp [0, 1, 2] Y Y, ha.cut (l := [2, 3, 4, 17]) Y⟩
 refine a1g 13 Y g5 (a0m ag35 sz35 Y Y z Y (i := 1) Y Y ?_)
 obtain ⟨v5, h0, g⟩ := Yb g
 refine a0i ent98 Y Y Y Y z (a3b _ _ _ h0 z.sat (g7.mono T)) ?_
 rintro _ ho _ h4 h1 gm ⟨rfl, rfl⟩
 refine a3d Y Y Y (a0k Y Y Y Y (a0g (a0o (fun a ha => ?_))))
 cases g
 exact ⟨_, h1, gm.Yp [0, 1, 2] Y Y, ha.cut (l := [2, 3, 4, 17]) Y⟩
end Go.Proofs.YtknpjecpcmajiaaGreat.M

namespace Go.Proofs.YtknpjecpcmajiaaGreat.M
open Go Go.RowKit Rt
theorem ent100 : Ent Tryz.prog 100 := fun _ _ => by kernel_rfl
theorem ent59 : Ent Tryz.prog 59 := fun _ _ => by kernel_rfl
theorem ent79 : Ent Tryz.prog 79 := fun _ _ => by kernel_rfl
def a2z (n : Nat) (f1 : Frac) : Option Bool :=
 (a2y n f1.P).bind fun v1 =>
 (bif !v1 then
  some true
 else
  (a2y n f1.Q).bind fun v7 =>
  some (!v7)).bind fun v2 =>
 (bif v2 then
  some true
 else
  some (decide (f1.Q.Sign < 1))).bind fun v3 =>
 bif v3 then
  some false
 else
  (b2e n f1.P f1.Q).bind fun v4 =>
  (b2v n 1).bind fun v5 =>
  (a8g n v4.1 v5).bind fun v6 =>
  some (v6 == 0)
theorem a3a (n : Nat) (f1 : Frac) (r : Bool) (hm : a2z n f1 = some r) {w : World} {F : Frz} (hs : Sat F w) {j k : Option Addr} {m o p q : Nat} (M : SlR (Rp.int .i64) F j m o f1.P.Digits) (N : SlR (Rp.int .i64) F k p q f1.Q.Digits) :
  Calls Tryz.prog 74 #[.agg #[.int .i64 f1.P.Sign, .slice j m o, .int .i64 f1.Q.Sign, .slice k p q]] w fun e w' => ∃ v F' O', e = .returned v ∧ HS F w [] F' O' w' ∧ (v = .bool r ∧ O' = []) := by
 unfold a2z at hm
 have h := HS.init hs
 refine a1a 33 Tryz.func74 Y Y Y (a0h (a0a (a2i Y Y Y Y h ?_)))
 intro b1 gk x
 refine a0b Y Y Y (a0g (a0c (a0h (a0h (a0a (a0e fa37_0 Y Y Y (a1u (cs' := [.int .i64 f1.P.Sign, .slice j m o]) ag35 sz35 Y Y x Y (i := 0) Y Y Y ?_)))))))
 obtain ⟨v1, g0, hm⟩ := Yb hm
 refine a0i ent98 Y Y Y Y x (a3b _ _ _ g0 x.sat M) ?_
 rintro _ g1 _ gl y u ⟨rfl, rfl⟩
 refine a3d Y Y Y (a0d Y Y Y ?_)
 obtain ⟨v2, g, hm⟩ := Yb hm
 refine a1z 5 (fun a w' => ∃ (z : Frz), Frz.le g1 z ∧ HS F w [] z [.box b1 37 [.int .i64 f1.P.Sign, .slice j m o, .int .i64 f1.Q.Sign, .slice k p q]] w' ∧ Has 33 a [(1, .pointer (some ⟨b1, 0, none⟩)), (14, .bool v2)]) ?_ ?_
 rintro a g2 ⟨z, R, s, U⟩
 refine a0z U (a0d Y Y Y ?_)
 obtain ⟨v3, t, hm⟩ := Yb hm
 refine a1z 5 (fun a w' => g2 = w' ∧ Has 33 a [(1, .pointer (some ⟨b1, 0, none⟩)), (20, .bool v3)]) ?_ ?_
 rintro a gm ⟨rfl, V⟩
 refine a0z V (a0g (a0c ?_))
 rcases a0f hm with ⟨G, hm⟩ | ⟨G, hm⟩
 refine a0r 20 Y G (a0y Y (a0h (a0a (a0b Y Y Y (a0g (a0c (a1d (a0j (a1j Y Y ?_)))))))))
 obtain rfl := Yo hm
 exact ⟨_, _, _, Y, s.Yp [] Y Y, Y, Y⟩
 refine a0r 20 Y G (a0q Y (a1c (a0c (a0h (a0a (a0e fa37_0 Y Y Y (a1u (cs' := [.int .i64 f1.P.Sign, .slice j m o]) ag35 sz35 Y Y s Y (i := 0) Y Y Y (a0e fa37_1 Y Y Y (a1u (cs' := [.int .i64 f1.Q.Sign, .slice k p q]) ag35 sz35 Y Y s Y (i := 0) Y Y Y ?_)))))))))
 obtain ⟨v4, g3, hm⟩ := Yb hm
 refine a0i ent100 Y Y Y Y s (b8s _ _ _ _ g3 s.sat ((M.mono y).mono R) ((N.mono y).mono R)) ?_
 rintro _ g4 _ gn go g5 ⟨g6, g7, g8, rfl, rfl, g9⟩
 refine a0d Y Y Y (a0l Y Y Y Y (a0l Y Y Y Y (a1f ze35 Y Y Y g5 ?_)))
 intro b2 gp ga
 refine a0s sz35 Y ga Y Y Y Y (i := 0) Y Y Y Y ?_
 intro gq gb
 refine a0b Y Y Y (a0g (a0c (a0h (a2l (SH g4 [.box b2 35 [.int .i64 v4.1.Sign, .slice g6 g7 g8], .box b1 37 [.int .i64 f1.P.Sign, .slice j m o, .int .i64 f1.Q.Sign, .slice k p q]]) 5 Y (by kernel_rfl) gb ?_))))
 intro gr H
 refine d_tk 0 Y (by kernel_rfl) Y Y Y Y (H.Ys Yf [0, 1] Y Y) (fun _ _ _ _ hq => a0m ag35 sz35 Y Y hq Y (i := 0) Y Y Yn) (a1b 1 Y (by kernel_rfl) ?_)
 obtain ⟨v5, gc, hm⟩ := Yb hm
 refine a0i ent59 Y Y Y Y H (b6s _ _ _ gc H.sat) ?_
 rintro _ gs _ gt I J ⟨gu, gv, gw, rfl, rfl, gd⟩
 refine a0w (J.Ys I [0, 1] Y Y) (a1b 2 Y (by kernel_rfl) ?_)
 obtain ⟨v6, ge, hm⟩ := Yb hm
 refine a0i ent79 Y Y Y Y J (b4h _ _ _ _ ge J.sat (g9.mono I) gd) ?_
 rintro _ gx _ gi gf T ⟨rfl, rfl⟩
 have S0 := T.Ys (I.trans gf) [0, 1] Y Y
 refine a0w S0 (d_tk 3 Y (by kernel_rfl) Y Y Y Y S0 (fun _ _ _ _ _ => a0u Y Y Y Y Y Yn) (d_tk 4 Y (by kernel_rfl) Y Y Y Y S0 (fun _ _ _ _ _ => a0b Y Y Y Yn) (a2x (by kernel_rfl) (a0c (a1d (a1j Y Y ?_))))))
 obtain rfl := Yo hm
 exact ⟨_, _, _, Y, T.Yp [] Y Y, Y, Y⟩
 clear hm
 rcases a0f t with ⟨K, t⟩ | ⟨K, t⟩
 refine a1g 15 Y K (a0t Y (by decide) Y (a0t Y (by decide) Y (a0t Y (by decide) Y (a0t Y (by decide) Y (a0n Y Y Y Y (a0g (a0o (fun a ha => ?_))))))))
 cases t
 exact ⟨Y, ha.cut (l := [1, 20]) Y⟩
 refine a1g 15 Y K (a0e fa37_1 Y Y Y (a0e fa35_0 Y Y Y (a0p ag3 Y Y s Y (i := 0) Y Y (a0u Y Y Y Y Y (a0k Y Y Y Y (a0g (a0o (fun a ha => ?_))))))))
 cases t
 exact ⟨Y, ha.cut (l := [1, 20]) Y⟩
 clear hm
 rcases a0f g with ⟨L, g⟩ | ⟨L, g⟩
 refine a1g 9 Y L (a0t Y (by decide) Y (a0t Y (by decide) Y (a0t Y (by decide) Y (a0t Y (by decide) Y (a0n Y Y Y Y (a0g (a0o (fun a ha => ?_))))))))
 cases g
 exact ⟨_, Yf, u.Yp [0] Y Y, ha.cut (l := [1, 14]) Y⟩
 refine a1g 9 Y L (a0e fa37_1 Y Y Y (a1u (cs' := [.int .i64 f1.Q.Sign, .slice k p q]) ag35 sz35 Y Y u Y (i := 0) Y Y Y ?_))
 obtain ⟨v7, gg, g⟩ := Yb g
 refine a0i ent98 Y Y Y Y u (a3b _ _ _ gg u.sat (N.mono y)) ?_
 rintro _ gy _ gj gh Z ⟨rfl, rfl⟩
 refine a3d Y Y Y (a0k Y Y Y Y (a0g (a0o (fun a ha => ?_))))
 cases g
 exact ⟨_, gh, Z.Yp [0] Y Y, ha.cut (l := [1, 14]) Y⟩
theorem ent101 : Ent Tryz.prog 101 := fun _ _ => by kernel_rfl
def b0j (n : Nat) (p1 : Big) (q1 : Big) : Option (Frac × Int) :=
 (a2y n p1).bind fun v1 =>
 (bif !v1 then
  some true
 else
  (a2y n q1).bind fun v8 =>
  some (!v8)).bind fun v2 =>
 bif v2 then
  some ((⟨(⟨0, []⟩ : Big), (⟨0, []⟩ : Big)⟩ : Frac), 1)
 else
  bif q1.Sign == 0 then
   some ((⟨(⟨0, []⟩ : Big), (⟨0, []⟩ : Big)⟩ : Frac), 14)
  else
   (bif decide (q1.Sign < 0) then
    (b2h n p1).bind fun v6 =>
    (b2h n q1).bind fun v7 =>
    some (v7.Sign, v7.Digits, v6.Sign, v6.Digits)
   else
    some (q1.Sign, q1.Digits, p1.Sign, p1.Digits)).bind fun (f1, f2, f3, f4) =>
   (b2e n (⟨f3, f4⟩ : Big) (⟨f1, f2⟩ : Big)).bind fun v3 =>
   (b1i n (⟨f3, f4⟩ : Big) v3.1).bind fun v4 =>
   (b1i n (⟨f1, f2⟩ : Big) v3.1).bind fun v5 =>
   some ((⟨v4.1, v5.1⟩ : Frac), 0)
theorem b1e (n : Nat) (p1 : Big) (q1 : Big) (r : (Frac × Int)) (hm : b0j n p1 q1 = some r) {w : World} {F : Frz} (hs : Sat F w) {u x : Option Addr} {y z G H : Nat} (M : SlR (Rp.int .i64) F u y z p1.Digits) (N : SlR (Rp.int .i64) F x G H q1.Digits) :
  Calls Tryz.prog 58 #[.agg #[.int .i64 p1.Sign, .slice u y z], .agg #[.int .i64 q1.Sign, .slice x G H]] w fun e w' => ∃ v F' O', e = .returned v ∧ HS F w [] F' O' w' ∧ (∃ (a0_1 : Option Addr) (n0_1 : Nat) (c0_1 : Nat) (a0_3 : Option Addr) (n0_3 : Nat) (c0_3 : Nat), v = .tuple #[.agg #[.int .i64 r.1.P.Sign, .slice a0_1 n0_1 c0_1, .int .i64 r.1.Q.Sign, .slice a0_3 n0_3 c0_3], .int .i64 r.2] ∧ O' = [] ∧ SlR (Rp.int .i64) F' a0_1 n0_1 c0_1 r.1.P.Digits ∧ SlR (Rp.int .i64) F' a0_3 n0_3 c0_3 r.1.Q.Digits) := by
 unfold b0j at hm
 have h := HS.init hs
 refine a1a 57 Tryz.func58 Y Y Y (a0h (a0a (a2i Y Y Y Y h ?_)))
 intro b1 i9 h9
 refine a2i Y Y Y Y h9 ?_
 intro b2 ia hb
 refine a1f ze37 Y Y Y hb ?_
 intro b3 ib R
 refine a0b Y Y Y (a0g (a0c (a0h (a0h (a0a (a0m ag35 sz35 Y Y R Y (i := 2) Y Y ?_))))))
 obtain ⟨v1, hc, hm⟩ := Yb hm
 refine a0i ent98 Y Y Y Y R (a3b _ _ _ hc R.sat M) ?_
 rintro _ hd _ ic p I ⟨rfl, rfl⟩
 refine a3d Y Y Y (a0d Y Y Y ?_)
 obtain ⟨v2, k, hm⟩ := Yb hm
 refine a1z 4 (fun a w' => ∃ (J : Frz), Frz.le hd J ∧ HS F w [] J [.box b3 37 [.int .i64 0, .slice none 0 0, .int .i64 0, .slice none 0 0], .box b2 35 [.int .i64 q1.Sign, .slice x G H], .box b1 35 [.int .i64 p1.Sign, .slice u y z]] w' ∧ Has 57 a [(2, .pointer (some ⟨b1, 0, none⟩)), (3, .pointer (some ⟨b2, 0, none⟩)), (4, .pointer (some ⟨b3, 0, none⟩)), (21, .bool v2)]) ?_ ?_
 rintro a id ⟨J, K, j, gm⟩
 refine a0z gm (a0g (a0c ?_))
 rcases a0f hm with ⟨T, hm⟩ | ⟨T, hm⟩
 refine a0r 21 Y T (a0y Y (a0h (a0a (a1y (v := .agg #[.int .i64 0, .slice none 0 0, .int .i64 0, .slice none 0 0]) Y Y Y (fun _ => by kernel_rfl) (a0s sz37 Y j Y Y Y Y (i := 0) Y Y Y Y ?_)))))
 intro ie gd
 refine a0b Y Y Y (a0g (a0c (a1d (a0j (a1o (vl := [.agg #[.int .i64 0, .slice none 0 0, .int .i64 0, .slice none 0 0], .int .i64 1]) Y ⟨a2d ag37 sz37 Y gd Y (i := 0) Y, a1r Y, trivial⟩ (by simp) ?_)))))
 obtain rfl := Yo hm
 exact ⟨_, _, _, Y, gd.Yp [] Y Y, none, 0, 0, none, 0, 0, Y, Y, SlR.nil _ _, SlR.nil _ _⟩
 refine a0r 21 Y T (a0q Y (a1c (a0c (a0h (a0h (a0a (a0e fa35_0 Y Y Y (a0p ag3 Y Y j Y (i := 1) Y Y (a0u Y Y Y Y Y (a0g (a0c ?_)))))))))))
 rcases a0f hm with ⟨U, hm⟩ | ⟨U, hm⟩
 refine a0r 25 Y U (a0y Y (a0h (a0a (a1y (v := .agg #[.int .i64 0, .slice none 0 0, .int .i64 0, .slice none 0 0]) Y Y Y (fun _ => by kernel_rfl) (a0s sz37 Y j Y Y Y Y (i := 0) Y Y Y Y ?_)))))
 intro ig ge
 refine a0b Y Y Y (a0g (a0c (a1d (a0j (a1o (vl := [.agg #[.int .i64 0, .slice none 0 0, .int .i64 0, .slice none 0 0], .int .i64 14]) Y ⟨a2d ag37 sz37 Y ge Y (i := 0) Y, a1r Y, trivial⟩ (by simp) ?_)))))
 obtain rfl := Yo hm
 exact ⟨_, _, _, Y, ge.Yp [] Y Y, none, 0, 0, none, 0, 0, Y, Y, SlR.nil _ _, SlR.nil _ _⟩
 refine a0r 25 Y U (a0q Y (a1c (a0c (a0h (a0h (a0a (a0e fa35_0 Y Y Y (a0p ag3 Y Y j Y (i := 1) Y Y (a0u Y Y Y Y Y (a0g (a0c ?_)))))))))))
 obtain ⟨⟨f1, f2, f3, f4⟩, g, hm⟩ := Yb hm
 refine a9a (fun a w' => ∃ (q : Frz) (V : Option Addr) (Z : Nat) (g0 : Nat) (g1 : Option Addr) (g2 : Nat) (g3 : Nat), Frz.le J q ∧ HS F w [] q [.box b3 37 [.int .i64 0, .slice none 0 0, .int .i64 0, .slice none 0 0], .box b2 35 [.int .i64 f1, .slice V Z g0], .box b1 35 [.int .i64 f3, .slice g1 g2 g3]] w' ∧ (SlR (Rp.int .i64) q V Z g0 f2) ∧ (SlR (Rp.int .i64) q g1 g2 g3 f4) ∧ Has 57 a [(2, .pointer (some ⟨b1, 0, none⟩)), (3, .pointer (some ⟨b2, 0, none⟩)), (4, .pointer (some ⟨b3, 0, none⟩))]) ?_ ?_
 rintro a ih ⟨q, V, Z, g0, g1, g2, g3, ii, L, gf, gg, gn⟩
 refine a1n gn (a0h (a0a (a0m ag35 sz35 Y Y L Y (i := 2) Y Y (a0m ag35 sz35 Y Y L Y (i := 1) Y Y ?_))))
 obtain ⟨v3, he, hm⟩ := Yb hm
 refine a0i ent100 Y Y Y Y L (b8s _ _ _ _ he L.sat gg gf) ?_
 rintro _ ij _ ik gh hf ⟨il, im, io, rfl, rfl, gi⟩
 refine a0d Y Y Y (a0l Y Y Y Y (a0l Y Y Y Y (a1f ze35 Y Y Y hf ?_)))
 intro b4 hq go
 refine a0s sz35 Y go Y Y Y Y (i := 0) Y Y Y Y ?_
 intro hr m
 refine a0b Y Y Y (a0g (a0c (a0h (a0a (a0m ag35 sz35 Y Y m Y (i := 3) Y Y (a0m ag35 sz35 Y Y m Y (i := 0) Y Y ?_))))))
 obtain ⟨v4, hg, hm⟩ := Yb hm
 refine a0i ent101 Y Y Y Y m (b8m _ _ _ _ hg m.sat (gg.mono gh) gi) ?_
 rintro _ ip _ ht gj gp ⟨g4, g5, g6, iq, ir, it, rfl, rfl, hh, iu⟩
 refine a0d Y Y Y (a0l Y Y Y Y (a0l Y Y Y Y (a0l Y Y Y Y (a1f ze35 Y Y Y gp ?_))))
 intro b5 hu gq
 refine a1f ze35 Y Y Y gq ?_
 intro b6 hv gr
 refine a0s sz35 Y gr Y Y Y Y (i := 1) Y Y Y Y ?_
 intro hw gs
 refine a0s sz35 Y gs Y Y Y Y (i := 0) Y Y Y Y ?_
 intro hx o
 refine a0b Y Y Y (a0g (a0c (a0h (a0a (a0m ag35 sz35 Y Y o Y (i := 4) Y Y (a0m ag35 sz35 Y Y o Y (i := 2) Y Y ?_))))))
 obtain ⟨v5, hi, hm⟩ := Yb hm
 refine a0i ent101 Y Y Y Y o (b8m _ _ _ _ hi o.sat ((gf.mono gh).mono gj) (gi.mono gj)) ?_
 rintro _ iv _ hy hj gt ⟨g7, g8, g9, iw, ix, iy, rfl, rfl, hk, iz⟩
 refine a0d Y Y Y (a0l Y Y Y Y (a0l Y Y Y Y (a0l Y Y Y Y (a1f ze35 Y Y Y gt ?_))))
 intro b7 hz gu
 refine a1f ze35 Y Y Y gu ?_
 intro b8 i0 gv
 refine a0s sz35 Y gv Y Y Y Y (i := 1) Y Y Y Y ?_
 intro i1 gw
 refine a0s sz35 Y gw Y Y Y Y (i := 0) Y Y Y Y ?_
 intro i2 s
 refine a0b Y Y Y (a0g (a0c (a0h (a0a (a0m ag35 sz35 Y Y s Y (i := 3) Y Y (a0m ag35 sz35 Y Y s Y (i := 1) Y Y (a1y (v := .agg #[.int .i64 v4.1.Sign, .slice g4 g5 g6, .int .i64 v5.1.Sign, .slice g7 g8 g9]) Y Y Y (fun _ => by kernel_rfl) (a0s sz37 Y s Y Y Y Y (i := 5) Y Y Y Y ?_))))))))
 intro i3 ga
 refine a0b Y Y Y (a0g (a0c (a1d (a1o (vl := [.agg #[.int .i64 v4.1.Sign, .slice g4 g5 g6, .int .i64 v5.1.Sign, .slice g7 g8 g9], .int .i64 0]) Y ⟨a2d ag37 sz37 Y ga Y (i := 5) Y, a1r Y, trivial⟩ (by simp) ?_))))
 obtain rfl := Yo hm
 exact ⟨_, _, _, Y, ga.Yp [] Y Y, g4, g5, g6, g7, g8, g9, Y, Y, (hh.mono hj), hk⟩
 clear hm
 rcases a0f g with ⟨gb, g⟩ | ⟨gb, g⟩
 refine a0r 29 Y gb (a0y Y (a0h (a0a (a0m ag35 sz35 Y Y j Y (i := 2) Y Y ?_))))
 obtain ⟨v6, hl, g⟩ := Yb g
 refine a0i ent99 Y Y Y Y j (b2r _ _ _ hl j.sat ((M.mono p).mono K)) ?_
 rintro _ j0 _ i4 gk gx ⟨gy, gz, h0, rfl, rfl, h1⟩
 refine a0s sz35 Y gx Y Y Y Y (i := 2) Y Y Y Y ?_
 intro i5 t
 refine a0g (a0c (a0a (a0m ag35 sz35 Y Y t Y (i := 1) Y Y ?_)))
 obtain ⟨v7, hn, g⟩ := Yb g
 refine a0i ent99 Y Y Y Y t (b2r _ _ _ hn t.sat (((N.mono p).mono K).mono gk)) ?_
 rintro _ j1 _ i6 gl h2 ⟨h3, h4, h5, rfl, rfl, h6⟩
 refine a0s sz35 Y h2 Y Y Y Y (i := 1) Y Y Y Y ?_
 intro i7 h7
 refine a0g (a0o (fun a ha => ?_))
 cases g
 exact ⟨_, h3, h4, h5, gy, gz, h0, (gk.trans gl), h7.Yp [0, 1, 2] Y Y, h6, (h1.mono gl), ha.cut (l := [2, 3, 4]) Y⟩
 refine a0r 29 Y gb (a0q Y (a1c (a0o (fun a ha => ?_))))
 cases g
 exact ⟨_, x, G, H, u, y, z, Yf, j.Yp [0, 1, 2] Y Y, ((N.mono p).mono K), ((M.mono p).mono K), ha.cut (l := [2, 3, 4]) Y⟩
 clear hm
 rcases a0f k with ⟨gc, k⟩ | ⟨gc, k⟩
 refine a1g 17 Y gc (a0t Y (by decide) Y (a0t Y (by decide) Y (a0t Y (by decide) Y (a0n Y Y Y Y (a0g (a0o (fun a ha => ?_)))))))
 cases k
 exact ⟨_, Yf, I.Yp [0, 1, 2] Y Y, ha.cut (l := [2, 3, 4, 21]) Y⟩
 refine a1g 17 Y gc (a0m ag35 sz35 Y Y I Y (i := 1) Y Y ?_)
 obtain ⟨v8, ho, k⟩ := Yb k
 refine a0i ent98 Y Y Y Y I (a3b _ _ _ ho I.sat (N.mono p)) ?_
 rintro _ j2 _ i8 hp h8 ⟨rfl, rfl⟩
 refine a3d Y Y Y (a0k Y Y Y Y (a0g (a0o (fun a ha => ?_))))
 cases k
 exact ⟨_, hp, h8.Yp [0, 1, 2] Y Y, ha.cut (l := [2, 3, 4, 21]) Y⟩
theorem ent58 : Ent Tryz.prog 58 := fun _ _ => by kernel_rfl
def b4c (n : Nat) (p1 : Int) (q1 : Int) : Option (Frac × Int) :=
 (b2v n p1).bind fun v1 =>
 (b2v n q1).bind fun v2 =>
 (b0j n v1 v2).bind fun v3 =>
 some (v3.1, v3.2)
theorem b6w (n : Nat) (p1 : Int) (q1 : Int) (r : (Frac × Int)) (hm : b4c n p1 q1 = some r) {w : World} {F : Frz} (hs : Sat F w)  :
  Calls Tryz.prog 26 #[.int .i64 p1, .int .i64 q1] w fun e w' => ∃ v F' O', e = .returned v ∧ HS F w [] F' O' w' ∧ (∃ (a0_1 : Option Addr) (n0_1 : Nat) (c0_1 : Nat) (a0_3 : Option Addr) (n0_3 : Nat) (c0_3 : Nat), v = .tuple #[.agg #[.int .i64 r.1.P.Sign, .slice a0_1 n0_1 c0_1, .int .i64 r.1.Q.Sign, .slice a0_3 n0_3 c0_3], .int .i64 r.2] ∧ O' = [] ∧ SlR (Rp.int .i64) F' a0_1 n0_1 c0_1 r.1.P.Digits ∧ SlR (Rp.int .i64) F' a0_3 n0_3 c0_3 r.1.Q.Digits) := by
 unfold b4c at hm
 have h := HS.init hs
 refine a1a 13 Tryz.func26 Y Y Y (a0h (a0a (a1f ze37 Y Y Y h ?_)))
 intro b1 L g
 refine a0b Y Y Y (a0g (a0c (a0h (a0a (a0d Y Y Y ?_)))))
 obtain ⟨v1, u, hm⟩ := Yb hm
 refine a0i ent59 Y Y Y Y g (b6s _ _ _ u g.sat) ?_
 rintro _ M _ N R j ⟨T, U, V, rfl, rfl, x⟩
 refine a0d Y Y Y ?_
 obtain ⟨v2, y, hm⟩ := Yb hm
 refine a0i ent59 Y Y Y Y j (b6s _ _ _ y j.sat) ?_
 rintro _ Z _ g0 z k ⟨g1, g2, g3, rfl, rfl, G⟩
 obtain ⟨v3, H, hm⟩ := Yb hm
 refine a0i ent58 Y Y Y Y k (b1e _ _ _ _ H k.sat (x.mono z) G) ?_
 rintro _ g4 _ g5 g6 I ⟨l, m, o, p, q, s, rfl, rfl, J, K⟩
 refine a0l Y Y Y Y (a0l Y Y Y Y (a0s sz37 Y I Y Y Y Y (i := 0) Y Y Y Y ?_))
 intro g7 t
 refine a0b Y Y Y (a0g (a0c (a1d (a1o (vl := [.agg #[.int .i64 v3.1.P.Sign, .slice l m o, .int .i64 v3.1.Q.Sign, .slice p q s], .int .i64 v3.2]) Y ⟨a2d ag37 sz37 Y t Y (i := 0) Y, a1r Y, trivial⟩ (by simp) ?_))))
 obtain rfl := Yo hm
 exact ⟨_, _, _, Y, t.Yp [] Y Y, l, m, o, p, q, s, Y, Y, J, K⟩
theorem ent74 : Ent Tryz.prog 74 := fun _ _ => by kernel_rfl
theorem ent78 : Ent Tryz.prog 78 := fun _ _ => by kernel_rfl
def b5m (n : Nat) (ax1 : Frac) (b1 : Frac) : Option (Frac × Int) :=
 (a2z n ax1).bind fun v1 =>
 (bif !v1 then
  some true
 else
  (a2z n b1).bind fun v8 =>
  some (!v8)).bind fun v2 =>
 bif v2 then
  some ((⟨(⟨0, []⟩ : Big), (⟨0, []⟩ : Big)⟩ : Frac), 1)
 else
  (a4m n ax1.P b1.Q).bind fun v3 =>
  (a4m n b1.P ax1.Q).bind fun v4 =>
  (a4m n ax1.Q b1.Q).bind fun v5 =>
  (b3g n v3.1 v4.1).bind fun v6 =>
  (b0j n v6.1 v5.1).bind fun v7 =>
  some (v7.1, v7.2)
theorem c4s (n : Nat) (ax1 : Frac) (b1 : Frac) (r : (Frac × Int)) (hm : b5m n ax1 b1 = some r) {w : World} {F : Frz} (hs : Sat F w) {G p H q : Option Addr} {I J s t K L u x : Nat} (g6 : SlR (Rp.int .i64) F G I J ax1.P.Digits) (R : SlR (Rp.int .i64) F p s t ax1.Q.Digits) (g7 : SlR (Rp.int .i64) F H K L b1.P.Digits) (T : SlR (Rp.int .i64) F q u x b1.Q.Digits) :
  Calls Tryz.prog 111 #[.agg #[.int .i64 ax1.P.Sign, .slice G I J, .int .i64 ax1.Q.Sign, .slice p s t], .agg #[.int .i64 b1.P.Sign, .slice H K L, .int .i64 b1.Q.Sign, .slice q u x]] w fun e w' => ∃ v F' O', e = .returned v ∧ HS F w [] F' O' w' ∧ (∃ (a0_1 : Option Addr) (n0_1 : Nat) (c0_1 : Nat) (a0_3 : Option Addr) (n0_3 : Nat) (c0_3 : Nat), v = .tuple #[.agg #[.int .i64 r.1.P.Sign, .slice a0_1 n0_1 c0_1, .int .i64 r.1.Q.Sign, .slice a0_3 n0_3 c0_3], .int .i64 r.2] ∧ O' = [] ∧ SlR (Rp.int .i64) F' a0_1 n0_1 c0_1 r.1.P.Digits ∧ SlR (Rp.int .i64) F' a0_3 n0_3 c0_3 r.1.Q.Digits) := by
 unfold b5m at hm
 have h := HS.init hs
 refine a1a 58 Tryz.func111 Y Y Y (a0h (a0a (a2i Y Y Y Y h ?_)))
 intro b2 hl gp
 refine a2i Y Y Y Y gp ?_
 intro b3 hn gq
 refine a1f ze37 Y Y Y gq ?_
 intro b4 ho U
 refine a0b Y Y Y (a0g (a0c (a0h (a0h (a0a (a0m ag37 sz37 Y Y U Y (i := 2) Y Y ?_))))))
 obtain ⟨v1, gr, hm⟩ := Yb hm
 refine a0i ent74 Y Y Y Y U (a3a _ _ _ gr U.sat g6 R) ?_
 rintro _ gs _ hp g M ⟨rfl, rfl⟩
 refine a3d Y Y Y (a0d Y Y Y ?_)
 obtain ⟨v2, j, hm⟩ := Yb hm
 refine a1z 4 (fun a w' => ∃ (V : Frz), Frz.le gs V ∧ HS F w [] V [.box b4 37 [.int .i64 0, .slice none 0 0, .int .i64 0, .slice none 0 0], .box b3 37 [.int .i64 b1.P.Sign, .slice H K L, .int .i64 b1.Q.Sign, .slice q u x], .box b2 37 [.int .i64 ax1.P.Sign, .slice G I J, .int .i64 ax1.Q.Sign, .slice p s t]] w' ∧ Has 58 a [(2, .pointer (some ⟨b2, 0, none⟩)), (3, .pointer (some ⟨b3, 0, none⟩)), (4, .pointer (some ⟨b4, 0, none⟩)), (21, .bool v2)]) ?_ ?_
 rintro a hq ⟨V, y, z, gf⟩
 refine a0z gf (a0g (a0c ?_))
 rcases a0f hm with ⟨Z, hm⟩ | ⟨Z, hm⟩
 refine a0r 21 Y Z (a0y Y (a0h (a0a (a1y (v := .agg #[.int .i64 0, .slice none 0 0, .int .i64 0, .slice none 0 0]) Y Y Y (fun _ => by kernel_rfl) (a0s sz37 Y z Y Y Y Y (i := 0) Y Y Y Y ?_)))))
 intro hr g8
 refine a0b Y Y Y (a0g (a0c (a1d (a0j (a1o (vl := [.agg #[.int .i64 0, .slice none 0 0, .int .i64 0, .slice none 0 0], .int .i64 1]) Y ⟨a2d ag37 sz37 Y g8 Y (i := 0) Y, a1r Y, trivial⟩ (by simp) ?_)))))
 obtain rfl := Yo hm
 exact ⟨_, _, _, Y, g8.Yp [] Y Y, none, 0, 0, none, 0, 0, Y, Y, SlR.nil _ _, SlR.nil _ _⟩
 refine a0r 21 Y Z (a0q Y (a1c (a0c (a0h (a0a (a0e fa37_0 Y Y Y (a1u (cs' := [.int .i64 ax1.P.Sign, .slice G I J]) ag35 sz35 Y Y z Y (i := 2) Y Y Y (a0e fa37_1 Y Y Y (a1u (cs' := [.int .i64 b1.Q.Sign, .slice q u x]) ag35 sz35 Y Y z Y (i := 1) Y Y Y ?_)))))))))
 obtain ⟨v3, gt, hm⟩ := Yb hm
 refine a0i ent78 Y Y Y Y z (a4w _ _ _ _ gt z.sat ((g6.mono g).mono y) ((T.mono g).mono y)) ?_
 rintro _ ht _ hu g0 gu ⟨hv, hw, hx, rfl, rfl, gv⟩
 refine a0d Y Y Y (a0l Y Y Y Y (a0l Y Y Y Y (a1f ze35 Y Y Y gu ?_)))
 intro b5 hy gw
 refine a0s sz35 Y gw Y Y Y Y (i := 0) Y Y Y Y ?_
 intro hz N
 refine a0b Y Y Y (a0g (a0c (a0h (a0a (a0e fa37_0 Y Y Y (a1u (cs' := [.int .i64 b1.P.Sign, .slice H K L]) ag35 sz35 Y Y N Y (i := 2) Y Y Y (a0e fa37_1 Y Y Y (a1u (cs' := [.int .i64 ax1.Q.Sign, .slice p s t]) ag35 sz35 Y Y N Y (i := 3) Y Y Y ?_))))))))
 obtain ⟨v4, gx, hm⟩ := Yb hm
 refine a0i ent78 Y Y Y Y N (a4w _ _ _ _ gx N.sat (((g7.mono g).mono y).mono g0) (((R.mono g).mono y).mono g0)) ?_
 rintro _ i0 _ h8 g9 gg ⟨i1, i2, i3, rfl, rfl, gy⟩
 refine a0d Y Y Y (a0l Y Y Y Y (a0l Y Y Y Y (a1f ze35 Y Y Y gg ?_)))
 intro b6 h9 gh
 refine a0s sz35 Y gh Y Y Y Y (i := 0) Y Y Y Y ?_
 intro hb k
 refine a0b Y Y Y (a0g (a0c (a0h (a0a (a0e fa37_1 Y Y Y (a1u (cs' := [.int .i64 ax1.Q.Sign, .slice p s t]) ag35 sz35 Y Y k Y (i := 4) Y Y Y (a0e fa37_1 Y Y Y (a1u (cs' := [.int .i64 b1.Q.Sign, .slice q u x]) ag35 sz35 Y Y k Y (i := 3) Y Y Y ?_))))))))
 have ga := ((g.trans y).trans g0).trans g9
 obtain ⟨v5, gz, hm⟩ := Yb hm
 refine a0i ent78 Y Y Y Y k (a4w _ _ _ _ gz k.sat (R.mono ga) (T.mono ga)) ?_
 rintro _ i4 _ hc gb gi ⟨i5, i6, i7, rfl, rfl, h0⟩
 refine a0d Y Y Y (a0l Y Y Y Y (a0l Y Y Y Y (a1f ze35 Y Y Y gi ?_)))
 intro b7 hd gj
 refine a0s sz35 Y gj Y Y Y Y (i := 0) Y Y Y Y ?_
 intro he m
 refine a0b Y Y Y (a0g (a0c (a0h (a0a (a0m ag35 sz35 Y Y m Y (i := 2) Y Y (a0m ag35 sz35 Y Y m Y (i := 1) Y Y ?_))))))
 obtain ⟨v6, h1, hm⟩ := Yb hm
 refine a0i ent140 Y Y Y Y m (b2x _ _ _ _ h1 m.sat ((gv.mono g9).mono gb) (gy.mono gb)) ?_
 rintro _ i8 _ hf h2 gk ⟨i9, ia, ib, rfl, rfl, h3⟩
 refine a0d Y Y Y (a0l Y Y Y Y (a0l Y Y Y Y (a1f ze35 Y Y Y gk ?_)))
 intro b8 hg gl
 refine a0s sz35 Y gl Y Y Y Y (i := 0) Y Y Y Y ?_
 intro hh o
 refine a0b Y Y Y (a0g (a0c (a0h (a0a (a0m ag35 sz35 Y Y o Y (i := 0) Y Y (a0m ag35 sz35 Y Y o Y (i := 1) Y Y ?_))))))
 obtain ⟨v7, h4, hm⟩ := Yb hm
 refine a0i ent58 Y Y Y Y o (b1e _ _ _ _ h4 o.sat h3 (h0.mono h2)) ?_
 rintro _ ic _ hi id gm ⟨gc, gd, ge, g1, g2, g3, rfl, rfl, h5, gn⟩
 refine a0l Y Y Y Y (a0l Y Y Y Y (a0s sz37 Y gm Y Y Y Y (i := 4) Y Y Y Y ?_))
 intro hj g4
 refine a0b Y Y Y (a0g (a0c (a1d (a1o (vl := [.agg #[.int .i64 v7.1.P.Sign, .slice gc gd ge, .int .i64 v7.1.Q.Sign, .slice g1 g2 g3], .int .i64 v7.2]) Y ⟨a2d ag37 sz37 Y g4 Y (i := 4) Y, a1r Y, trivial⟩ (by simp) ?_))))
 obtain rfl := Yo hm
 exact ⟨_, _, _, Y, g4.Yp [] Y Y, gc, gd, ge, g1, g2, g3, Y, Y, h5, gn⟩
 clear hm
 rcases a0f j with ⟨g5, j⟩ | ⟨g5, j⟩
 refine a1g 17 Y g5 (a0t Y (by decide) Y (a0t Y (by decide) Y (a0t Y (by decide) Y (a0n Y Y Y Y (a0g (a0o (fun a ha => ?_)))))))
 cases j
 exact ⟨_, Yf, M.Yp [0, 1, 2] Y Y, ha.cut (l := [2, 3, 4, 21]) Y⟩
 refine a1g 17 Y g5 (a0m ag37 sz37 Y Y M Y (i := 1) Y Y ?_)
 obtain ⟨v8, h6, j⟩ := Yb j
 refine a0i ent74 Y Y Y Y M (a3a _ _ _ h6 M.sat (g7.mono g) (T.mono g)) ?_
 rintro _ ie _ hk h7 go ⟨rfl, rfl⟩
 refine a3d Y Y Y (a0k Y Y Y Y (a0g (a0o (fun a ha => ?_))))
 cases j
 exact ⟨_, h7, go.Yp [0, 1, 2] Y Y, ha.cut (l := [2, 3, 4, 21]) Y⟩
theorem ent141 : Ent Tryz.prog 141 := fun _ _ => by kernel_rfl
def b4n (n : Nat) (ax1 : Frac) (b1 : Frac) : Option (Frac × Int) :=
 (a2z n ax1).bind fun v1 =>
 (bif !v1 then
  some true
 else
  (a2z n b1).bind fun v8 =>
  some (!v8)).bind fun v2 =>
 bif v2 then
  some ((⟨(⟨0, []⟩ : Big), (⟨0, []⟩ : Big)⟩ : Frac), 1)
 else
  (a4m n ax1.P b1.Q).bind fun v3 =>
  (a4m n b1.P ax1.Q).bind fun v4 =>
  (a4m n ax1.Q b1.Q).bind fun v5 =>
  (b5r n v3.1 v4.1).bind fun v6 =>
  (b0j n v6.1 v5.1).bind fun v7 =>
  some (v7.1, v7.2)
theorem c5m (n : Nat) (ax1 : Frac) (b1 : Frac) (r : (Frac × Int)) (hm : b4n n ax1 b1 = some r) {w : World} {F : Frz} (hs : Sat F w) {G p H q : Option Addr} {I J s t K L u x : Nat} (g6 : SlR (Rp.int .i64) F G I J ax1.P.Digits) (R : SlR (Rp.int .i64) F p s t ax1.Q.Digits) (g7 : SlR (Rp.int .i64) F H K L b1.P.Digits) (T : SlR (Rp.int .i64) F q u x b1.Q.Digits) :
  Calls Tryz.prog 112 #[.agg #[.int .i64 ax1.P.Sign, .slice G I J, .int .i64 ax1.Q.Sign, .slice p s t], .agg #[.int .i64 b1.P.Sign, .slice H K L, .int .i64 b1.Q.Sign, .slice q u x]] w fun e w' => ∃ v F' O', e = .returned v ∧ HS F w [] F' O' w' ∧ (∃ (a0_1 : Option Addr) (n0_1 : Nat) (c0_1 : Nat) (a0_3 : Option Addr) (n0_3 : Nat) (c0_3 : Nat), v = .tuple #[.agg #[.int .i64 r.1.P.Sign, .slice a0_1 n0_1 c0_1, .int .i64 r.1.Q.Sign, .slice a0_3 n0_3 c0_3], .int .i64 r.2] ∧ O' = [] ∧ SlR (Rp.int .i64) F' a0_1 n0_1 c0_1 r.1.P.Digits ∧ SlR (Rp.int .i64) F' a0_3 n0_3 c0_3 r.1.Q.Digits) := by
 unfold b4n at hm
 have h := HS.init hs
 refine a1a 58 Tryz.func112 Y Y Y (a0h (a0a (a2i Y Y Y Y h ?_)))
 intro b2 hl gp
 refine a2i Y Y Y Y gp ?_
 intro b3 hn gq
 refine a1f ze37 Y Y Y gq ?_
 intro b4 ho U
 refine a0b Y Y Y (a0g (a0c (a0h (a0h (a0a (a0m ag37 sz37 Y Y U Y (i := 2) Y Y ?_))))))
 obtain ⟨v1, gr, hm⟩ := Yb hm
 refine a0i ent74 Y Y Y Y U (a3a _ _ _ gr U.sat g6 R) ?_
 rintro _ gs _ hp g M ⟨rfl, rfl⟩
 refine a3d Y Y Y (a0d Y Y Y ?_)
 obtain ⟨v2, j, hm⟩ := Yb hm
 refine a1z 4 (fun a w' => ∃ (V : Frz), Frz.le gs V ∧ HS F w [] V [.box b4 37 [.int .i64 0, .slice none 0 0, .int .i64 0, .slice none 0 0], .box b3 37 [.int .i64 b1.P.Sign, .slice H K L, .int .i64 b1.Q.Sign, .slice q u x], .box b2 37 [.int .i64 ax1.P.Sign, .slice G I J, .int .i64 ax1.Q.Sign, .slice p s t]] w' ∧ Has 58 a [(2, .pointer (some ⟨b2, 0, none⟩)), (3, .pointer (some ⟨b3, 0, none⟩)), (4, .pointer (some ⟨b4, 0, none⟩)), (21, .bool v2)]) ?_ ?_
 rintro a hq ⟨V, y, z, gf⟩
 refine a0z gf (a0g (a0c ?_))
 rcases a0f hm with ⟨Z, hm⟩ | ⟨Z, hm⟩
 refine a0r 21 Y Z (a0y Y (a0h (a0a (a1y (v := .agg #[.int .i64 0, .slice none 0 0, .int .i64 0, .slice none 0 0]) Y Y Y (fun _ => by kernel_rfl) (a0s sz37 Y z Y Y Y Y (i := 0) Y Y Y Y ?_)))))
 intro hr g8
 refine a0b Y Y Y (a0g (a0c (a1d (a0j (a1o (vl := [.agg #[.int .i64 0, .slice none 0 0, .int .i64 0, .slice none 0 0], .int .i64 1]) Y ⟨a2d ag37 sz37 Y g8 Y (i := 0) Y, a1r Y, trivial⟩ (by simp) ?_)))))
 obtain rfl := Yo hm
 exact ⟨_, _, _, Y, g8.Yp [] Y Y, none, 0, 0, none, 0, 0, Y, Y, SlR.nil _ _, SlR.nil _ _⟩
 refine a0r 21 Y Z (a0q Y (a1c (a0c (a0h (a0a (a0e fa37_0 Y Y Y (a1u (cs' := [.int .i64 ax1.P.Sign, .slice G I J]) ag35 sz35 Y Y z Y (i := 2) Y Y Y (a0e fa37_1 Y Y Y (a1u (cs' := [.int .i64 b1.Q.Sign, .slice q u x]) ag35 sz35 Y Y z Y (i := 1) Y Y Y ?_)))))))))
 obtain ⟨v3, gt, hm⟩ := Yb hm
 refine a0i ent78 Y Y Y Y z (a4w _ _ _ _ gt z.sat ((g6.mono g).mono y) ((T.mono g).mono y)) ?_
 rintro _ ht _ hu g0 gu ⟨hv, hw, hx, rfl, rfl, gv⟩
 refine a0d Y Y Y (a0l Y Y Y Y (a0l Y Y Y Y (a1f ze35 Y Y Y gu ?_)))
 intro b5 hy gw
 refine a0s sz35 Y gw Y Y Y Y (i := 0) Y Y Y Y ?_
 intro hz N
 refine a0b Y Y Y (a0g (a0c (a0h (a0a (a0e fa37_0 Y Y Y (a1u (cs' := [.int .i64 b1.P.Sign, .slice H K L]) ag35 sz35 Y Y N Y (i := 2) Y Y Y (a0e fa37_1 Y Y Y (a1u (cs' := [.int .i64 ax1.Q.Sign, .slice p s t]) ag35 sz35 Y Y N Y (i := 3) Y Y Y ?_))))))))
 obtain ⟨v4, gx, hm⟩ := Yb hm
 refine a0i ent78 Y Y Y Y N (a4w _ _ _ _ gx N.sat (((g7.mono g).mono y).mono g0) (((R.mono g).mono y).mono g0)) ?_
 rintro _ i0 _ h8 g9 gg ⟨i1, i2, i3, rfl, rfl, gy⟩
 refine a0d Y Y Y (a0l Y Y Y Y (a0l Y Y Y Y (a1f ze35 Y Y Y gg ?_)))
 intro b6 h9 gh
 refine a0s sz35 Y gh Y Y Y Y (i := 0) Y Y Y Y ?_
 intro hb k
 refine a0b Y Y Y (a0g (a0c (a0h (a0a (a0e fa37_1 Y Y Y (a1u (cs' := [.int .i64 ax1.Q.Sign, .slice p s t]) ag35 sz35 Y Y k Y (i := 4) Y Y Y (a0e fa37_1 Y Y Y (a1u (cs' := [.int .i64 b1.Q.Sign, .slice q u x]) ag35 sz35 Y Y k Y (i := 3) Y Y Y ?_))))))))
 have ga := ((g.trans y).trans g0).trans g9
 obtain ⟨v5, gz, hm⟩ := Yb hm
 refine a0i ent78 Y Y Y Y k (a4w _ _ _ _ gz k.sat (R.mono ga) (T.mono ga)) ?_
 rintro _ i4 _ hc gb gi ⟨i5, i6, i7, rfl, rfl, h0⟩
 refine a0d Y Y Y (a0l Y Y Y Y (a0l Y Y Y Y (a1f ze35 Y Y Y gi ?_)))
 intro b7 hd gj
 refine a0s sz35 Y gj Y Y Y Y (i := 0) Y Y Y Y ?_
 intro he m
 refine a0b Y Y Y (a0g (a0c (a0h (a0a (a0m ag35 sz35 Y Y m Y (i := 2) Y Y (a0m ag35 sz35 Y Y m Y (i := 1) Y Y ?_))))))
 obtain ⟨v6, h1, hm⟩ := Yb hm
 refine a0i ent141 Y Y Y Y m (c4q _ _ _ _ h1 m.sat ((gv.mono g9).mono gb) (gy.mono gb)) ?_
 rintro _ i8 _ hf h2 gk ⟨i9, ia, ib, rfl, rfl, h3⟩
 refine a0d Y Y Y (a0l Y Y Y Y (a0l Y Y Y Y (a1f ze35 Y Y Y gk ?_)))
 intro b8 hg gl
 refine a0s sz35 Y gl Y Y Y Y (i := 0) Y Y Y Y ?_
 intro hh o
 refine a0b Y Y Y (a0g (a0c (a0h (a0a (a0m ag35 sz35 Y Y o Y (i := 0) Y Y (a0m ag35 sz35 Y Y o Y (i := 1) Y Y ?_))))))
 obtain ⟨v7, h4, hm⟩ := Yb hm
 refine a0i ent58 Y Y Y Y o (b1e _ _ _ _ h4 o.sat h3 (h0.mono h2)) ?_
 rintro _ ic _ hi id gm ⟨gc, gd, ge, g1, g2, g3, rfl, rfl, h5, gn⟩
 refine a0l Y Y Y Y (a0l Y Y Y Y (a0s sz37 Y gm Y Y Y Y (i := 4) Y Y Y Y ?_))
 intro hj g4
 refine a0b Y Y Y (a0g (a0c (a1d (a1o (vl := [.agg #[.int .i64 v7.1.P.Sign, .slice gc gd ge, .int .i64 v7.1.Q.Sign, .slice g1 g2 g3], .int .i64 v7.2]) Y ⟨a2d ag37 sz37 Y g4 Y (i := 4) Y, a1r Y, trivial⟩ (by simp) ?_))))
 obtain rfl := Yo hm
 exact ⟨_, _, _, Y, g4.Yp [] Y Y, gc, gd, ge, g1, g2, g3, Y, Y, h5, gn⟩
 clear hm
 rcases a0f j with ⟨g5, j⟩ | ⟨g5, j⟩
 refine a1g 17 Y g5 (a0t Y (by decide) Y (a0t Y (by decide) Y (a0t Y (by decide) Y (a0n Y Y Y Y (a0g (a0o (fun a ha => ?_)))))))
 cases j
 exact ⟨_, Yf, M.Yp [0, 1, 2] Y Y, ha.cut (l := [2, 3, 4, 21]) Y⟩
 refine a1g 17 Y g5 (a0m ag37 sz37 Y Y M Y (i := 1) Y Y ?_)
 obtain ⟨v8, h6, j⟩ := Yb j
 refine a0i ent74 Y Y Y Y M (a3a _ _ _ h6 M.sat (g7.mono g) (T.mono g)) ?_
 rintro _ ie _ hk h7 go ⟨rfl, rfl⟩
 refine a3d Y Y Y (a0k Y Y Y Y (a0g (a0o (fun a ha => ?_))))
 cases j
 exact ⟨_, h7, go.Yp [0, 1, 2] Y Y, ha.cut (l := [2, 3, 4, 21]) Y⟩
def b4z (n : Nat) (ax1 : Frac) (b1 : Frac) : Option (Frac × Int) :=
 (a2z n ax1).bind fun v1 =>
 (bif !v1 then
  some true
 else
  (a2z n b1).bind fun v6 =>
  some (!v6)).bind fun v2 =>
 bif v2 then
  some ((⟨(⟨0, []⟩ : Big), (⟨0, []⟩ : Big)⟩ : Frac), 1)
 else
  (a4m n ax1.P b1.P).bind fun v3 =>
  (a4m n ax1.Q b1.Q).bind fun v4 =>
  (b0j n v3.1 v4.1).bind fun v5 =>
  some (v5.1, v5.2)
theorem c4j (n : Nat) (ax1 : Frac) (b1 : Frac) (r : (Frac × Int)) (hm : b4z n ax1 b1 = some r) {w : World} {F : Frz} (hs : Sat F w) {o p q s : Option Addr} {t u x y z G H I : Nat} (V : SlR (Rp.int .i64) F o t u ax1.P.Digits) (Z : SlR (Rp.int .i64) F p x y ax1.Q.Digits) (g0 : SlR (Rp.int .i64) F q z G b1.P.Digits) (g1 : SlR (Rp.int .i64) F s H I b1.Q.Digits) :
  Calls Tryz.prog 113 #[.agg #[.int .i64 ax1.P.Sign, .slice o t u, .int .i64 ax1.Q.Sign, .slice p x y], .agg #[.int .i64 b1.P.Sign, .slice q z G, .int .i64 b1.Q.Sign, .slice s H I]] w fun e w' => ∃ v F' O', e = .returned v ∧ HS F w [] F' O' w' ∧ (∃ (a0_1 : Option Addr) (n0_1 : Nat) (c0_1 : Nat) (a0_3 : Option Addr) (n0_3 : Nat) (c0_3 : Nat), v = .tuple #[.agg #[.int .i64 r.1.P.Sign, .slice a0_1 n0_1 c0_1, .int .i64 r.1.Q.Sign, .slice a0_3 n0_3 c0_3], .int .i64 r.2] ∧ O' = [] ∧ SlR (Rp.int .i64) F' a0_1 n0_1 c0_1 r.1.P.Digits ∧ SlR (Rp.int .i64) F' a0_3 n0_3 c0_3 r.1.Q.Digits) := by
 unfold b4z at hm
 have h := HS.init hs
 refine a1a 40 Tryz.func113 Y Y Y (a0h (a0a (a2i Y Y Y Y h ?_)))
 intro b2 h1 gf
 refine a2i Y Y Y Y gf ?_
 intro b3 h2 gg
 refine a1f ze37 Y Y Y gg ?_
 intro b4 h3 M
 refine a0b Y Y Y (a0g (a0c (a0h (a0h (a0a (a0m ag37 sz37 Y Y M Y (i := 2) Y Y ?_))))))
 obtain ⟨v1, gh, hm⟩ := Yb hm
 refine a0i ent74 Y Y Y Y M (a3a _ _ _ gh M.sat V Z) ?_
 rintro _ gi _ h4 j J ⟨rfl, rfl⟩
 refine a3d Y Y Y (a0d Y Y Y ?_)
 obtain ⟨v2, g, hm⟩ := Yb hm
 refine a1z 4 (fun a w' => ∃ (N : Frz), Frz.le gi N ∧ HS F w [] N [.box b4 37 [.int .i64 0, .slice none 0 0, .int .i64 0, .slice none 0 0], .box b3 37 [.int .i64 b1.P.Sign, .slice q z G, .int .i64 b1.Q.Sign, .slice s H I], .box b2 37 [.int .i64 ax1.P.Sign, .slice o t u, .int .i64 ax1.Q.Sign, .slice p x y]] w' ∧ Has 40 a [(2, .pointer (some ⟨b2, 0, none⟩)), (3, .pointer (some ⟨b3, 0, none⟩)), (4, .pointer (some ⟨b4, 0, none⟩)), (17, .bool v2)]) ?_ ?_
 rintro a h5 ⟨N, K, m, ga⟩
 refine a0z ga (a0g (a0c ?_))
 rcases a0f hm with ⟨R, hm⟩ | ⟨R, hm⟩
 refine a0r 17 Y R (a0y Y (a0h (a0a (a1y (v := .agg #[.int .i64 0, .slice none 0 0, .int .i64 0, .slice none 0 0]) Y Y Y (fun _ => by kernel_rfl) (a0s sz37 Y m Y Y Y Y (i := 0) Y Y Y Y ?_)))))
 intro h6 g2
 refine a0b Y Y Y (a0g (a0c (a1d (a0j (a1o (vl := [.agg #[.int .i64 0, .slice none 0 0, .int .i64 0, .slice none 0 0], .int .i64 1]) Y ⟨a2d ag37 sz37 Y g2 Y (i := 0) Y, a1r Y, trivial⟩ (by simp) ?_)))))
 obtain rfl := Yo hm
 exact ⟨_, _, _, Y, g2.Yp [] Y Y, none, 0, 0, none, 0, 0, Y, Y, SlR.nil _ _, SlR.nil _ _⟩
 refine a0r 17 Y R (a0q Y (a1c (a0c (a0h (a0a (a0e fa37_0 Y Y Y (a1u (cs' := [.int .i64 ax1.P.Sign, .slice o t u]) ag35 sz35 Y Y m Y (i := 2) Y Y Y (a0e fa37_0 Y Y Y (a1u (cs' := [.int .i64 b1.P.Sign, .slice q z G]) ag35 sz35 Y Y m Y (i := 1) Y Y Y ?_)))))))))
 obtain ⟨v3, gj, hm⟩ := Yb hm
 refine a0i ent78 Y Y Y Y m (a4w _ _ _ _ gj m.sat ((V.mono j).mono K) ((g0.mono j).mono K)) ?_
 rintro _ h7 _ h8 g3 gk ⟨h9, hb, hc, rfl, rfl, gl⟩
 refine a0d Y Y Y (a0l Y Y Y Y (a0l Y Y Y Y (a1f ze35 Y Y Y gk ?_)))
 intro b5 hd gm
 refine a0s sz35 Y gm Y Y Y Y (i := 0) Y Y Y Y ?_
 intro he L
 refine a0b Y Y Y (a0g (a0c (a0h (a0a (a0e fa37_1 Y Y Y (a1u (cs' := [.int .i64 ax1.Q.Sign, .slice p x y]) ag35 sz35 Y Y L Y (i := 3) Y Y Y (a0e fa37_1 Y Y Y (a1u (cs' := [.int .i64 b1.Q.Sign, .slice s H I]) ag35 sz35 Y Y L Y (i := 2) Y Y Y ?_))))))))
 obtain ⟨v4, gn, hm⟩ := Yb hm
 refine a0i ent78 Y Y Y Y L (a4w _ _ _ _ gn L.sat (((Z.mono j).mono K).mono g3) (((g1.mono j).mono K).mono g3)) ?_
 rintro _ hf _ gv go gb ⟨hg, hh, hi, rfl, rfl, gp⟩
 refine a0d Y Y Y (a0l Y Y Y Y (a0l Y Y Y Y (a1f ze35 Y Y Y gb ?_)))
 intro b6 gw gc
 refine a0s sz35 Y gc Y Y Y Y (i := 0) Y Y Y Y ?_
 intro gx k
 refine a0b Y Y Y (a0g (a0c (a0h (a0a (a0m ag35 sz35 Y Y k Y (i := 1) Y Y (a0m ag35 sz35 Y Y k Y (i := 0) Y Y ?_))))))
 obtain ⟨v5, gq, hm⟩ := Yb hm
 refine a0i ent58 Y Y Y Y k (b1e _ _ _ _ gq k.sat (gl.mono go) gp) ?_
 rintro _ hj _ gy hk gd ⟨g4, g5, g6, g7, g8, g9, rfl, rfl, gr, gs⟩
 refine a0l Y Y Y Y (a0l Y Y Y Y (a0s sz37 Y gd Y Y Y Y (i := 2) Y Y Y Y ?_))
 intro gz T
 refine a0b Y Y Y (a0g (a0c (a1d (a1o (vl := [.agg #[.int .i64 v5.1.P.Sign, .slice g4 g5 g6, .int .i64 v5.1.Q.Sign, .slice g7 g8 g9], .int .i64 v5.2]) Y ⟨a2d ag37 sz37 Y T Y (i := 2) Y, a1r Y, trivial⟩ (by simp) ?_))))
 obtain rfl := Yo hm
 exact ⟨_, _, _, Y, T.Yp [] Y Y, g4, g5, g6, g7, g8, g9, Y, Y, gr, gs⟩
 clear hm
 rcases a0f g with ⟨U, g⟩ | ⟨U, g⟩
 refine a1g 13 Y U (a0t Y (by decide) Y (a0t Y (by decide) Y (a0t Y (by decide) Y (a0n Y Y Y Y (a0g (a0o (fun a ha => ?_)))))))
 cases g
 exact ⟨_, Yf, J.Yp [0, 1, 2] Y Y, ha.cut (l := [2, 3, 4, 17]) Y⟩
 refine a1g 13 Y U (a0m ag37 sz37 Y Y J Y (i := 1) Y Y ?_)
 obtain ⟨v6, gt, g⟩ := Yb g
 refine a0i ent74 Y Y Y Y J (a3a _ _ _ gt J.sat (g0.mono j) (g1.mono j)) ?_
 rintro _ hl _ h0 gu ge ⟨rfl, rfl⟩
 refine a3d Y Y Y (a0k Y Y Y Y (a0g (a0o (fun a ha => ?_))))
 cases g
 exact ⟨_, gu, ge.Yp [0, 1, 2] Y Y, ha.cut (l := [2, 3, 4, 17]) Y⟩
def b5p (n : Nat) (ax1 : Frac) (b1 : Frac) : Option (Frac × Int) :=
 (a2z n ax1).bind fun v1 =>
 (bif !v1 then
  some true
 else
  (a2z n b1).bind fun v6 =>
  some (!v6)).bind fun v2 =>
 bif v2 then
  some ((⟨(⟨0, []⟩ : Big), (⟨0, []⟩ : Big)⟩ : Frac), 1)
 else
  bif b1.P.Sign == 0 then
   some ((⟨(⟨0, []⟩ : Big), (⟨0, []⟩ : Big)⟩ : Frac), 14)
  else
   (a4m n ax1.P b1.Q).bind fun v3 =>
   (a4m n ax1.Q b1.P).bind fun v4 =>
   (b0j n v3.1 v4.1).bind fun v5 =>
   some (v5.1, v5.2)
theorem c5a (n : Nat) (ax1 : Frac) (b1 : Frac) (r : (Frac × Int)) (hm : b5p n ax1 b1 = some r) {w : World} {F : Frz} (hs : Sat F w) {p q s t : Option Addr} {u x y z G H I J : Nat} (Z : SlR (Rp.int .i64) F p u x ax1.P.Digits) (g0 : SlR (Rp.int .i64) F q y z ax1.Q.Digits) (g1 : SlR (Rp.int .i64) F s G H b1.P.Digits) (g2 : SlR (Rp.int .i64) F t I J b1.Q.Digits) :
  Calls Tryz.prog 114 #[.agg #[.int .i64 ax1.P.Sign, .slice p u x, .int .i64 ax1.Q.Sign, .slice q y z], .agg #[.int .i64 b1.P.Sign, .slice s G H, .int .i64 b1.Q.Sign, .slice t I J]] w fun e w' => ∃ v F' O', e = .returned v ∧ HS F w [] F' O' w' ∧ (∃ (a0_1 : Option Addr) (n0_1 : Nat) (c0_1 : Nat) (a0_3 : Option Addr) (n0_3 : Nat) (c0_3 : Nat), v = .tuple #[.agg #[.int .i64 r.1.P.Sign, .slice a0_1 n0_1 c0_1, .int .i64 r.1.Q.Sign, .slice a0_3 n0_3 c0_3], .int .i64 r.2] ∧ O' = [] ∧ SlR (Rp.int .i64) F' a0_1 n0_1 c0_1 r.1.P.Digits ∧ SlR (Rp.int .i64) F' a0_3 n0_3 c0_3 r.1.Q.Digits) := by
 unfold b5p at hm
 have h := HS.init hs
 refine a1a 45 Tryz.func114 Y Y Y (a0h (a0a (a2i Y Y Y Y h ?_)))
 intro b2 h4 gh
 refine a2i Y Y Y Y gh ?_
 intro b3 h5 gi
 refine a1f ze37 Y Y Y gi ?_
 intro b4 h6 M
 refine a0b Y Y Y (a0g (a0c (a0h (a0h (a0a (a0m ag37 sz37 Y Y M Y (i := 2) Y Y ?_))))))
 obtain ⟨v1, gj, hm⟩ := Yb hm
 refine a0i ent74 Y Y Y Y M (a3a _ _ _ gj M.sat Z g0) ?_
 rintro _ gk _ h7 k K ⟨rfl, rfl⟩
 refine a3d Y Y Y (a0d Y Y Y ?_)
 obtain ⟨v2, g, hm⟩ := Yb hm
 refine a1z 4 (fun a w' => ∃ (N : Frz), Frz.le gk N ∧ HS F w [] N [.box b4 37 [.int .i64 0, .slice none 0 0, .int .i64 0, .slice none 0 0], .box b3 37 [.int .i64 b1.P.Sign, .slice s G H, .int .i64 b1.Q.Sign, .slice t I J], .box b2 37 [.int .i64 ax1.P.Sign, .slice p u x, .int .i64 ax1.Q.Sign, .slice q y z]] w' ∧ Has 45 a [(2, .pointer (some ⟨b2, 0, none⟩)), (3, .pointer (some ⟨b3, 0, none⟩)), (4, .pointer (some ⟨b4, 0, none⟩)), (17, .bool v2)]) ?_ ?_
 rintro a h8 ⟨N, L, j, gc⟩
 refine a0z gc (a0g (a0c ?_))
 rcases a0f hm with ⟨R, hm⟩ | ⟨R, hm⟩
 refine a0r 17 Y R (a0y Y (a0h (a0a (a1y (v := .agg #[.int .i64 0, .slice none 0 0, .int .i64 0, .slice none 0 0]) Y Y Y (fun _ => by kernel_rfl) (a0s sz37 Y j Y Y Y Y (i := 0) Y Y Y Y ?_)))))
 intro h9 g3
 refine a0b Y Y Y (a0g (a0c (a1d (a0j (a1o (vl := [.agg #[.int .i64 0, .slice none 0 0, .int .i64 0, .slice none 0 0], .int .i64 1]) Y ⟨a2d ag37 sz37 Y g3 Y (i := 0) Y, a1r Y, trivial⟩ (by simp) ?_)))))
 obtain rfl := Yo hm
 exact ⟨_, _, _, Y, g3.Yp [] Y Y, none, 0, 0, none, 0, 0, Y, Y, SlR.nil _ _, SlR.nil _ _⟩
 refine a0r 17 Y R (a0q Y (a1c (a0c (a0h (a0h (a0a (a0e fa37_0 Y Y Y (a0e fa35_0 Y Y Y (a0p ag3 Y Y j Y (i := 1) Y Y (a0u Y Y Y Y Y (a0g (a0c ?_))))))))))))
 rcases a0f hm with ⟨T, hm⟩ | ⟨T, hm⟩
 refine a0r 22 Y T (a0y Y (a0h (a0a (a1y (v := .agg #[.int .i64 0, .slice none 0 0, .int .i64 0, .slice none 0 0]) Y Y Y (fun _ => by kernel_rfl) (a0s sz37 Y j Y Y Y Y (i := 0) Y Y Y Y ?_)))))
 intro hb g4
 refine a0b Y Y Y (a0g (a0c (a1d (a0j (a1o (vl := [.agg #[.int .i64 0, .slice none 0 0, .int .i64 0, .slice none 0 0], .int .i64 14]) Y ⟨a2d ag37 sz37 Y g4 Y (i := 0) Y, a1r Y, trivial⟩ (by simp) ?_)))))
 obtain rfl := Yo hm
 exact ⟨_, _, _, Y, g4.Yp [] Y Y, none, 0, 0, none, 0, 0, Y, Y, SlR.nil _ _, SlR.nil _ _⟩
 refine a0r 22 Y T (a0q Y (a1c (a0c (a0h (a0a (a0e fa37_0 Y Y Y (a1u (cs' := [.int .i64 ax1.P.Sign, .slice p u x]) ag35 sz35 Y Y j Y (i := 2) Y Y Y (a0e fa37_1 Y Y Y (a1u (cs' := [.int .i64 b1.Q.Sign, .slice t I J]) ag35 sz35 Y Y j Y (i := 1) Y Y Y ?_)))))))))
 obtain ⟨v3, gl, hm⟩ := Yb hm
 refine a0i ent78 Y Y Y Y j (a4w _ _ _ _ gl j.sat ((Z.mono k).mono L) ((g2.mono k).mono L)) ?_
 rintro _ hc _ hd g5 gm ⟨he, hf, hg, rfl, rfl, gn⟩
 refine a0d Y Y Y (a0l Y Y Y Y (a0l Y Y Y Y (a1f ze35 Y Y Y gm ?_)))
 intro b5 hh go
 refine a0s sz35 Y go Y Y Y Y (i := 0) Y Y Y Y ?_
 intro gx m
 refine a0b Y Y Y (a0g (a0c (a0h (a0a (a0e fa37_1 Y Y Y (a1u (cs' := [.int .i64 ax1.Q.Sign, .slice q y z]) ag35 sz35 Y Y m Y (i := 3) Y Y Y (a0e fa37_0 Y Y Y (a1u (cs' := [.int .i64 b1.P.Sign, .slice s G H]) ag35 sz35 Y Y m Y (i := 2) Y Y Y ?_))))))))
 obtain ⟨v4, gp, hm⟩ := Yb hm
 refine a0i ent78 Y Y Y Y m (a4w _ _ _ _ gp m.sat (((g0.mono k).mono L).mono g5) (((g1.mono k).mono L).mono g5)) ?_
 rintro _ hi _ gy gq gd ⟨hj, hk, hl, rfl, rfl, gr⟩
 refine a0d Y Y Y (a0l Y Y Y Y (a0l Y Y Y Y (a1f ze35 Y Y Y gd ?_)))
 intro b6 gz ge
 refine a0s sz35 Y ge Y Y Y Y (i := 0) Y Y Y Y ?_
 intro h0 o
 refine a0b Y Y Y (a0g (a0c (a0h (a0a (a0m ag35 sz35 Y Y o Y (i := 1) Y Y (a0m ag35 sz35 Y Y o Y (i := 0) Y Y ?_))))))
 obtain ⟨v5, gs, hm⟩ := Yb hm
 refine a0i ent58 Y Y Y Y o (b1e _ _ _ _ gs o.sat (gn.mono gq) gr) ?_
 rintro _ hn _ h1 ho gf ⟨g6, g7, g8, g9, ga, gb, rfl, rfl, gt, gu⟩
 refine a0l Y Y Y Y (a0l Y Y Y Y (a0s sz37 Y gf Y Y Y Y (i := 2) Y Y Y Y ?_))
 intro h2 U
 refine a0b Y Y Y (a0g (a0c (a1d (a1o (vl := [.agg #[.int .i64 v5.1.P.Sign, .slice g6 g7 g8, .int .i64 v5.1.Q.Sign, .slice g9 ga gb], .int .i64 v5.2]) Y ⟨a2d ag37 sz37 Y U Y (i := 2) Y, a1r Y, trivial⟩ (by simp) ?_))))
 obtain rfl := Yo hm
 exact ⟨_, _, _, Y, U.Yp [] Y Y, g6, g7, g8, g9, ga, gb, Y, Y, gt, gu⟩
 clear hm
 rcases a0f g with ⟨V, g⟩ | ⟨V, g⟩
 refine a1g 13 Y V (a0t Y (by decide) Y (a0t Y (by decide) Y (a0t Y (by decide) Y (a0n Y Y Y Y (a0g (a0o (fun a ha => ?_)))))))
 cases g
 exact ⟨_, Yf, K.Yp [0, 1, 2] Y Y, ha.cut (l := [2, 3, 4, 17]) Y⟩
 refine a1g 13 Y V (a0m ag37 sz37 Y Y K Y (i := 1) Y Y ?_)
 obtain ⟨v6, gv, g⟩ := Yb g
 refine a0i ent74 Y Y Y Y K (a3a _ _ _ gv K.sat (g1.mono k) (g2.mono k)) ?_
 rintro _ hp _ h3 gw gg ⟨rfl, rfl⟩
 refine a3d Y Y Y (a0k Y Y Y Y (a0g (a0o (fun a ha => ?_))))
 cases g
 exact ⟨_, gw, gg.Yp [0, 1, 2] Y Y, ha.cut (l := [2, 3, 4, 17]) Y⟩
theorem ent26 : Ent Tryz.prog 26 := fun _ _ => by kernel_rfl
def a6t (n : Nat) (nx1 : Int) : Option Frac :=
 (b4c n nx1 1).bind fun v1 =>
 some v1.1
theorem a6y (n : Nat) (nx1 : Int) (r : Frac) (hm : a6t n nx1 = some r) {w : World} {F : Frz} (hs : Sat F w)  :
  Calls Tryz.prog 17 #[.int .i64 nx1] w fun e w' => ∃ v F' O', e = .returned v ∧ HS F w [] F' O' w' ∧ (∃ (a0_1 : Option Addr) (n0_1 : Nat) (c0_1 : Nat) (a0_3 : Option Addr) (n0_3 : Nat) (c0_3 : Nat), v = .agg #[.int .i64 r.P.Sign, .slice a0_1 n0_1 c0_1, .int .i64 r.Q.Sign, .slice a0_3 n0_3 c0_3] ∧ O' = [] ∧ SlR (Rp.int .i64) F' a0_1 n0_1 c0_1 r.P.Digits ∧ SlR (Rp.int .i64) F' a0_3 n0_3 c0_3 r.Q.Digits) := by
 unfold a6t at hm
 have h := HS.init hs
 refine a1a 11 Tryz.func17 Y Y Y (a0h (a0a (a1f ze37 Y Y Y h ?_)))
 intro b1 G g
 refine a0g (a0c (a0h (a0a (a0d Y Y Y ?_))))
 obtain ⟨v1, l, hm⟩ := Yb hm
 refine a0i ent26 Y Y Y Y g (b6w _ _ _ _ l g.sat) ?_
 rintro _ H _ I J m ⟨o, p, q, s, t, u, rfl, rfl, x, y⟩
 refine a0d Y Y Y (a0l Y Y Y Y (a0l Y Y Y Y (a1f ze37 Y Y Y m ?_)))
 intro b2 K z
 refine a0s sz37 Y z Y Y Y Y (i := 0) Y Y Y Y ?_
 intro L j
 refine a0b Y Y Y (a0g (a0c (a0h (a0a (a0m ag37 sz37 Y Y j Y (i := 0) Y Y (a0s sz37 Y j Y Y Y Y (i := 1) Y Y Y Y ?_))))))
 intro M k
 refine a0g (a0c (a1d (a3y Y ag37 sz37 Y k Y (i := 1) Y ?_)))
 obtain rfl := Yo hm
 exact ⟨_, _, _, Y, k.Yp [] Y Y, o, p, q, s, t, u, Y, Y, x, y⟩
def a8j (n : Nat) (f1 : Frac) : Option Int :=
 (a2z n f1).bind fun v1 =>
 bif !v1 then
  some 0
 else
  some f1.P.Sign
theorem b7k (n : Nat) (f1 : Frac) (r : Int) (hm : a8j n f1 = some r) {w : World} {F : Frz} (hs : Sat F w) {l m : Option Addr} {o p q s : Nat} (t : SlR (Rp.int .i64) F l o p f1.P.Digits) (u : SlR (Rp.int .i64) F m q s f1.Q.Digits) :
  Calls Tryz.prog 42 #[.agg #[.int .i64 f1.P.Sign, .slice l o p, .int .i64 f1.Q.Sign, .slice m q s]] w fun e w' => ∃ v F' O', e = .returned v ∧ HS F w [] F' O' w' ∧ (v = .int .i64 r ∧ O' = []) := by
 unfold a8j at hm
 have h := HS.init hs
 refine a1a 9 Tryz.func42 Y Y Y (a0h (a0a (a2i Y Y Y Y h ?_)))
 intro b1 y g
 refine a0b Y Y Y (a0g (a0c (a0h (a0h (a0a (a0m ag37 sz37 Y Y g Y (i := 0) Y Y ?_))))))
 obtain ⟨v1, x, hm⟩ := Yb hm
 refine a0i ent74 Y Y Y Y g (a3a _ _ _ x g.sat t u) ?_
 rintro _ z _ G H j ⟨rfl, rfl⟩
 refine a3d Y Y Y (a0g (a0c ?_))
 rcases a0f hm with ⟨k, hm⟩ | ⟨k, hm⟩
 refine a0r 5 Y k (a0y Y (a0h (a0a (a0b Y Y Y (a0g (a0c (a1d (a0j (a1j Y Y ?_)))))))))
 obtain rfl := Yo hm
 exact ⟨_, _, _, Y, j.Yp [] Y Y, Y, Y⟩
 refine a0r 5 Y k (a0q Y (a1c (a0c (a0h (a0a (a0e fa37_0 Y Y Y (a0e fa35_0 Y Y Y (a0p ag3 Y Y j Y (i := 0) Y Y (a0b Y Y Y (a0g (a0c (a1d (a1j Y Y ?_)))))))))))))
 obtain rfl := Yo hm
 exact ⟨_, _, _, Y, j.Yp [] Y Y, Y, Y⟩
def a5t (n : Nat) (ax1 : Frac) (b1 : Frac) : Option Int :=
 (a2z n ax1).bind fun v1 =>
 (bif !v1 then
  some true
 else
  (a2z n b1).bind fun v6 =>
  some (!v6)).bind fun v2 =>
 bif v2 then
  some 0
 else
  (a4m n ax1.P b1.Q).bind fun v3 =>
  (a4m n b1.P ax1.Q).bind fun v4 =>
  (a8g n v3.1 v4.1).bind fun v5 =>
  some v5
theorem a7k (n : Nat) (ax1 : Frac) (b1 : Frac) (r : Int) (hm : a5t n ax1 b1 = some r) {w : World} {F : Frz} (hs : Sat F w) {o p q s : Option Addr} {t u x y z G H I : Nat} (U : SlR (Rp.int .i64) F o t u ax1.P.Digits) (V : SlR (Rp.int .i64) F p x y ax1.Q.Digits) (Z : SlR (Rp.int .i64) F q z G b1.P.Digits) (g0 : SlR (Rp.int .i64) F s H I b1.Q.Digits) :
  Calls Tryz.prog 41 #[.agg #[.int .i64 ax1.P.Sign, .slice o t u, .int .i64 ax1.Q.Sign, .slice p x y], .agg #[.int .i64 b1.P.Sign, .slice q z G, .int .i64 b1.Q.Sign, .slice s H I]] w fun e w' => ∃ v F' O', e = .returned v ∧ HS F w [] F' O' w' ∧ (v = .int .i64 r ∧ O' = []) := by
 unfold a5t at hm
 have h := HS.init hs
 refine a1a 36 Tryz.func41 Y Y Y (a0h (a0a (a2i Y Y Y Y h ?_)))
 intro b2 gn g5
 refine a2i Y Y Y Y g5 ?_
 intro b3 go M
 refine a0b Y Y Y (a0g (a0c (a0h (a0h (a0a (a0m ag37 sz37 Y Y M Y (i := 1) Y Y ?_))))))
 obtain ⟨v1, g6, hm⟩ := Yb hm
 refine a0i ent74 Y Y Y Y M (a3a _ _ _ g6 M.sat U V) ?_
 rintro _ g7 _ gp j J ⟨rfl, rfl⟩
 refine a3d Y Y Y (a0d Y Y Y ?_)
 obtain ⟨v2, g, hm⟩ := Yb hm
 refine a1z 4 (fun a w' => ∃ (N : Frz), Frz.le g7 N ∧ HS F w [] N [.box b3 37 [.int .i64 b1.P.Sign, .slice q z G, .int .i64 b1.Q.Sign, .slice s H I], .box b2 37 [.int .i64 ax1.P.Sign, .slice o t u, .int .i64 ax1.Q.Sign, .slice p x y]] w' ∧ Has 36 a [(2, .pointer (some ⟨b2, 0, none⟩)), (3, .pointer (some ⟨b3, 0, none⟩)), (16, .bool v2)]) ?_ ?_
 rintro a gq ⟨N, K, m, g2⟩
 refine a0z g2 (a0g (a0c ?_))
 rcases a0f hm with ⟨R, hm⟩ | ⟨R, hm⟩
 refine a0r 16 Y R (a0y Y (a0h (a0a (a0b Y Y Y (a0g (a0c (a1d (a0j (a1j Y Y ?_)))))))))
 obtain rfl := Yo hm
 exact ⟨_, _, _, Y, m.Yp [] Y Y, Y, Y⟩
 refine a0r 16 Y R (a0q Y (a1c (a0c (a0h (a0a (a0e fa37_0 Y Y Y (a1u (cs' := [.int .i64 ax1.P.Sign, .slice o t u]) ag35 sz35 Y Y m Y (i := 1) Y Y Y (a0e fa37_1 Y Y Y (a1u (cs' := [.int .i64 b1.Q.Sign, .slice s H I]) ag35 sz35 Y Y m Y (i := 0) Y Y Y ?_)))))))))
 obtain ⟨v3, g8, hm⟩ := Yb hm
 refine a0i ent78 Y Y Y Y m (a4w _ _ _ _ g8 m.sat ((U.mono j).mono K) ((g0.mono j).mono K)) ?_
 rintro _ gr _ gs g1 g9 ⟨gt, gu, gv, rfl, rfl, ga⟩
 refine a0d Y Y Y (a0l Y Y Y Y (a0l Y Y Y Y (a1f ze35 Y Y Y g9 ?_)))
 intro b4 gw gb
 refine a0s sz35 Y gb Y Y Y Y (i := 0) Y Y Y Y ?_
 intro gx L
 refine a0b Y Y Y (a0g (a0c (a0h (a0a (a0e fa37_0 Y Y Y (a1u (cs' := [.int .i64 b1.P.Sign, .slice q z G]) ag35 sz35 Y Y L Y (i := 1) Y Y Y (a0e fa37_1 Y Y Y (a1u (cs' := [.int .i64 ax1.Q.Sign, .slice p x y]) ag35 sz35 Y Y L Y (i := 2) Y Y Y ?_))))))))
 obtain ⟨v4, gc, hm⟩ := Yb hm
 refine a0i ent78 Y Y Y Y L (a4w _ _ _ _ gc L.sat (((Z.mono j).mono K).mono g1) (((V.mono j).mono K).mono g1)) ?_
 rintro _ gy _ gz gd ge ⟨h0, h1, h2, rfl, rfl, gf⟩
 refine a0d Y Y Y (a0l Y Y Y Y (a0l Y Y Y Y (a1f ze35 Y Y Y ge ?_)))
 intro b5 h3 gg
 refine a0s sz35 Y gg Y Y Y Y (i := 0) Y Y Y Y ?_
 intro gk k
 refine a0b Y Y Y (a0g (a0c (a0h (a0a (a0m ag35 sz35 Y Y k Y (i := 1) Y Y (a0m ag35 sz35 Y Y k Y (i := 0) Y Y ?_))))))
 obtain ⟨v5, gh, hm⟩ := Yb hm
 refine a0i ent79 Y Y Y Y k (b4h _ _ _ _ gh k.sat (ga.mono gd) gf) ?_
 rintro _ h4 _ gl h5 g3 ⟨rfl, rfl⟩
 refine a0b Y Y Y (a0g (a0c (a1d (a1j Y Y ?_))))
 obtain rfl := Yo hm
 exact ⟨_, _, _, Y, g3.Yp [] Y Y, Y, Y⟩
 clear hm
 rcases a0f g with ⟨T, g⟩ | ⟨T, g⟩
 refine a1g 12 Y T (a0t Y (by decide) Y (a0t Y (by decide) Y (a0t Y (by decide) Y (a0n Y Y Y Y (a0g (a0o (fun a ha => ?_)))))))
 cases g
 exact ⟨_, Yf, J.Yp [0, 1] Y Y, ha.cut (l := [2, 3, 16]) Y⟩
 refine a1g 12 Y T (a0m ag37 sz37 Y Y J Y (i := 0) Y Y ?_)
 obtain ⟨v6, gi, g⟩ := Yb g
 refine a0i ent74 Y Y Y Y J (a3a _ _ _ gi J.sat (Z.mono j) (g0.mono j)) ?_
 rintro _ h6 _ gm gj g4 ⟨rfl, rfl⟩
 refine a3d Y Y Y (a0k Y Y Y Y (a0g (a0o (fun a ha => ?_))))
 cases g
 exact ⟨_, gj, g4.Yp [0, 1] Y Y, ha.cut (l := [2, 3, 16]) Y⟩
theorem ent41 : Ent Tryz.prog 41 := fun _ _ => by kernel_rfl
def b4u (n : Nat) (ax1 : Frac) (b1 : Frac) : Option (Frac × Int) :=
 (a2z n ax1).bind fun v1 =>
 (bif !v1 then
  some true
 else
  (a2z n b1).bind fun v4 =>
  some (!v4)).bind fun v2 =>
 bif v2 then
  some ((⟨(⟨0, []⟩ : Big), (⟨0, []⟩ : Big)⟩ : Frac), 1)
 else
  (a5t n ax1 b1).bind fun v3 =>
  bif decide (v3 ≤ 0) then
   some (ax1, 0)
  else
   some (b1, 0)
theorem c5p (n : Nat) (ax1 : Frac) (b1 : Frac) (r : (Frac × Int)) (hm : b4u n ax1 b1 = some r) {w : World} {F : Frz} (hs : Sat F w) {m o p q : Option Addr} {s t u x y z G H : Nat} (M : SlR (Rp.int .i64) F m s t ax1.P.Digits) (N : SlR (Rp.int .i64) F o u x ax1.Q.Digits) (R : SlR (Rp.int .i64) F p y z b1.P.Digits) (T : SlR (Rp.int .i64) F q G H b1.Q.Digits) :
  Calls Tryz.prog 115 #[.agg #[.int .i64 ax1.P.Sign, .slice m s t, .int .i64 ax1.Q.Sign, .slice o u x], .agg #[.int .i64 b1.P.Sign, .slice p y z, .int .i64 b1.Q.Sign, .slice q G H]] w fun e w' => ∃ v F' O', e = .returned v ∧ HS F w [] F' O' w' ∧ (∃ (a0_1 : Option Addr) (n0_1 : Nat) (c0_1 : Nat) (a0_3 : Option Addr) (n0_3 : Nat) (c0_3 : Nat), v = .tuple #[.agg #[.int .i64 r.1.P.Sign, .slice a0_1 n0_1 c0_1, .int .i64 r.1.Q.Sign, .slice a0_3 n0_3 c0_3], .int .i64 r.2] ∧ O' = [] ∧ SlR (Rp.int .i64) F' a0_1 n0_1 c0_1 r.1.P.Digits ∧ SlR (Rp.int .i64) F' a0_3 n0_3 c0_3 r.1.Q.Digits) := by
 unfold b4u at hm
 have h := HS.init hs
 refine a1a 21 Tryz.func115 Y Y Y (a0h (a0a (a2i Y Y Y Y h ?_)))
 intro b2 gf g7
 refine a2i Y Y Y Y g7 ?_
 intro b3 gg g8
 refine a1f ze37 Y Y Y g8 ?_
 intro b4 gh U
 refine a0b Y Y Y (a0g (a0c (a0h (a0h (a0a (a0m ag37 sz37 Y Y U Y (i := 2) Y Y ?_))))))
 obtain ⟨v1, g9, hm⟩ := Yb hm
 refine a0i ent74 Y Y Y Y U (a3a _ _ _ g9 U.sat M N) ?_
 rintro _ ga _ gi g J ⟨rfl, rfl⟩
 refine a3d Y Y Y (a0d Y Y Y ?_)
 obtain ⟨v2, k, hm⟩ := Yb hm
 refine a1z 4 (fun a w' => ∃ (V : Frz), Frz.le ga V ∧ HS F w [] V [.box b4 37 [.int .i64 0, .slice none 0 0, .int .i64 0, .slice none 0 0], .box b3 37 [.int .i64 b1.P.Sign, .slice p y z, .int .i64 b1.Q.Sign, .slice q G H], .box b2 37 [.int .i64 ax1.P.Sign, .slice m s t, .int .i64 ax1.Q.Sign, .slice o u x]] w' ∧ Has 21 a [(2, .pointer (some ⟨b2, 0, none⟩)), (3, .pointer (some ⟨b3, 0, none⟩)), (4, .pointer (some ⟨b4, 0, none⟩)), (13, .bool v2)]) ?_ ?_
 rintro a gj ⟨V, j, I, g5⟩
 refine a0z g5 (a0g (a0c ?_))
 rcases a0f hm with ⟨Z, hm⟩ | ⟨Z, hm⟩
 refine a0r 13 Y Z (a0y Y (a0h (a0a (a1y (v := .agg #[.int .i64 0, .slice none 0 0, .int .i64 0, .slice none 0 0]) Y Y Y (fun _ => by kernel_rfl) (a0s sz37 Y I Y Y Y Y (i := 0) Y Y Y Y ?_)))))
 intro gk g2
 refine a0b Y Y Y (a0g (a0c (a1d (a0j (a1o (vl := [.agg #[.int .i64 0, .slice none 0 0, .int .i64 0, .slice none 0 0], .int .i64 1]) Y ⟨a2d ag37 sz37 Y g2 Y (i := 0) Y, a1r Y, trivial⟩ (by simp) ?_)))))
 obtain rfl := Yo hm
 exact ⟨_, _, _, Y, g2.Yp [] Y Y, none, 0, 0, none, 0, 0, Y, Y, SlR.nil _ _, SlR.nil _ _⟩
 refine a0r 13 Y Z (a0q Y (a1c (a0c (a0h (a0h (a0a (a0m ag37 sz37 Y Y I Y (i := 2) Y Y (a0m ag37 sz37 Y Y I Y (i := 1) Y Y ?_))))))))
 obtain ⟨v3, gb, hm⟩ := Yb hm
 refine a0i ent41 Y Y Y Y I (a7k _ _ _ _ gb I.sat ((M.mono g).mono j) ((N.mono g).mono j) ((R.mono g).mono j) ((T.mono g).mono j)) ?_
 rintro _ gl _ gm K L ⟨rfl, rfl⟩
 refine a0u Y Y Y Y Y (a0g (a0c ?_))
 rcases a0f hm with ⟨g0, hm⟩ | ⟨g0, hm⟩
 refine a0r 18 Y g0 (a0y Y (a0h (a0a (a0m ag37 sz37 Y Y L Y (i := 2) Y Y (a0s sz37 Y L Y Y Y Y (i := 0) Y Y Y Y ?_)))))
 intro gn g3
 refine a0b Y Y Y (a0g (a0c (a1d (a0j (a1o (vl := [.agg #[.int .i64 ax1.P.Sign, .slice m s t, .int .i64 ax1.Q.Sign, .slice o u x], .int .i64 0]) Y ⟨a2d ag37 sz37 Y g3 Y (i := 0) Y, a1r Y, trivial⟩ (by simp) ?_)))))
 obtain rfl := Yo hm
 exact ⟨_, _, _, Y, g3.Yp [] Y Y, m, s, t, o, u, x, Y, Y, (((M.mono g).mono j).mono K), (((N.mono g).mono j).mono K)⟩
 refine a0r 18 Y g0 (a0q Y (a1c (a0c (a0h (a0a (a0m ag37 sz37 Y Y L Y (i := 1) Y Y (a0s sz37 Y L Y Y Y Y (i := 0) Y Y Y Y ?_)))))))
 intro go g4
 refine a0b Y Y Y (a0g (a0c (a1d (a1o (vl := [.agg #[.int .i64 b1.P.Sign, .slice p y z, .int .i64 b1.Q.Sign, .slice q G H], .int .i64 0]) Y ⟨a2d ag37 sz37 Y g4 Y (i := 0) Y, a1r Y, trivial⟩ (by simp) ?_))))
 obtain rfl := Yo hm
 exact ⟨_, _, _, Y, g4.Yp [] Y Y, p, y, z, q, G, H, Y, Y, (((R.mono g).mono j).mono K), (((T.mono g).mono j).mono K)⟩
 clear hm
 rcases a0f k with ⟨g1, k⟩ | ⟨g1, k⟩
 refine a1g 9 Y g1 (a0t Y (by decide) Y (a0t Y (by decide) Y (a0t Y (by decide) Y (a0n Y Y Y Y (a0g (a0o (fun a ha => ?_)))))))
 cases k
 exact ⟨_, Yf, J.Yp [0, 1, 2] Y Y, ha.cut (l := [2, 3, 4, 13]) Y⟩
 refine a1g 9 Y g1 (a0m ag37 sz37 Y Y J Y (i := 1) Y Y ?_)
 obtain ⟨v4, gc, k⟩ := Yb k
 refine a0i ent74 Y Y Y Y J (a3a _ _ _ gc J.sat (R.mono g) (T.mono g)) ?_
 rintro _ gp _ ge gd g6 ⟨rfl, rfl⟩
 refine a3d Y Y Y (a0k Y Y Y Y (a0g (a0o (fun a ha => ?_))))
 cases k
 exact ⟨_, gd, g6.Yp [0, 1, 2] Y Y, ha.cut (l := [2, 3, 4, 13]) Y⟩
def b5f (n : Nat) (ax1 : Frac) (b1 : Frac) : Option (Frac × Int) :=
 (a2z n ax1).bind fun v1 =>
 (bif !v1 then
  some true
 else
  (a2z n b1).bind fun v4 =>
  some (!v4)).bind fun v2 =>
 bif v2 then
  some ((⟨(⟨0, []⟩ : Big), (⟨0, []⟩ : Big)⟩ : Frac), 1)
 else
  (a5t n ax1 b1).bind fun v3 =>
  bif decide (0 ≤ v3) then
   some (ax1, 0)
  else
   some (b1, 0)
theorem c4u (n : Nat) (ax1 : Frac) (b1 : Frac) (r : (Frac × Int)) (hm : b5f n ax1 b1 = some r) {w : World} {F : Frz} (hs : Sat F w) {m o p q : Option Addr} {s t u x y z G H : Nat} (M : SlR (Rp.int .i64) F m s t ax1.P.Digits) (N : SlR (Rp.int .i64) F o u x ax1.Q.Digits) (R : SlR (Rp.int .i64) F p y z b1.P.Digits) (T : SlR (Rp.int .i64) F q G H b1.Q.Digits) :
  Calls Tryz.prog 116 #[.agg #[.int .i64 ax1.P.Sign, .slice m s t, .int .i64 ax1.Q.Sign, .slice o u x], .agg #[.int .i64 b1.P.Sign, .slice p y z, .int .i64 b1.Q.Sign, .slice q G H]] w fun e w' => ∃ v F' O', e = .returned v ∧ HS F w [] F' O' w' ∧ (∃ (a0_1 : Option Addr) (n0_1 : Nat) (c0_1 : Nat) (a0_3 : Option Addr) (n0_3 : Nat) (c0_3 : Nat), v = .tuple #[.agg #[.int .i64 r.1.P.Sign, .slice a0_1 n0_1 c0_1, .int .i64 r.1.Q.Sign, .slice a0_3 n0_3 c0_3], .int .i64 r.2] ∧ O' = [] ∧ SlR (Rp.int .i64) F' a0_1 n0_1 c0_1 r.1.P.Digits ∧ SlR (Rp.int .i64) F' a0_3 n0_3 c0_3 r.1.Q.Digits) := by
 unfold b5f at hm
 have h := HS.init hs
 refine a1a 21 Tryz.func116 Y Y Y (a0h (a0a (a2i Y Y Y Y h ?_)))
 intro b2 gf g7
 refine a2i Y Y Y Y g7 ?_
 intro b3 gg g8
 refine a1f ze37 Y Y Y g8 ?_
 intro b4 gh U
 refine a0b Y Y Y (a0g (a0c (a0h (a0h (a0a (a0m ag37 sz37 Y Y U Y (i := 2) Y Y ?_))))))
 obtain ⟨v1, g9, hm⟩ := Yb hm
 refine a0i ent74 Y Y Y Y U (a3a _ _ _ g9 U.sat M N) ?_
 rintro _ ga _ gi g J ⟨rfl, rfl⟩
 refine a3d Y Y Y (a0d Y Y Y ?_)
 obtain ⟨v2, k, hm⟩ := Yb hm
 refine a1z 4 (fun a w' => ∃ (V : Frz), Frz.le ga V ∧ HS F w [] V [.box b4 37 [.int .i64 0, .slice none 0 0, .int .i64 0, .slice none 0 0], .box b3 37 [.int .i64 b1.P.Sign, .slice p y z, .int .i64 b1.Q.Sign, .slice q G H], .box b2 37 [.int .i64 ax1.P.Sign, .slice m s t, .int .i64 ax1.Q.Sign, .slice o u x]] w' ∧ Has 21 a [(2, .pointer (some ⟨b2, 0, none⟩)), (3, .pointer (some ⟨b3, 0, none⟩)), (4, .pointer (some ⟨b4, 0, none⟩)), (13, .bool v2)]) ?_ ?_
 rintro a gj ⟨V, j, I, g5⟩
 refine a0z g5 (a0g (a0c ?_))
 rcases a0f hm with ⟨Z, hm⟩ | ⟨Z, hm⟩
 refine a0r 13 Y Z (a0y Y (a0h (a0a (a1y (v := .agg #[.int .i64 0, .slice none 0 0, .int .i64 0, .slice none 0 0]) Y Y Y (fun _ => by kernel_rfl) (a0s sz37 Y I Y Y Y Y (i := 0) Y Y Y Y ?_)))))
 intro gk g2
 refine a0b Y Y Y (a0g (a0c (a1d (a0j (a1o (vl := [.agg #[.int .i64 0, .slice none 0 0, .int .i64 0, .slice none 0 0], .int .i64 1]) Y ⟨a2d ag37 sz37 Y g2 Y (i := 0) Y, a1r Y, trivial⟩ (by simp) ?_)))))
 obtain rfl := Yo hm
 exact ⟨_, _, _, Y, g2.Yp [] Y Y, none, 0, 0, none, 0, 0, Y, Y, SlR.nil _ _, SlR.nil _ _⟩
 refine a0r 13 Y Z (a0q Y (a1c (a0c (a0h (a0h (a0a (a0m ag37 sz37 Y Y I Y (i := 2) Y Y (a0m ag37 sz37 Y Y I Y (i := 1) Y Y ?_))))))))
 obtain ⟨v3, gb, hm⟩ := Yb hm
 refine a0i ent41 Y Y Y Y I (a7k _ _ _ _ gb I.sat ((M.mono g).mono j) ((N.mono g).mono j) ((R.mono g).mono j) ((T.mono g).mono j)) ?_
 rintro _ gl _ gm K L ⟨rfl, rfl⟩
 refine a0u Y Y Y Y Y (a0g (a0c ?_))
 rcases a0f hm with ⟨g0, hm⟩ | ⟨g0, hm⟩
 refine a0r 18 Y g0 (a0y Y (a0h (a0a (a0m ag37 sz37 Y Y L Y (i := 2) Y Y (a0s sz37 Y L Y Y Y Y (i := 0) Y Y Y Y ?_)))))
 intro gn g3
 refine a0b Y Y Y (a0g (a0c (a1d (a0j (a1o (vl := [.agg #[.int .i64 ax1.P.Sign, .slice m s t, .int .i64 ax1.Q.Sign, .slice o u x], .int .i64 0]) Y ⟨a2d ag37 sz37 Y g3 Y (i := 0) Y, a1r Y, trivial⟩ (by simp) ?_)))))
 obtain rfl := Yo hm
 exact ⟨_, _, _, Y, g3.Yp [] Y Y, m, s, t, o, u, x, Y, Y, (((M.mono g).mono j).mono K), (((N.mono g).mono j).mono K)⟩
 refine a0r 18 Y g0 (a0q Y (a1c (a0c (a0h (a0a (a0m ag37 sz37 Y Y L Y (i := 1) Y Y (a0s sz37 Y L Y Y Y Y (i := 0) Y Y Y Y ?_)))))))
 intro go g4
 refine a0b Y Y Y (a0g (a0c (a1d (a1o (vl := [.agg #[.int .i64 b1.P.Sign, .slice p y z, .int .i64 b1.Q.Sign, .slice q G H], .int .i64 0]) Y ⟨a2d ag37 sz37 Y g4 Y (i := 0) Y, a1r Y, trivial⟩ (by simp) ?_))))
 obtain rfl := Yo hm
 exact ⟨_, _, _, Y, g4.Yp [] Y Y, p, y, z, q, G, H, Y, Y, (((R.mono g).mono j).mono K), (((T.mono g).mono j).mono K)⟩
 clear hm
 rcases a0f k with ⟨g1, k⟩ | ⟨g1, k⟩
 refine a1g 9 Y g1 (a0t Y (by decide) Y (a0t Y (by decide) Y (a0t Y (by decide) Y (a0n Y Y Y Y (a0g (a0o (fun a ha => ?_)))))))
 cases k
 exact ⟨_, Yf, J.Yp [0, 1, 2] Y Y, ha.cut (l := [2, 3, 4, 13]) Y⟩
 refine a1g 9 Y g1 (a0m ag37 sz37 Y Y J Y (i := 1) Y Y ?_)
 obtain ⟨v4, gc, k⟩ := Yb k
 refine a0i ent74 Y Y Y Y J (a3a _ _ _ gc J.sat (R.mono g) (T.mono g)) ?_
 rintro _ gp _ ge gd g6 ⟨rfl, rfl⟩
 refine a3d Y Y Y (a0k Y Y Y Y (a0g (a0o (fun a ha => ?_))))
 cases k
 exact ⟨_, gd, g6.Yp [0, 1, 2] Y Y, ha.cut (l := [2, 3, 4, 13]) Y⟩
end Go.Proofs.YtknpjecpcmajiaaGreat.M

