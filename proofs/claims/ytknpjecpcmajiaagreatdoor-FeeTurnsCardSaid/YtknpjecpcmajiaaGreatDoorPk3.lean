/- Several texts in one, for FeeTurns.card: what the theorem leans on. -/
import Derived.Test.YtknpjecpcmajiaaGreatDoorRows
import Derived.Test.YtknpjecpcmajiaaGreatDoorPk2
set_option maxHeartbeats 1000000
set_option maxRecDepth 1000000
namespace Go.Proofs.YtknpjecpcmajiaaGreatDoor.M
open Go Go.RowKit Rt
def a4w (n : Nat) (ax1 : Big) (b1 : Big) (kont1 : Option Bool) : Nat → Int → Option Bool
 | 0, _ => none
 | mx1 + 1, i1 =>
  bif decide (i1 < (ax1.Digits.length : Int)) then
   (ix ax1.Digits i1).bind fun ex1 =>
   (ix b1.Digits i1).bind fun ex2 =>
   bif ex1 != ex2 then
    some false
   else
    a4w n ax1 b1 kont1 mx1 (iadd .i64 i1 1)
  else
   kont1
theorem a9j (n : Nat) (ax1 : Big) (b1 : Big) (kont1 : Option Bool) (mx1 : Nat) (i1 : Int) : a4w n ax1 b1 kont1 (mx1 + 1) i1 =
  bif decide (i1 < (ax1.Digits.length : Int)) then
   (ix ax1.Digits i1).bind fun ex1 =>
   (ix b1.Digits i1).bind fun ex2 =>
   bif ex1 != ex2 then
    some false
   else
    a4w n ax1 b1 kont1 mx1 (iadd .i64 i1 1)
  else
   kont1 := rfl
def a8c (n : Nat) (ax1 : Big) (b1 : Big) : Option Bool :=
 (bif ax1.Sign != b1.Sign then
  some true
 else
  some ((ax1.Digits.length : Int) != (b1.Digits.length : Int))).bind fun v1 =>
 bif v1 then
  some false
 else
  a4w n ax1 b1 (
   some true) n 0
theorem b3o (n : Nat) (ax1 : Big) (b1 : Big) (r : Bool) (hm : a8c n ax1 b1 = some r) {w : World} {F : Frz} (hs : Sat F w) {t u : Option Addr} {x k z o : Nat} (G : SlR (Rp.int .i64) F t x k ax1.Digits) (U : SlR (Rp.int .i64) F u z o b1.Digits) :
  Calls Tryz.prog 38 #[.agg #[.int .i64 ax1.Sign, .slice t x k], .agg #[.int .i64 b1.Sign, .slice u z o]] w fun e w' => ∃ v F' O', e = .returned v ∧ HS F w [] F' O' w' ∧ (v = .bool r ∧ O' = []) := by
 unfold a8c at hm
 have h := HS.init hs
 refine a1a 38 Tryz.func38 Y Y Y (a0g (a0a (a2z Y Y Y Y h ?_)))
 intro b2 gf g3
 refine a2z Y Y Y Y g3 ?_
 intro b3 g4 g
 refine a0b Y Y Y (a0e (a0c (a0g (a0g (a0a (a0f fa35_0 Y Y Y (a0n ag3 Y Y g Y (i := 1) Y Y (a0f fa35_0 Y Y Y (a0n ag3 Y Y g Y (i := 0) Y Y (a0u Y Y Y Y Y (a0d Y Y Y ?_)))))))))))
 obtain ⟨v1, p, hm⟩ := Yb hm
 refine a2g 8 (fun a w' => g4 = w' ∧ Has 38 a [(2, .pointer (some ⟨b2, 0, none⟩)), (3, .pointer (some ⟨b3, 0, none⟩)), (19, .bool v1)]) ?_ ?_
 rintro a gg ⟨rfl, Z⟩
 refine a1d Z (a0e (a0c ?_))
 rcases a0h hm with ⟨H, hm⟩ | ⟨H, hm⟩
 refine a0r 19 Y H (a0x Y (a0g (a0a (a0b Y Y Y (a0e (a0c (a1c (a0j (a1n Y Y ?_)))))))))
 obtain rfl := Yo hm
 exact ⟨_, _, _, Y, g.Yp [] Y Y, Y, Y⟩
 refine a0r 19 Y H (a0p Y (a1b (a0c (a0g (a0g (a0a (a0b Y Y Y (a0e (a0c (a1j ?_))))))))))
 intro a g0
 obtain ⟨kont1, hkont1⟩ : ∃ kont1 : Option Bool, kont1 = ( some true) := ⟨_, Y⟩
 replace hm : (fun m (s : Int) => a4w n ax1 b1 kont1 m s) n 0 = some r := by rw [hkont1]; exact hm
 refine a5j (id := 0) (fun m (s : Int) => a4w n ax1 b1 kont1 m s) (fun (y : Unit) => kont1) r (fun (s : Int) a w' => ∃ (I : Frz), Frz.le F I ∧ HS F w [] I [.box b3 35 [.int .i64 b1.Sign, .slice u z o], .box b2 35 [.int .i64 ax1.Sign, .slice t x k]] w' ∧ Has 38 a [(2, .pointer (some ⟨b2, 0, none⟩)), (3, .pointer (some ⟨b3, 0, none⟩)), (5, .int .i64 s)]) (fun (y : Unit) a w' => ∃ (J : Frz), Frz.le F J ∧ HS F w [] J [] w' ∧ Has 38 a []) (fun _ => Y) ?_ ?_ hm ⟨_, Yf, g.Yp [0, 1] Y Y, g0.cut (l := [2, 3, 5]) Y⟩
 clear hm; rintro _u a gh hm ⟨J, gi, g5, g1⟩
 rw [hkont1] at hm
 refine a2c (e := .exit 0) g1 (a1m (a0c (a0g (a0a (a0b Y Y Y (a0e (a0c (a1c (a1n Y Y ?_)))))))))
 obtain rfl := Yo hm
 exact ⟨_, _, _, Y, g5.Yp [] Y Y, Y, Y⟩
 clear hm hkont1; intro hk1 mx1 K ihx1
 rintro i1 a gj hm ⟨I, q, L, g2⟩
 simp only [a9j] at hm
 refine a1l g2 (a0g (a0g (a0a (a0d Y Y Y (a0f fa35_1 Y Y Y (a0n ag28 Y Y L Y (i := 1) Y Y (a1y G.len u28 Y Y Y (a0u Y Y Y Y Y (a0e (a0c ?_))))))))))
 rcases a0h hm with ⟨M, hm⟩ | ⟨M, hm⟩
 refine a0r 24 Y M (a0x Y (a1b (a0c (a0g (a1j (a0g (a3n (by kernel_rfl) (by kernel_rfl) L (a1e Y Y Y Y (fun _ _ _ _ => a0f fa35_1 Y Y Y Yn) (a1e Y Y Y Y (fun _ _ _ hq => a0n ag28 Y Y hq Y (i := 1) Y Y Yn) (a1e Y Y Y Y (fun _ _ _ _ => a0d Y Y Y Yn) ?_))))))))))
 obtain ⟨ex1, g6, hm⟩ := Yb hm
 obtain ⟨b4, o1, k, g7, g8, R⟩ := a2k (P := Tryz.prog) (r := (Rp.int .i64)) u28 sz3 (G.mono q) g6
 have g9 : k = [.int .i64 ex1] := g8
 subst g9
 refine a2s Y Y Y Y R (a1e Y Y Y Y (fun _ _ hleq hq => a2j (j := 0) ag3 Y Y hq (g7.mono hleq) Y Y Yn) (a1e Y Y Y Y (fun _ _ _ _ => a0f fa35_1 Y Y Y Yn) (a1e Y Y Y Y (fun _ _ _ hq => a0n ag28 Y Y hq Y (i := 0) Y Y Yn) (a1e Y Y Y Y (fun _ _ _ _ => a0d Y Y Y Yn) ?_))))
 obtain ⟨ex2, ga, hm⟩ := Yb hm
 obtain ⟨b5, o2, o, gb, gc, T⟩ := a2k (P := Tryz.prog) (r := (Rp.int .i64)) u28 sz3 (U.mono q) ga
 have gd : o = [.int .i64 ex2] := gc
 subst gd
 refine a2s Y Y Y Y T (a1e Y Y Y Y (fun _ _ hleq hq => a2j (j := 0) ag3 Y Y hq (gb.mono hleq) Y Y Yn) (a1e Y Y Y Y (fun _ _ _ _ => a0u Y Y Y Y Y Yn) (b0z ?_)))
 rintro gk ⟨gl, ge, V⟩
 refine a0c ?_
 rcases a0h hm with ⟨N, hm⟩ | ⟨N, hm⟩
 refine a0r 37 Y N (a0x Y (a0g (a0a (a0b Y Y Y (a0e (a0c (a1c (a0t (a0j (a0j (a0t (a0j (a1n Y Y ?_)))))))))))))
 obtain rfl := Yo hm
 exact ⟨_, _, _, Y, V.Yp [] Y Y, Y, Y⟩
 refine a0r 37 Y N (a0p Y (a1b (a1o (a0c (a0a (a0d Y Y Y (a0u Y Y Y Y Y (a0b Y Y Y (a0e (a0k (fun a ha => ihx1 (iadd .i64 i1 1) a _ hm ?_)))))))))))
 exact ⟨_, (q.trans ge), V.Yp [0, 1] Y Y, ha.cut (l := [2, 3, 5]) Y⟩
 refine a0r 24 Y M (a0p Y (a3p (a0w (a0w (fun a ha => hk1 () a _ hm ?_)))))
 exact ⟨_, q, L.Yp [] Y Y, ha.cut (l := []) Y⟩
 clear hm
 rcases a0h p with ⟨Q, p⟩ | ⟨Q, p⟩
 refine a1k 11 Y Q (a0y Y (by decide) Y (a0y Y (by decide) Y (a0y Y (by decide) Y (a0y Y (by decide) Y (a0y Y (by decide) Y (a0y Y (by decide) Y (a0y Y (by decide) Y (a0s Y Y Y Y (a0e (a0k (fun a ha => ?_)))))))))))
 cases p
 exact ⟨Y, ha.cut (l := [2, 3, 19]) Y⟩
 refine a1k 11 Y Q (a0f fa35_1 Y Y Y (a0n ag28 Y Y g Y (i := 1) Y Y (a1y G.len u28 Y Y Y (a0f fa35_1 Y Y Y (a0n ag28 Y Y g Y (i := 0) Y Y (a1y U.len u28 Y Y Y ?_))))))
 refine a0u Y Y Y Y Y (a0m Y Y Y Y (a0e (a0k (fun a ha => ?_))))
 cases p
 exact ⟨Y, ha.cut (l := [2, 3, 19]) Y⟩
structure Frac where
 P : Big
 Q : Big
 deriving DecidableEq, Inhabited
def rp_Frac : Rp Frac where
 k := 4
 R := fun F cs x => ∃ (a1 : Option Addr) (n1 : Nat) (c1 : Nat) (a3 : Option Addr) (n3 : Nat) (c3 : Nat), cs = [.int .i64 x.P.Sign, .slice a1 n1 c1, .int .i64 x.Q.Sign, .slice a3 n3 c3] ∧ SlR (Rp.int .i64) F a1 n1 c1 x.P.Digits ∧ SlR (Rp.int .i64) F a3 n3 c3 x.Q.Digits
 len := by rintro F cs x ⟨a1, n1, c1, a3, n3, c3, h, _⟩; simp [h]
 mono := by rintro F F' cs x hF ⟨a1, n1, c1, a3, n3, c3, h, h0, h1⟩; exact ⟨a1, n1, c1, a3, n3, c3, h, h0.mono hF, h1.mono hF⟩
 one := by rintro F cs x ⟨a1, n1, c1, a3, n3, c3, h, _⟩ u hu; subst h; simp at hu; rcases hu with rfl | rfl | rfl | rfl <;> rfl
theorem fa37_0 : a4v Tryz.prog 37 0 0 := fun _ _ _ => by kernel_rfl
theorem ent38 : Ent Tryz.prog 38 := fun _ _ => by kernel_rfl
theorem fa37_1 : a4v Tryz.prog 37 1 2 := fun _ _ _ => by kernel_rfl
def a5g (n : Nat) (ax1 : Frac) (b1 : Frac) : Option Bool :=
 (a8c n ax1.P b1.P).bind fun v1 =>
 (bif v1 then
  (a8c n ax1.Q b1.Q).bind fun v3 =>
  some v3
 else
  some false).bind fun v2 =>
 some v2
theorem a8e (n : Nat) (ax1 : Frac) (b1 : Frac) (r : Bool) (hm : a5g n ax1 b1 = some r) {w : World} {F : Frz} (hs : Sat F w) {k m o p : Option Addr} {q s t u x y z G : Nat} (M : SlR (Rp.int .i64) F k q s ax1.P.Digits) (N : SlR (Rp.int .i64) F m t u ax1.Q.Digits) (R : SlR (Rp.int .i64) F o x y b1.P.Digits) (T : SlR (Rp.int .i64) F p z G b1.Q.Digits) :
  Calls Tryz.prog 11 #[.agg #[.int .i64 ax1.P.Sign, .slice k q s, .int .i64 ax1.Q.Sign, .slice m t u], .agg #[.int .i64 b1.P.Sign, .slice o x y, .int .i64 b1.Q.Sign, .slice p z G]] w fun e w' => ∃ v F' O', e = .returned v ∧ HS F w [] F' O' w' ∧ (v = .bool r ∧ O' = []) := by
 unfold a5g at hm
 have h := HS.init hs
 refine a1a 17 Tryz.func11 Y Y Y (a0g (a0a (a2z Y Y Y Y h ?_)))
 intro b2 g4 U
 refine a2z Y Y Y Y U ?_
 intro b3 g5 H
 refine a0b Y Y Y (a0e (a0c (a0g (a0a (a0f fa37_0 Y Y Y (a2p (cs' := [.int .i64 ax1.P.Sign, .slice k q s]) ag35 sz35 Y Y H Y (i := 1) Y Y Y (a0f fa37_0 Y Y Y (a2p (cs' := [.int .i64 b1.P.Sign, .slice o x y]) ag35 sz35 Y Y H Y (i := 0) Y Y Y ?_))))))))
 obtain ⟨v1, V, hm⟩ := Yb hm
 refine a0i ent38 Y Y Y Y H (b3o _ _ _ _ V H.sat M R) ?_
 rintro _ Z _ g6 K j ⟨rfl, rfl⟩
 refine a0d Y Y Y ?_
 obtain ⟨v2, g, hm⟩ := Yb hm
 refine a2g 6 (fun a w' => ∃ (I : Frz), Frz.le Z I ∧ HS F w [] I [.box b3 37 [.int .i64 b1.P.Sign, .slice o x y, .int .i64 b1.Q.Sign, .slice p z G], .box b2 37 [.int .i64 ax1.P.Sign, .slice k q s, .int .i64 ax1.Q.Sign, .slice m t u]] w' ∧ Has 17 a [(16, .bool v2)]) ?_ ?_
 rintro a g7 ⟨I, g8, g0, L⟩
 refine a1d L (a0b Y Y Y (a0e (a0c (a1c (a1n Y Y ?_)))))
 obtain rfl := Yo hm
 exact ⟨_, _, _, Y, g0.Yp [] Y Y, Y, Y⟩
 clear hm
 rcases a0h g with ⟨J, g⟩ | ⟨J, g⟩
 refine a1k 10 Y J (a0f fa37_1 Y Y Y (a2p (cs' := [.int .i64 ax1.Q.Sign, .slice m t u]) ag35 sz35 Y Y j Y (i := 1) Y Y Y (a0f fa37_1 Y Y Y (a2p (cs' := [.int .i64 b1.Q.Sign, .slice p z G]) ag35 sz35 Y Y j Y (i := 0) Y Y Y ?_))))
 obtain ⟨v3, g1, g⟩ := Yb g
 refine a0i ent38 Y Y Y Y j (b3o _ _ _ _ g1 j.sat (N.mono K) (T.mono K)) ?_
 rintro _ g9 _ ga g2 g3 ⟨rfl, rfl⟩
 refine a0s Y Y Y Y (a0e (a0k (fun a ha => ?_)))
 cases g
 exact ⟨_, g2, g3.Yp [0, 1] Y Y, ha.cut (l := [16]) Y⟩
 refine a1k 10 Y J (a0y Y (by decide) Y (a0y Y (by decide) Y (a0y Y (by decide) Y (a0y Y (by decide) Y (a0y Y (by decide) Y (a0m Y Y Y Y (a0e (a0k (fun a ha => ?_)))))))))
 cases g
 exact ⟨_, Yf, j.Yp [0, 1] Y Y, ha.cut (l := [16]) Y⟩
def b0n (_n : Nat) (f1 : Frac) (nx1 : Int) : Option Bool :=
 (bif decide ((f1.P.Digits.length : Int) ≤ nx1) then
  some (decide ((f1.Q.Digits.length : Int) ≤ nx1))
 else
  some false).bind fun v1 =>
 some v1
theorem c4p (n : Nat) (f1 : Frac) (nx1 : Int) (r : Bool) (hm : b0n n f1 nx1 = some r) {w : World} {F : Frz} (hs : Sat F w) {m o : Option Addr} {p q s t : Nat} (x : SlR (Rp.int .i64) F m p q f1.P.Digits) (y : SlR (Rp.int .i64) F o s t f1.Q.Digits) :
  Calls Tryz.prog 18 #[.agg #[.int .i64 f1.P.Sign, .slice m p q, .int .i64 f1.Q.Sign, .slice o s t], .int .i64 nx1] w fun e w' => ∃ v F' O', e = .returned v ∧ HS F w [] F' O' w' ∧ (v = .bool r ∧ O' = []) := by
 unfold b0n at hm
 have h := HS.init hs
 refine a1a 19 Tryz.func18 Y Y Y (a0g (a0a (a2z Y Y Y Y h ?_)))
 intro b1 z j
 refine a0b Y Y Y (a0e (a0c (a0g (a0a (a0f fa37_0 Y Y Y (a0f fa35_1 Y Y Y (a0n ag28 Y Y j Y (i := 0) Y Y (a1y x.len u28 Y Y Y (a0d Y Y Y (a0u Y Y Y Y Y ?_))))))))))
 refine a0d Y Y Y ?_
 obtain ⟨v1, g, hm⟩ := Yb hm
 refine a2g 7 (fun a w' => z = w' ∧ Has 19 a [(18, .bool v1)]) ?_ ?_
 rintro a G ⟨rfl, u⟩
 refine a1d u (a0b Y Y Y (a0e (a0c (a1c (a1n Y Y ?_)))))
 obtain rfl := Yo hm
 exact ⟨_, _, _, Y, j.Yp [] Y Y, Y, Y⟩
 clear hm
 rcases a0h g with ⟨k, g⟩ | ⟨k, g⟩
 refine a1k 11 Y k (a0f fa37_1 Y Y Y (a0f fa35_1 Y Y Y (a0n ag28 Y Y j Y (i := 0) Y Y (a1y y.len u28 Y Y Y (a0d Y Y Y (a0u Y Y Y Y Y ?_))))))
 refine a0s Y Y Y Y (a0e (a0k (fun a ha => ?_)))
 cases g
 exact ⟨Y, ha.cut (l := [18]) Y⟩
 refine a1k 11 Y k (a0y Y (by decide) Y (a0y Y (by decide) Y (a0y Y (by decide) Y (a0y Y (by decide) Y (a0y Y (by decide) Y (a0y Y (by decide) Y (a0m Y Y Y Y (a0e (a0k (fun a ha => ?_))))))))))
 cases g
 exact ⟨Y, ha.cut (l := [18]) Y⟩
theorem ent105 : Ent Tryz.prog 105 := fun _ _ => by kernel_rfl
def b6g (n : Nat) (ax1 : Big) : Option Bool :=
 (b9b n ax1).bind fun v1 =>
 (bif v1.2 then
  some (v1.1 == 1)
 else
  some false).bind fun v2 =>
 some v2
theorem c5t (n : Nat) (ax1 : Big) (r : Bool) (hm : b6g n ax1 = some r) {w : World} {F : Frz} (hs : Sat F w) {m : Option Addr} {o : Nat} {p : Nat} (s : SlR (Rp.int .i64) F m o p ax1.Digits) :
  Calls Tryz.prog 76 #[.agg #[.int .i64 ax1.Sign, .slice m o p]] w fun e w' => ∃ v F' O', e = .returned v ∧ HS F w [] F' O' w' ∧ (v = .bool r ∧ O' = []) := by
 unfold b6g at hm
 have h := HS.init hs
 refine a1a 15 Tryz.func76 Y Y Y (a0g (a0a (a2z Y Y Y Y h ?_)))
 intro b1 y j
 refine a0b Y Y Y (a0e (a0c (a0g (a0a (a0q ag35 sz35 Y Y j Y (i := 0) Y Y ?_)))))
 obtain ⟨v1, t, hm⟩ := Yb hm
 refine a0i ent105 Y Y Y Y j (c7p _ _ _ t j.sat s) ?_
 rintro _ z _ u G x ⟨rfl, rfl⟩
 refine a0d Y Y Y (a0l Y Y Y Y (a0l Y Y Y Y (a0b Y Y Y (a0b Y Y Y (a0e (a0c (a0g (a0a (a0d Y Y Y (a0d Y Y Y ?_))))))))))
 obtain ⟨v2, g, hm⟩ := Yb hm
 refine a2g 3 (fun a w' => u = w' ∧ Has 15 a [(14, .bool v2)]) ?_ ?_
 rintro a H ⟨rfl, q⟩
 refine a1d q (a0b Y Y Y (a0e (a0c (a1c (a1n Y Y ?_)))))
 obtain rfl := Yo hm
 exact ⟨_, _, _, Y, x.Yp [] Y Y, Y, Y⟩
 clear hm
 rcases a0h g with ⟨k, g⟩ | ⟨k, g⟩
 refine a1k 11 Y k (a0d Y Y Y (a0u Y Y Y Y Y (a0s Y Y Y Y (a0e (a0k (fun a ha => ?_))))))
 cases g
 exact ⟨Y, ha.cut (l := [14]) Y⟩
 refine a1k 11 Y k (a0y Y (by decide) Y (a0y Y (by decide) Y (a0m Y Y Y Y (a0e (a0k (fun a ha => ?_))))))
 cases g
 exact ⟨Y, ha.cut (l := [14]) Y⟩
theorem ent75 : Ent Tryz.prog 75 := fun _ _ => by kernel_rfl
theorem ent76 : Ent Tryz.prog 76 := fun _ _ => by kernel_rfl
def a3s (n : Nat) (f1 : Frac) : Option Bool :=
 (a3t n f1.P).bind fun v1 =>
 (bif !v1 then
  some true
 else
  (a3t n f1.Q).bind fun v7 =>
  some (!v7)).bind fun v2 =>
 (bif v2 then
  some true
 else
  some (f1.Q.Sign != 1)).bind fun v3 =>
 bif v3 then
  some false
 else
  (b4g n f1.P f1.Q).bind fun v4 =>
  (bif v4.2 == 0 then
   (b6g n v4.1).bind fun v6 =>
   some v6
  else
   some false).bind fun v5 =>
  some v5
theorem a3m (n : Nat) (f1 : Frac) (r : Bool) (hm : a3s n f1 = some r) {w : World} {F : Frz} (hs : Sat F w) {k m : Option Addr} {o p q s : Nat} (N : SlR (Rp.int .i64) F k o p f1.P.Digits) (R : SlR (Rp.int .i64) F m q s f1.Q.Digits) :
  Calls Tryz.prog 47 #[.agg #[.int .i64 f1.P.Sign, .slice k o p, .int .i64 f1.Q.Sign, .slice m q s]] w fun e w' => ∃ v F' O', e = .returned v ∧ HS F w [] F' O' w' ∧ (v = .bool r ∧ O' = []) := by
 unfold a3s at hm
 have h := HS.init hs
 refine a1a 35 Tryz.func47 Y Y Y (a0g (a0a (a2z Y Y Y Y h ?_)))
 intro b1 gj z
 refine a0b Y Y Y (a0e (a0c (a0g (a0g (a0a (a0f fa37_0 Y Y Y (a2p (cs' := [.int .i64 f1.P.Sign, .slice k o p]) ag35 sz35 Y Y z Y (i := 0) Y Y Y ?_)))))))
 obtain ⟨v1, g0, hm⟩ := Yb hm
 refine a0i ent74 Y Y Y Y z (a3i _ _ _ g0 z.sat N) ?_
 rintro _ g1 _ gk G x ⟨rfl, rfl⟩
 refine a4c Y Y Y (a0d Y Y Y ?_)
 obtain ⟨v2, g, hm⟩ := Yb hm
 refine a2g 5 (fun a w' => ∃ (H : Frz), Frz.le g1 H ∧ HS F w [] H [.box b1 37 [.int .i64 f1.P.Sign, .slice k o p, .int .i64 f1.Q.Sign, .slice m q s]] w' ∧ Has 35 a [(1, .pointer (some ⟨b1, 0, none⟩)), (14, .bool v2)]) ?_ ?_
 rintro a g2 ⟨H, T, t, U⟩
 refine a1d U (a0d Y Y Y ?_)
 obtain ⟨v3, u, hm⟩ := Yb hm
 refine a2g 5 (fun a w' => g2 = w' ∧ Has 35 a [(1, .pointer (some ⟨b1, 0, none⟩)), (20, .bool v3)]) ?_ ?_
 rintro a gl ⟨rfl, V⟩
 refine a1d V (a0e (a0c ?_))
 rcases a0h hm with ⟨I, hm⟩ | ⟨I, hm⟩
 refine a0r 20 Y I (a0x Y (a0g (a0a (a0b Y Y Y (a0e (a0c (a1c (a0j (a1n Y Y ?_)))))))))
 obtain rfl := Yo hm
 exact ⟨_, _, _, Y, t.Yp [] Y Y, Y, Y⟩
 refine a0r 20 Y I (a0p Y (a1b (a0c (a0g (a0a (a0f fa37_0 Y Y Y (a2p (cs' := [.int .i64 f1.P.Sign, .slice k o p]) ag35 sz35 Y Y t Y (i := 0) Y Y Y (a0f fa37_1 Y Y Y (a2p (cs' := [.int .i64 f1.Q.Sign, .slice m q s]) ag35 sz35 Y Y t Y (i := 0) Y Y Y ?_)))))))))
 obtain ⟨v4, g3, hm⟩ := Yb hm
 refine a0i ent75 Y Y Y Y t (b2q _ _ _ _ g3 t.sat ((N.mono G).mono T) ((R.mono G).mono T)) ?_
 rintro _ g4 _ gm gn g5 ⟨g6, g7, g8, rfl, rfl, g9⟩
 refine a0d Y Y Y (a0l Y Y Y Y (a0l Y Y Y Y (a1h ze35 Y Y Y g5 ?_)))
 intro b2 go ga
 refine a0o sz35 Y ga Y Y Y Y (i := 0) Y Y Y Y ?_
 intro gp y
 refine a0b Y Y Y (a0e (a0c (a0g (a0a (a0d Y Y Y (a0u Y Y Y Y Y (a0d Y Y Y ?_)))))))
 obtain ⟨v5, j, hm⟩ := Yb hm
 refine a2g 3 (fun a w' => ∃ (J : Frz), Frz.le g4 J ∧ HS F w [] J [.box b2 35 [.int .i64 v4.1.Sign, .slice g6 g7 g8], .box b1 37 [.int .i64 f1.P.Sign, .slice k o p, .int .i64 f1.Q.Sign, .slice m q s]] w' ∧ Has 35 a [(34, .bool v5)]) ?_ ?_
 rintro a gq ⟨J, gr, gb, Z⟩
 refine a1d Z (a0b Y Y Y (a0e (a0c (a1c (a1n Y Y ?_)))))
 obtain rfl := Yo hm
 exact ⟨_, _, _, Y, gb.Yp [] Y Y, Y, Y⟩
 clear hm
 rcases a0h j with ⟨K, j⟩ | ⟨K, j⟩
 refine a1k 31 Y K (a0q ag35 sz35 Y Y y Y (i := 0) Y Y ?_)
 obtain ⟨v6, gc, j⟩ := Yb j
 refine a0i ent76 Y Y Y Y y (c5t _ _ _ gc y.sat g9) ?_
 rintro _ gs _ gt gd ge ⟨rfl, rfl⟩
 refine a0s Y Y Y Y (a0e (a0k (fun a ha => ?_)))
 cases j
 exact ⟨_, gd, ge.Yp [0, 1] Y Y, ha.cut (l := [34]) Y⟩
 refine a1k 31 Y K (a0y Y (by decide) Y (a0y Y (by decide) Y (a0m Y Y Y Y (a0e (a0k (fun a ha => ?_))))))
 cases j
 exact ⟨_, Yf, y.Yp [0, 1] Y Y, ha.cut (l := [34]) Y⟩
 clear hm
 rcases a0h u with ⟨L, u⟩ | ⟨L, u⟩
 refine a1k 15 Y L (a0y Y (by decide) Y (a0y Y (by decide) Y (a0y Y (by decide) Y (a0y Y (by decide) Y (a0s Y Y Y Y (a0e (a0k (fun a ha => ?_))))))))
 cases u
 exact ⟨Y, ha.cut (l := [1, 20]) Y⟩
 refine a1k 15 Y L (a0f fa37_1 Y Y Y (a0f fa35_0 Y Y Y (a0n ag3 Y Y t Y (i := 0) Y Y (a0u Y Y Y Y Y (a0m Y Y Y Y (a0e (a0k (fun a ha => ?_))))))))
 cases u
 exact ⟨Y, ha.cut (l := [1, 20]) Y⟩
 clear hm
 rcases a0h g with ⟨M, g⟩ | ⟨M, g⟩
 refine a1k 9 Y M (a0y Y (by decide) Y (a0y Y (by decide) Y (a0y Y (by decide) Y (a0y Y (by decide) Y (a0s Y Y Y Y (a0e (a0k (fun a ha => ?_))))))))
 cases g
 exact ⟨_, Yf, x.Yp [0] Y Y, ha.cut (l := [1, 14]) Y⟩
 refine a1k 9 Y M (a0f fa37_1 Y Y Y (a2p (cs' := [.int .i64 f1.Q.Sign, .slice m q s]) ag35 sz35 Y Y x Y (i := 0) Y Y Y ?_))
 obtain ⟨v7, gf, g⟩ := Yb g
 refine a0i ent74 Y Y Y Y x (a3i _ _ _ gf x.sat (R.mono G)) ?_
 rintro _ gu _ gi gg gh ⟨rfl, rfl⟩
 refine a4c Y Y Y (a0m Y Y Y Y (a0e (a0k (fun a ha => ?_))))
 cases g
 exact ⟨_, gg, gh.Yp [0] Y Y, ha.cut (l := [1, 14]) Y⟩
theorem ze37 : b9o Tryz.prog 37 (.agg #[.int .i64 0, .slice none 0 0, .int .i64 0, .slice none 0 0]) := fun _ => by kernel_rfl
theorem sz37 : a4i Tryz.prog 37 4 := fun _ => by kernel_rfl
theorem ag37 : a9h Tryz.prog 37 true := fun _ => by kernel_rfl
theorem ent108 : Ent Tryz.prog 108 := fun _ _ => by kernel_rfl
theorem ent129 : Ent Tryz.prog 129 := fun _ _ => by kernel_rfl
def b3g (n : Nat) (p1 : Big) (q1 : Big) : Option (Frac × Int) :=
 (a3t n p1).bind fun v1 =>
 (bif !v1 then
  some true
 else
  (a3t n q1).bind fun v11 =>
  some (!v11)).bind fun v2 =>
 bif v2 then
  some ((⟨(⟨0, []⟩ : Big), (⟨0, []⟩ : Big)⟩ : Frac), 1)
 else
  bif q1.Sign == 0 then
   some ((⟨(⟨0, []⟩ : Big), (⟨0, []⟩ : Big)⟩ : Frac), 14)
  else
   bif decide (q1.Sign < 0) then
    (b3l n p1).bind fun v3 =>
    (b3l n q1).bind fun v4 =>
    (b4g n v3 v4).bind fun v5 =>
    (b2k n v3 v5.1).bind fun v6 =>
    (b2k n v4 v5.1).bind fun v7 =>
    some ((⟨v6.1, v7.1⟩ : Frac), 0)
   else
    (b4g n p1 q1).bind fun v8 =>
    (b2k n p1 v8.1).bind fun v9 =>
    (b2k n q1 v8.1).bind fun v10 =>
    some ((⟨v9.1, v10.1⟩ : Frac), 0)
theorem b5u (n : Nat) (p1 : Big) (q1 : Big) (r : (Frac × Int)) (hm : b3g n p1 q1 = some r) {w : World} {F : Frz} (hs : Sat F w) {gv gw : Option Addr} {gx gy gz h0 : Nat} (ga : SlR (Rp.int .i64) F gv gx gy p1.Digits) (gb : SlR (Rp.int .i64) F gw gz h0 q1.Digits) :
  Calls Tryz.prog 107 #[.agg #[.int .i64 p1.Sign, .slice gv gx gy], .agg #[.int .i64 q1.Sign, .slice gw gz h0]] w fun e w' => ∃ v F' O', e = .returned v ∧ HS F w [] F' O' w' ∧ (∃ (a0_1 : Option Addr) (n0_1 : Nat) (c0_1 : Nat) (a0_3 : Option Addr) (n0_3 : Nat) (c0_3 : Nat), v = .tuple #[.agg #[.int .i64 r.1.P.Sign, .slice a0_1 n0_1 c0_1, .int .i64 r.1.Q.Sign, .slice a0_3 n0_3 c0_3], .int .i64 r.2] ∧ O' = [] ∧ SlR (Rp.int .i64) F' a0_1 n0_1 c0_1 r.1.P.Digits ∧ SlR (Rp.int .i64) F' a0_3 n0_3 c0_3 r.1.Q.Digits) := by
 unfold b3g at hm
 have h := HS.init hs
 refine a1a 60 Tryz.func107 Y Y Y (a0g (a0a (a2z Y Y Y Y h ?_)))
 intro b1 k3 j3
 refine a2z Y Y Y Y j3 ?_
 intro b2 k4 j4
 refine a1h ze37 Y Y Y j4 ?_
 intro b3 k5 h1
 refine a0b Y Y Y (a0e (a0c (a0g (a1j (a0g (a0a (a0q ag35 sz35 Y Y h1 Y (i := 2) Y Y ?_)))))))
 obtain ⟨v1, j5, hm⟩ := Yb hm
 refine a0i ent74 Y Y Y Y h1 (a3i _ _ _ j5 h1.sat ga) ?_
 rintro _ j6 _ k6 t gt ⟨rfl, rfl⟩
 refine a4c Y Y Y (a0d Y Y Y ?_)
 obtain ⟨v2, Z, hm⟩ := Yb hm
 refine a2g 4 (fun a w' => ∃ (gu : Frz), Frz.le j6 gu ∧ HS F w [] gu [.box b3 37 [.int .i64 0, .slice none 0 0, .int .i64 0, .slice none 0 0], .box b2 35 [.int .i64 q1.Sign, .slice gw gz h0], .box b1 35 [.int .i64 p1.Sign, .slice gv gx gy]] w' ∧ Has 60 a [(2, .pointer (some ⟨b1, 0, none⟩)), (3, .pointer (some ⟨b2, 0, none⟩)), (4, .pointer (some ⟨b3, 0, none⟩)), (22, .bool v2)]) ?_ ?_
 rintro a k7 ⟨gu, L, M, ik⟩
 refine a1d ik (a0b Y Y Y (a0e (a0c ?_)))
 rcases a0h hm with ⟨h2, hm⟩ | ⟨h2, hm⟩
 refine a0r 14 Y h2 (a0x Y (a0g (a0a (a1r (v := .agg #[.int .i64 0, .slice none 0 0, .int .i64 0, .slice none 0 0]) Y Y Y (fun _ => by kernel_rfl) (a0o sz37 Y M Y Y Y Y (i := 0) Y Y Y Y ?_)))))
 intro k8 hr
 refine a0b Y Y Y (a0e (a0c (a1c (a0t (a0j (a1q (vl := [.agg #[.int .i64 0, .slice none 0 0, .int .i64 0, .slice none 0 0], .int .i64 1]) Y ⟨a2h ag37 sz37 Y hr Y (i := 0) Y, a1p Y, trivial⟩ (by simp) ?_))))))
 obtain rfl := Yo hm
 exact ⟨_, _, _, Y, hr.Yp [] Y Y, none, 0, 0, none, 0, 0, Y, Y, SlR.nil _ _, SlR.nil _ _⟩
 refine a0r 14 Y h2 (a0p Y (a0g (a0a (a0f fa35_0 Y Y Y (a0n ag3 Y Y M Y (i := 1) Y Y (a0u Y Y Y Y Y (a0b Y Y Y (a0e (a0c ?_)))))))))
 rcases a0h hm with ⟨h3, hm⟩ | ⟨h3, hm⟩
 refine a0r 24 Y h3 (a0x Y (a0g (a0a (a1r (v := .agg #[.int .i64 0, .slice none 0 0, .int .i64 0, .slice none 0 0]) Y Y Y (fun _ => by kernel_rfl) (a0o sz37 Y M Y Y Y Y (i := 0) Y Y Y Y ?_)))))
 intro k9 ht
 refine a0b Y Y Y (a0e (a0c (a1c (a0t (a0j (a1q (vl := [.agg #[.int .i64 0, .slice none 0 0, .int .i64 0, .slice none 0 0], .int .i64 14]) Y ⟨a2h ag37 sz37 Y ht Y (i := 0) Y, a1p Y, trivial⟩ (by simp) ?_))))))
 obtain rfl := Yo hm
 exact ⟨_, _, _, Y, ht.Yp [] Y Y, none, 0, 0, none, 0, 0, Y, Y, SlR.nil _ _, SlR.nil _ _⟩
 refine a0r 24 Y h3 (a0p Y (a0g (a0a (a0f fa35_0 Y Y Y (a0n ag3 Y Y M Y (i := 1) Y Y (a0u Y Y Y Y Y (a0b Y Y Y (a0e (a0c ?_)))))))))
 rcases a0h hm with ⟨h4, hm⟩ | ⟨h4, hm⟩
 refine a0r 29 Y h4 (a0x Y (a2f (SH gu [.box b3 37 [.int .i64 0, .slice none 0 0, .int .i64 0, .slice none 0 0]]) 6 Y (by kernel_rfl) M ?_))
 intro ka q
 refine b0p 0 2 Y Y (by kernel_rfl) ?_ ?_
 refine a0q ag35 sz35 Y Y q Y (i := 2) Y Y (a0v (q.Ys Yf [0] Y Y) (b0p 1 2 Y Y (by kernel_rfl) ?_ ?_))
 obtain ⟨v3, ge, hm⟩ := Yb hm
 refine a0i ent108 Y Y Y Y q (a8j _ _ _ ge q.sat ((ga.mono t).mono L)) ?_
 rintro _ hu _ hv m s ⟨hw, hx, hy, rfl, rfl, N⟩
 refine a0v (s.Ys m [0] Y Y) (a0z 2 Y (by kernel_rfl) (a0q ag35 sz35 Y Y s Y (i := 1) Y Y (a0v (s.Ys m [0] Y Y) (a0z 3 Y (by kernel_rfl) ?_))))
 obtain ⟨v4, gf, hm⟩ := Yb hm
 refine a0i ent108 Y Y Y Y s (a8j _ _ _ gf s.sat (((gb.mono t).mono L).mono m)) ?_
 rintro _ hz _ h5 o u ⟨i0, i1, i2, rfl, rfl, R⟩
 refine a0v (u.Ys (m.trans o) [0] Y Y) (a0z 4 Y (by kernel_rfl) (a0o sz35 Y u Y Y Y Y (i := 2) Y Y Y Y ?_))
 intro h6 x
 refine a0v (x.Ys (m.trans o) [0] Y Y) (a0z 5 Y (by kernel_rfl) (a0o sz35 Y x Y Y Y Y (i := 1) Y Y Y Y ?_))
 intro h7 g
 refine a0v (g.Ys (m.trans o) [0] Y Y) (a2u (by kernel_rfl) (a1o (a0c (a0g (a0a (a0q ag35 sz35 Y Y g Y (i := 2) Y Y (a0q ag35 sz35 Y Y g Y (i := 1) Y Y ?_)))))))
 obtain ⟨v5, gg, hm⟩ := Yb hm
 refine a0i ent75 Y Y Y Y g (b2q _ _ _ _ gg g.sat (N.mono o) R) ?_
 rintro _ i3 _ h8 T g0 ⟨i4, i5, i6, rfl, rfl, U⟩
 refine a0d Y Y Y (a0l Y Y Y Y (a0l Y Y Y Y (a1h ze35 Y Y Y g0 ?_)))
 intro b4 h9 g1
 refine a0o sz35 Y g1 Y Y Y Y (i := 0) Y Y Y Y ?_
 intro hb j
 refine a0b Y Y Y (a0e (a0c (a0g (a0a (a0q ag35 sz35 Y Y j Y (i := 3) Y Y (a0q ag35 sz35 Y Y j Y (i := 0) Y Y ?_))))))
 obtain ⟨v6, gh, hm⟩ := Yb hm
 refine a0i ent129 Y Y Y Y j (a9b _ _ _ _ gh j.sat ((N.mono o).mono T) U) ?_
 rintro _ i7 _ hc V g2 ⟨y, z, G, i8, i9, ia, rfl, rfl, gi, ib⟩
 refine a0d Y Y Y (a0l Y Y Y Y (a0l Y Y Y Y (a0l Y Y Y Y (a1h ze35 Y Y Y g2 ?_))))
 intro b5 hd g3
 refine a1h ze35 Y Y Y g3 ?_
 intro b6 he g4
 refine a0o sz35 Y g4 Y Y Y Y (i := 1) Y Y Y Y ?_
 intro hf g5
 refine a0o sz35 Y g5 Y Y Y Y (i := 0) Y Y Y Y ?_
 intro hg k
 refine a0b Y Y Y (a0e (a0c (a0g (a0a (a0q ag35 sz35 Y Y k Y (i := 4) Y Y (a0q ag35 sz35 Y Y k Y (i := 2) Y Y ?_))))))
 obtain ⟨v7, gj, hm⟩ := Yb hm
 refine a0i ent129 Y Y Y Y k (a9b _ _ _ _ gj k.sat ((R.mono T).mono V) (U.mono V)) ?_
 rintro _ ic _ hh gk g6 ⟨H, I, J, id, ie, ig, rfl, rfl, gl, ih⟩
 refine a0d Y Y Y (a0l Y Y Y Y (a0l Y Y Y Y (a0l Y Y Y Y (a1h ze35 Y Y Y g6 ?_))))
 intro b7 hi g7
 refine a1h ze35 Y Y Y g7 ?_
 intro b8 hj g8
 refine a0o sz35 Y g8 Y Y Y Y (i := 1) Y Y Y Y ?_
 intro hk g9
 refine a0o sz35 Y g9 Y Y Y Y (i := 0) Y Y Y Y ?_
 intro hl p
 refine a0b Y Y Y (a0e (a0c (a0g (a0a (a0q ag35 sz35 Y Y p Y (i := 3) Y Y (a0q ag35 sz35 Y Y p Y (i := 1) Y Y (a1r (v := .agg #[.int .i64 v6.1.Sign, .slice y z G, .int .i64 v7.1.Sign, .slice H I J]) Y Y Y (fun _ => by kernel_rfl) (a0o sz37 Y p Y Y Y Y (i := 5) Y Y Y Y ?_))))))))
 intro hn K
 refine a0b Y Y Y (a0e (a0c (a1c (a1q (vl := [.agg #[.int .i64 v6.1.Sign, .slice y z G, .int .i64 v7.1.Sign, .slice H I J], .int .i64 0]) Y ⟨a2h ag37 sz37 Y K Y (i := 5) Y, a1p Y, trivial⟩ (by simp) ?_))))
 obtain rfl := Yo hm
 exact ⟨_, _, _, Y, K.Yp [] Y Y, y, z, G, H, I, J, Y, Y, (gi.mono gk), gl⟩
 refine a0q ag35 sz35 Y Y q Y (i := 1) Y Y (a0v (q.Ys Yf [0] Y Y) (a0z 1 Y (by kernel_rfl) ?_))
 obtain ⟨v3, ge, hm⟩ := Yb hm
 refine a0i ent108 Y Y Y Y q (a8j _ _ _ ge q.sat ((ga.mono t).mono L)) ?_
 rintro _ hu _ hv m s ⟨hw, hx, hy, rfl, rfl, N⟩
 refine a0v (s.Ys m [0] Y Y) (a0z 3 Y (by kernel_rfl) ?_)
 obtain ⟨v4, gf, hm⟩ := Yb hm
 refine a0i ent108 Y Y Y Y s (a8j _ _ _ gf s.sat (((gb.mono t).mono L).mono m)) ?_
 rintro _ hz _ h5 o u ⟨i0, i1, i2, rfl, rfl, R⟩
 refine a0v (u.Ys (m.trans o) [0] Y Y) (a0z 4 Y (by kernel_rfl) (a0o sz35 Y u Y Y Y Y (i := 2) Y Y Y Y ?_))
 intro h6 x
 refine a0v (x.Ys (m.trans o) [0] Y Y) (a0z 5 Y (by kernel_rfl) (a0o sz35 Y x Y Y Y Y (i := 1) Y Y Y Y ?_))
 intro h7 g
 refine a0v (g.Ys (m.trans o) [0] Y Y) (a2u (by kernel_rfl) (a1o (a0c (a0g (a0a (a0q ag35 sz35 Y Y g Y (i := 2) Y Y (a0q ag35 sz35 Y Y g Y (i := 1) Y Y ?_)))))))
 obtain ⟨v5, gg, hm⟩ := Yb hm
 refine a0i ent75 Y Y Y Y g (b2q _ _ _ _ gg g.sat (N.mono o) R) ?_
 rintro _ i3 _ h8 T g0 ⟨i4, i5, i6, rfl, rfl, U⟩
 refine a0d Y Y Y (a0l Y Y Y Y (a0l Y Y Y Y (a1h ze35 Y Y Y g0 ?_)))
 intro b4 h9 g1
 refine a0o sz35 Y g1 Y Y Y Y (i := 0) Y Y Y Y ?_
 intro hb j
 refine a0b Y Y Y (a0e (a0c (a0g (a0a (a0q ag35 sz35 Y Y j Y (i := 3) Y Y (a0q ag35 sz35 Y Y j Y (i := 0) Y Y ?_))))))
 obtain ⟨v6, gh, hm⟩ := Yb hm
 refine a0i ent129 Y Y Y Y j (a9b _ _ _ _ gh j.sat ((N.mono o).mono T) U) ?_
 rintro _ i7 _ hc V g2 ⟨y, z, G, i8, i9, ia, rfl, rfl, gi, ib⟩
 refine a0d Y Y Y (a0l Y Y Y Y (a0l Y Y Y Y (a0l Y Y Y Y (a1h ze35 Y Y Y g2 ?_))))
 intro b5 hd g3
 refine a1h ze35 Y Y Y g3 ?_
 intro b6 he g4
 refine a0o sz35 Y g4 Y Y Y Y (i := 1) Y Y Y Y ?_
 intro hf g5
 refine a0o sz35 Y g5 Y Y Y Y (i := 0) Y Y Y Y ?_
 intro hg k
 refine a0b Y Y Y (a0e (a0c (a0g (a0a (a0q ag35 sz35 Y Y k Y (i := 4) Y Y (a0q ag35 sz35 Y Y k Y (i := 2) Y Y ?_))))))
 obtain ⟨v7, gj, hm⟩ := Yb hm
 refine a0i ent129 Y Y Y Y k (a9b _ _ _ _ gj k.sat ((R.mono T).mono V) (U.mono V)) ?_
 rintro _ ic _ hh gk g6 ⟨H, I, J, id, ie, ig, rfl, rfl, gl, ih⟩
 refine a0d Y Y Y (a0l Y Y Y Y (a0l Y Y Y Y (a0l Y Y Y Y (a1h ze35 Y Y Y g6 ?_))))
 intro b7 hi g7
 refine a1h ze35 Y Y Y g7 ?_
 intro b8 hj g8
 refine a0o sz35 Y g8 Y Y Y Y (i := 1) Y Y Y Y ?_
 intro hk g9
 refine a0o sz35 Y g9 Y Y Y Y (i := 0) Y Y Y Y ?_
 intro hl p
 refine a0b Y Y Y (a0e (a0c (a0g (a0a (a0q ag35 sz35 Y Y p Y (i := 3) Y Y (a0q ag35 sz35 Y Y p Y (i := 1) Y Y (a1r (v := .agg #[.int .i64 v6.1.Sign, .slice y z G, .int .i64 v7.1.Sign, .slice H I J]) Y Y Y (fun _ => by kernel_rfl) (a0o sz37 Y p Y Y Y Y (i := 5) Y Y Y Y ?_))))))))
 intro hn K
 refine a0b Y Y Y (a0e (a0c (a1c (a1q (vl := [.agg #[.int .i64 v6.1.Sign, .slice y z G, .int .i64 v7.1.Sign, .slice H I J], .int .i64 0]) Y ⟨a2h ag37 sz37 Y K Y (i := 5) Y, a1p Y, trivial⟩ (by simp) ?_))))
 obtain rfl := Yo hm
 exact ⟨_, _, _, Y, K.Yp [] Y Y, y, z, G, H, I, J, Y, Y, (gi.mono gk), gl⟩
 refine a0q ag35 sz35 Y Y q Y (i := 1) Y Y (a0v (q.Ys Yf [0] Y Y) (a0z 0 Y (by kernel_rfl) (a0q ag35 sz35 Y Y q Y (i := 2) Y Y (a0v (q.Ys Yf [0] Y Y) (a0z 1 Y (by kernel_rfl) ?_)))))
 obtain ⟨v3, ge, hm⟩ := Yb hm
 refine a0i ent108 Y Y Y Y q (a8j _ _ _ ge q.sat ((ga.mono t).mono L)) ?_
 rintro _ hu _ hv m s ⟨hw, hx, hy, rfl, rfl, N⟩
 refine a0v (s.Ys m [0] Y Y) (a0z 3 Y (by kernel_rfl) ?_)
 obtain ⟨v4, gf, hm⟩ := Yb hm
 refine a0i ent108 Y Y Y Y s (a8j _ _ _ gf s.sat (((gb.mono t).mono L).mono m)) ?_
 rintro _ hz _ h5 o u ⟨i0, i1, i2, rfl, rfl, R⟩
 refine a0v (u.Ys (m.trans o) [0] Y Y) (a0z 4 Y (by kernel_rfl) (a0o sz35 Y u Y Y Y Y (i := 2) Y Y Y Y ?_))
 intro h6 x
 refine a0v (x.Ys (m.trans o) [0] Y Y) (a0z 5 Y (by kernel_rfl) (a0o sz35 Y x Y Y Y Y (i := 1) Y Y Y Y ?_))
 intro h7 g
 refine a0v (g.Ys (m.trans o) [0] Y Y) (a2u (by kernel_rfl) (a1o (a0c (a0g (a0a (a0q ag35 sz35 Y Y g Y (i := 2) Y Y (a0q ag35 sz35 Y Y g Y (i := 1) Y Y ?_)))))))
 obtain ⟨v5, gg, hm⟩ := Yb hm
 refine a0i ent75 Y Y Y Y g (b2q _ _ _ _ gg g.sat (N.mono o) R) ?_
 rintro _ i3 _ h8 T g0 ⟨i4, i5, i6, rfl, rfl, U⟩
 refine a0d Y Y Y (a0l Y Y Y Y (a0l Y Y Y Y (a1h ze35 Y Y Y g0 ?_)))
 intro b4 h9 g1
 refine a0o sz35 Y g1 Y Y Y Y (i := 0) Y Y Y Y ?_
 intro hb j
 refine a0b Y Y Y (a0e (a0c (a0g (a0a (a0q ag35 sz35 Y Y j Y (i := 3) Y Y (a0q ag35 sz35 Y Y j Y (i := 0) Y Y ?_))))))
 obtain ⟨v6, gh, hm⟩ := Yb hm
 refine a0i ent129 Y Y Y Y j (a9b _ _ _ _ gh j.sat ((N.mono o).mono T) U) ?_
 rintro _ i7 _ hc V g2 ⟨y, z, G, i8, i9, ia, rfl, rfl, gi, ib⟩
 refine a0d Y Y Y (a0l Y Y Y Y (a0l Y Y Y Y (a0l Y Y Y Y (a1h ze35 Y Y Y g2 ?_))))
 intro b5 hd g3
 refine a1h ze35 Y Y Y g3 ?_
 intro b6 he g4
 refine a0o sz35 Y g4 Y Y Y Y (i := 1) Y Y Y Y ?_
 intro hf g5
 refine a0o sz35 Y g5 Y Y Y Y (i := 0) Y Y Y Y ?_
 intro hg k
 refine a0b Y Y Y (a0e (a0c (a0g (a0a (a0q ag35 sz35 Y Y k Y (i := 4) Y Y (a0q ag35 sz35 Y Y k Y (i := 2) Y Y ?_))))))
 obtain ⟨v7, gj, hm⟩ := Yb hm
 refine a0i ent129 Y Y Y Y k (a9b _ _ _ _ gj k.sat ((R.mono T).mono V) (U.mono V)) ?_
 rintro _ ic _ hh gk g6 ⟨H, I, J, id, ie, ig, rfl, rfl, gl, ih⟩
 refine a0d Y Y Y (a0l Y Y Y Y (a0l Y Y Y Y (a0l Y Y Y Y (a1h ze35 Y Y Y g6 ?_))))
 intro b7 hi g7
 refine a1h ze35 Y Y Y g7 ?_
 intro b8 hj g8
 refine a0o sz35 Y g8 Y Y Y Y (i := 1) Y Y Y Y ?_
 intro hk g9
 refine a0o sz35 Y g9 Y Y Y Y (i := 0) Y Y Y Y ?_
 intro hl p
 refine a0b Y Y Y (a0e (a0c (a0g (a0a (a0q ag35 sz35 Y Y p Y (i := 3) Y Y (a0q ag35 sz35 Y Y p Y (i := 1) Y Y (a1r (v := .agg #[.int .i64 v6.1.Sign, .slice y z G, .int .i64 v7.1.Sign, .slice H I J]) Y Y Y (fun _ => by kernel_rfl) (a0o sz37 Y p Y Y Y Y (i := 5) Y Y Y Y ?_))))))))
 intro hn K
 refine a0b Y Y Y (a0e (a0c (a1c (a1q (vl := [.agg #[.int .i64 v6.1.Sign, .slice y z G, .int .i64 v7.1.Sign, .slice H I J], .int .i64 0]) Y ⟨a2h ag37 sz37 Y K Y (i := 5) Y, a1p Y, trivial⟩ (by simp) ?_))))
 obtain rfl := Yo hm
 exact ⟨_, _, _, Y, K.Yp [] Y Y, y, z, G, H, I, J, Y, Y, (gi.mono gk), gl⟩
 refine a0r 29 Y h4 (a0p Y (a1b (a1o (a0c (a0g (a0a (a0q ag35 sz35 Y Y M Y (i := 2) Y Y (a0q ag35 sz35 Y Y M Y (i := 1) Y Y ?_))))))))
 obtain ⟨v8, j7, hm⟩ := Yb hm
 refine a0i ent75 Y Y Y Y M (b2q _ _ _ _ j7 M.sat ((ga.mono t).mono L) ((gb.mono t).mono L)) ?_
 rintro _ kb _ jb ii il ⟨jc, jd, je, rfl, rfl, ho⟩
 refine a0d Y Y Y (a0l Y Y Y Y (a0l Y Y Y Y (a1h ze35 Y Y Y il ?_)))
 intro b9 jf im
 refine a0o sz35 Y im Y Y Y Y (i := 0) Y Y Y Y ?_
 intro jg gc
 refine a0b Y Y Y (a0e (a0c (a0g (a0a (a0q ag35 sz35 Y Y gc Y (i := 3) Y Y (a0q ag35 sz35 Y Y gc Y (i := 0) Y Y ?_))))))
 obtain ⟨v9, j8, hm⟩ := Yb hm
 refine a0i ent129 Y Y Y Y gc (a9b _ _ _ _ j8 gc.sat (((ga.mono t).mono L).mono ii) ho) ?_
 rintro _ kc _ jh ij io ⟨gm, gn, go, ji, jj, jk, rfl, rfl, ip, jl⟩
 refine a0d Y Y Y (a0l Y Y Y Y (a0l Y Y Y Y (a0l Y Y Y Y (a1h ze35 Y Y Y io ?_))))
 intro b10 jm iq
 refine a1h ze35 Y Y Y iq ?_
 intro b11 jn ir
 refine a0o sz35 Y ir Y Y Y Y (i := 1) Y Y Y Y ?_
 intro jo it
 refine a0o sz35 Y it Y Y Y Y (i := 0) Y Y Y Y ?_
 intro jp gd
 refine a0b Y Y Y (a0e (a0c (a0g (a0a (a0q ag35 sz35 Y Y gd Y (i := 4) Y Y (a0q ag35 sz35 Y Y gd Y (i := 2) Y Y ?_))))))
 have j9 := ((t.trans L).trans ii).trans ij
 obtain ⟨v10, ja, hm⟩ := Yb hm
 refine a0i ent129 Y Y Y Y gd (a9b _ _ _ _ ja gd.sat (gb.mono j9) (ho.mono ij)) ?_
 rintro _ jq _ jr iu iv ⟨gp, gq, gr, js, jt, ju, rfl, rfl, iw, jv⟩
 refine a0d Y Y Y (a0l Y Y Y Y (a0l Y Y Y Y (a0l Y Y Y Y (a1h ze35 Y Y Y iv ?_))))
 intro b12 jw ix
 refine a1h ze35 Y Y Y ix ?_
 intro b13 jx iy
 refine a0o sz35 Y iy Y Y Y Y (i := 1) Y Y Y Y ?_
 intro jy iz
 refine a0o sz35 Y iz Y Y Y Y (i := 0) Y Y Y Y ?_
 intro jz gs
 refine a0b Y Y Y (a0e (a0c (a0g (a0a (a0q ag35 sz35 Y Y gs Y (i := 3) Y Y (a0q ag35 sz35 Y Y gs Y (i := 1) Y Y (a1r (v := .agg #[.int .i64 v9.1.Sign, .slice gm gn go, .int .i64 v10.1.Sign, .slice gp gq gr]) Y Y Y (fun _ => by kernel_rfl) (a0o sz37 Y gs Y Y Y Y (i := 5) Y Y Y Y ?_))))))))
 intro k0 hp
 refine a0b Y Y Y (a0e (a0c (a1c (a1q (vl := [.agg #[.int .i64 v9.1.Sign, .slice gm gn go, .int .i64 v10.1.Sign, .slice gp gq gr], .int .i64 0]) Y ⟨a2h ag37 sz37 Y hp Y (i := 5) Y, a1p Y, trivial⟩ (by simp) ?_))))
 obtain rfl := Yo hm
 exact ⟨_, _, _, Y, hp.Yp [] Y Y, gm, gn, go, gp, gq, gr, Y, Y, (ip.mono iu), iw⟩
 clear hm
 rcases a0h Z with ⟨hq, Z⟩ | ⟨hq, Z⟩
 refine a1k 18 Y hq (a0y Y (by decide) Y (a0y Y (by decide) Y (a0y Y (by decide) Y (a0s Y Y Y Y (a0e (a0k (fun a ha => ?_)))))))
 cases Z
 exact ⟨_, Yf, gt.Yp [0, 1, 2] Y Y, ha.cut (l := [2, 3, 4, 22]) Y⟩
 refine a1k 18 Y hq (a0q ag35 sz35 Y Y gt Y (i := 1) Y Y ?_)
 obtain ⟨v11, j0, Z⟩ := Yb Z
 refine a0i ent74 Y Y Y Y gt (a3i _ _ _ j0 gt.sat (gb.mono t)) ?_
 rintro _ k1 _ k2 j1 j2 ⟨rfl, rfl⟩
 refine a4c Y Y Y (a0m Y Y Y Y (a0e (a0k (fun a ha => ?_))))
 cases Z
 exact ⟨_, j1, j2.Yp [0, 1, 2] Y Y, ha.cut (l := [2, 3, 4, 22]) Y⟩
theorem ent63 : Ent Tryz.prog 63 := fun _ _ => by kernel_rfl
def a6x (n : Nat) (nx1 : Int) : Option Frac :=
 (b6c n nx1).bind fun v1 =>
 (b6c n 1).bind fun v2 =>
 some (⟨v1, v2⟩ : Frac)
theorem a8t (n : Nat) (nx1 : Int) (r : Frac) (hm : a6x n nx1 = some r) {w : World} {F : Frz} (hs : Sat F w)  :
  Calls Tryz.prog 36 #[.int .i64 nx1] w fun e w' => ∃ v F' O', e = .returned v ∧ HS F w [] F' O' w' ∧ (∃ (a0_1 : Option Addr) (n0_1 : Nat) (c0_1 : Nat) (a0_3 : Option Addr) (n0_3 : Nat) (c0_3 : Nat), v = .agg #[.int .i64 r.P.Sign, .slice a0_1 n0_1 c0_1, .int .i64 r.Q.Sign, .slice a0_3 n0_3 c0_3] ∧ O' = [] ∧ SlR (Rp.int .i64) F' a0_1 n0_1 c0_1 r.P.Digits ∧ SlR (Rp.int .i64) F' a0_3 n0_3 c0_3 r.Q.Digits) := by
 unfold a6x at hm
 have h := HS.init hs
 refine a1a 7 Tryz.func36 Y Y Y (a0g (a0a (a1h ze37 Y Y Y h ?_)))
 intro b1 H g
 refine a0e (a0c (a0g (a0a (a0d Y Y Y ?_))))
 obtain ⟨v1, t, hm⟩ := Yb hm
 refine a0i ent63 Y Y Y Y g (c4s _ _ _ t g.sat) ?_
 rintro _ I _ J K j ⟨k, l, m, rfl, rfl, u⟩
 obtain ⟨v2, x, hm⟩ := Yb hm
 refine a0i ent63 Y Y Y Y j (c4s _ _ _ x j.sat) ?_
 rintro _ L _ M y z ⟨o, p, q, rfl, rfl, G⟩
 refine a1r (v := .agg #[.int .i64 v1.Sign, .slice k l m, .int .i64 v2.Sign, .slice o p q]) Y Y Y (fun _ => by kernel_rfl) (a0o sz37 Y z Y Y Y Y (i := 0) Y Y Y Y ?_)
 intro N s
 refine a0e (a0c (a1c (a3h Y ag37 sz37 Y s Y (i := 0) Y ?_)))
 obtain rfl := Yo hm
 exact ⟨_, _, _, Y, s.Yp [] Y Y, k, l, m, o, p, q, Y, Y, (u.mono y), G⟩
theorem ent97 : Ent Tryz.prog 97 := fun _ _ => by kernel_rfl
def a3y (n : Nat) (ax1 : Big) (b1 : Big) : Option Big :=
 (b9g n ax1 b1).bind fun v1 =>
 some v1.1
theorem a3x (n : Nat) (ax1 : Big) (b1 : Big) (r : Big) (hm : a3y n ax1 b1 = some r) {w : World} {F : Frz} (hs : Sat F w) {j k : Option Addr} {l m o p : Nat} (t : SlR (Rp.int .i64) F j l m ax1.Digits) (u : SlR (Rp.int .i64) F k o p b1.Digits) :
  Calls Tryz.prog 65 #[.agg #[.int .i64 ax1.Sign, .slice j l m], .agg #[.int .i64 b1.Sign, .slice k o p]] w fun e w' => ∃ v F' O', e = .returned v ∧ HS F w [] F' O' w' ∧ (∃ (a0_1 : Option Addr) (n0_1 : Nat) (c0_1 : Nat), v = .agg #[.int .i64 r.Sign, .slice a0_1 n0_1 c0_1] ∧ O' = [] ∧ SlR (Rp.int .i64) F' a0_1 n0_1 c0_1 r.Digits) := by
 unfold a3y at hm
 have h := HS.init hs
 refine a1a 14 Tryz.func65 Y Y Y (a0g (a0a (a2z Y Y Y Y h ?_)))
 intro b2 M x
 refine a2z Y Y Y Y x ?_
 intro b3 N y
 refine a1h ze35 Y Y Y y ?_
 intro b4 Q g
 refine a0e (a0c (a0g (a0a (a0q ag35 sz35 Y Y g Y (i := 2) Y Y (a0q ag35 sz35 Y Y g Y (i := 1) Y Y ?_)))))
 obtain ⟨v1, z, hm⟩ := Yb hm
 refine a0i ent97 Y Y Y Y g (c7d _ _ _ _ z g.sat t u) ?_
 rintro _ R _ T U G ⟨H, I, J, rfl, rfl, K⟩
 refine a0d Y Y Y (a0l Y Y Y Y (a0l Y Y Y Y (a1h ze35 Y Y Y G ?_)))
 intro b5 V L
 refine a0o sz35 Y L Y Y Y Y (i := 0) Y Y Y Y ?_
 intro Z q
 refine a0b Y Y Y (a0e (a0c (a0g (a0a (a0q ag35 sz35 Y Y q Y (i := 0) Y Y (a0o sz35 Y q Y Y Y Y (i := 1) Y Y Y Y ?_))))))
 intro g0 s
 refine a0e (a0c (a1c (a3h Y ag35 sz35 Y s Y (i := 1) Y ?_)))
 obtain rfl := Yo hm
 exact ⟨_, _, _, Y, s.Yp [] Y Y, H, I, J, Y, Y, K⟩
theorem ent47 : Ent Tryz.prog 47 := fun _ _ => by kernel_rfl
theorem ent65 : Ent Tryz.prog 65 := fun _ _ => by kernel_rfl
theorem ent107 : Ent Tryz.prog 107 := fun _ _ => by kernel_rfl
theorem ent106 : Ent Tryz.prog 106 := fun _ _ => by kernel_rfl
def b4v (n : Nat) (ax1 : Frac) (b1 : Frac) : Option (Frac × Int) :=
 (a3s n ax1).bind fun v1 =>
 (bif !v1 then
  some true
 else
  (a3s n b1).bind fun v8 =>
  some (!v8)).bind fun v2 =>
 bif v2 then
  some ((⟨(⟨0, []⟩ : Big), (⟨0, []⟩ : Big)⟩ : Frac), 1)
 else
  ((a3y n ax1.P b1.Q).bind fun v5 =>
  (a3y n b1.P ax1.Q).bind fun v6 =>
  (b9x n v5 v6).bind fun v7 =>
  some (v7.1.Sign, v7.1.Digits)).bind fun (f1, f2) =>
  (a3y n ax1.Q b1.Q).bind fun v3 =>
  (b3g n (⟨f1, f2⟩ : Big) v3).bind fun v4 =>
  some (v4.1, v4.2)
theorem b9e (n : Nat) (ax1 : Frac) (b1 : Frac) (r : (Frac × Int)) (hm : b4v n ax1 b1 = some r) {w : World} {F : Frz} (hs : Sat F w) {T J U K : Option Addr} {V Z L M g0 g1 N R : Nat} (gl : SlR (Rp.int .i64) F T V Z ax1.P.Digits) (g6 : SlR (Rp.int .i64) F J L M ax1.Q.Digits) (gf : SlR (Rp.int .i64) F U g0 g1 b1.P.Digits) (gg : SlR (Rp.int .i64) F K N R b1.Q.Digits) :
  Calls Tryz.prog 79 #[.agg #[.int .i64 ax1.P.Sign, .slice T V Z, .int .i64 ax1.Q.Sign, .slice J L M], .agg #[.int .i64 b1.P.Sign, .slice U g0 g1, .int .i64 b1.Q.Sign, .slice K N R]] w fun e w' => ∃ v F' O', e = .returned v ∧ HS F w [] F' O' w' ∧ (∃ (a0_1 : Option Addr) (n0_1 : Nat) (c0_1 : Nat) (a0_3 : Option Addr) (n0_3 : Nat) (c0_3 : Nat), v = .tuple #[.agg #[.int .i64 r.1.P.Sign, .slice a0_1 n0_1 c0_1, .int .i64 r.1.Q.Sign, .slice a0_3 n0_3 c0_3], .int .i64 r.2] ∧ O' = [] ∧ SlR (Rp.int .i64) F' a0_1 n0_1 c0_1 r.1.P.Digits ∧ SlR (Rp.int .i64) F' a0_3 n0_3 c0_3 r.1.Q.Digits) := by
 unfold b4v at hm
 have h := HS.init hs
 refine a1a 40 Tryz.func79 Y Y Y (a0g (a0a (a2z Y Y Y Y h ?_)))
 intro b2 i2 he
 refine a2z Y Y Y Y he ?_
 intro b3 i3 hf
 refine a1h ze37 Y Y Y hf ?_
 intro b4 i4 gm
 refine a0b Y Y Y (a0e (a0c (a0g (a0g (a0a (a0q ag37 sz37 Y Y gm Y (i := 2) Y Y ?_))))))
 obtain ⟨v1, hg, hm⟩ := Yb hm
 refine a0i ent47 Y Y Y Y gm (a3m _ _ _ hg gm.sat gl g6) ?_
 rintro _ hh _ i5 t gh ⟨rfl, rfl⟩
 refine a4c Y Y Y (a0d Y Y Y ?_)
 obtain ⟨v2, g2, hm⟩ := Yb hm
 refine a2g 4 (fun a w' => ∃ (g7 : Frz), Frz.le hh g7 ∧ HS F w [] g7 [.box b4 37 [.int .i64 0, .slice none 0 0, .int .i64 0, .slice none 0 0], .box b3 37 [.int .i64 b1.P.Sign, .slice U g0 g1, .int .i64 b1.Q.Sign, .slice K N R], .box b2 37 [.int .i64 ax1.P.Sign, .slice T V Z, .int .i64 ax1.Q.Sign, .slice J L M]] w' ∧ Has 40 a [(2, .pointer (some ⟨b2, 0, none⟩)), (3, .pointer (some ⟨b3, 0, none⟩)), (4, .pointer (some ⟨b4, 0, none⟩)), (15, .bool v2)]) ?_ ?_
 rintro a i6 ⟨g7, u, gz, h9⟩
 refine a1d h9 (a0e (a0c ?_))
 rcases a0h hm with ⟨gn, hm⟩ | ⟨gn, hm⟩
 refine a0r 15 Y gn (a0x Y (a0g (a0a (a1r (v := .agg #[.int .i64 0, .slice none 0 0, .int .i64 0, .slice none 0 0]) Y Y Y (fun _ => by kernel_rfl) (a0o sz37 Y gz Y Y Y Y (i := 0) Y Y Y Y ?_)))))
 intro i7 h0
 refine a0b Y Y Y (a0e (a0c (a1c (a0j (a1q (vl := [.agg #[.int .i64 0, .slice none 0 0, .int .i64 0, .slice none 0 0], .int .i64 1]) Y ⟨a2h ag37 sz37 Y h0 Y (i := 0) Y, a1p Y, trivial⟩ (by simp) ?_)))))
 obtain rfl := Yo hm
 exact ⟨_, _, _, Y, h0.Yp [] Y Y, none, 0, 0, none, 0, 0, Y, Y, SlR.nil _ _, SlR.nil _ _⟩
 refine a0r 15 Y gn (a0p Y (a1b (a0c ?_)))
 obtain ⟨⟨f1, f2⟩, k, hm⟩ := Yb hm
 refine c5g (fun a w' => ∃ (g8 : Frz) (b5 : Nat) (gi : Option Addr) (gj : Nat) (gk : Nat), Frz.le g7 g8 ∧ HS F w [] g8 [.box b5 35 [.int .i64 f1, .slice gi gj gk], .box b4 37 [.int .i64 0, .slice none 0 0, .int .i64 0, .slice none 0 0], .box b3 37 [.int .i64 b1.P.Sign, .slice U g0 g1, .int .i64 b1.Q.Sign, .slice K N R], .box b2 37 [.int .i64 ax1.P.Sign, .slice T V Z, .int .i64 ax1.Q.Sign, .slice J L M]] w' ∧ (SlR (Rp.int .i64) g8 gi gj gk f2) ∧ Has 40 a [(2, .pointer (some ⟨b2, 0, none⟩)), (3, .pointer (some ⟨b3, 0, none⟩)), (4, .pointer (some ⟨b4, 0, none⟩)), (6, .pointer (some ⟨b5, 0, none⟩))]) ?_ ?_
 rintro a i8 ⟨g8, b5, gi, gj, gk, h1, hi, hj, hb⟩
 refine a1l hb (a0g (a2f (SH g8 [.box b5 35 [.int .i64 f1, .slice gi gj gk], .box b3 37 [.int .i64 b1.P.Sign, .slice U g0 g1, .int .i64 b1.Q.Sign, .slice K N R], .box b2 37 [.int .i64 ax1.P.Sign, .slice T V Z, .int .i64 ax1.Q.Sign, .slice J L M]]) 11 Y (by kernel_rfl) hi ?_))
 intro i9 go
 have S0 := go.Ys Yf [0, 2, 3] Y Y
 refine d_tk 0 Y (by kernel_rfl) Y Y Y Y S0 (fun _ _ _ _ hq => a0q ag35 sz35 Y Y hq Y (i := 0) Y Y Yn) (d_tk 1 Y (by kernel_rfl) Y Y Y Y S0 (fun _ _ _ _ _ => a0f fa37_1 Y Y Y Yn) (d_tk 2 Y (by kernel_rfl) Y Y Y Y S0 (fun _ _ _ _ hq => a2p (cs' := [.int .i64 ax1.Q.Sign, .slice J L M]) ag35 sz35 Y Y hq Y (i := 2) Y Y Y Yn) (d_tk 3 Y (by kernel_rfl) Y Y Y Y S0 (fun _ _ _ _ _ => a0f fa37_1 Y Y Y Yn) (d_tk 4 Y (by kernel_rfl) Y Y Y Y S0 (fun _ _ _ _ hq => a2p (cs' := [.int .i64 b1.Q.Sign, .slice K N R]) ag35 sz35 Y Y hq Y (i := 1) Y Y Y Yn) (a0z 5 Y (by kernel_rfl) ?_)))))
 obtain ⟨v3, hk, hm⟩ := Yb hm
 refine a0i ent65 Y Y Y Y go (a3x _ _ _ _ hk go.sat (((g6.mono t).mono u).mono h1) (((gg.mono t).mono u).mono h1)) ?_
 rintro _ ia _ ib g9 gp ⟨ic, id, ie, rfl, rfl, hl⟩
 refine a0v (gp.Ys g9 [0, 2, 3] Y Y) (a0z 6 Y (by kernel_rfl) ?_)
 obtain ⟨v4, hn, hm⟩ := Yb hm
 refine a0i ent107 Y Y Y Y gp (b5u _ _ _ _ hn gp.sat (hj.mono g9) hl) ?_
 rintro _ ig _ hy gq gr ⟨h2, h3, h4, h5, h6, h7, rfl, rfl, ho, hp⟩
 have S1 := gr.Ys (g9.trans gq) [0, 2, 3] Y Y
 refine a0v S1 (d_tk 7 Y (by kernel_rfl) Y Y Y Y S1 (fun _ _ _ _ _ => a0l Y Y Y Y Yn) (d_tk 8 Y (by kernel_rfl) Y Y Y Y S1 (fun _ _ _ _ _ => a0l Y Y Y Y Yn) (a0z 9 Y (by kernel_rfl) (a0o sz37 Y gr Y Y Y Y (i := 1) Y Y Y Y ?_))))
 intro hz g4
 refine a0v (g4.Ys (g9.trans gq) [0, 2, 3] Y Y) (d_tk 10 Y (by kernel_rfl) Y Y Y Y (g4.Ys (g9.trans gq) [0, 2, 3] Y Y) (fun _ _ _ _ _ => a0b Y Y Y Yn) (a2u (by kernel_rfl) (a0c (a1c (a1q (vl := [.agg #[.int .i64 v4.1.P.Sign, .slice h2 h3 h4, .int .i64 v4.1.Q.Sign, .slice h5 h6 h7], .int .i64 v4.2]) Y ⟨a2h ag37 sz37 Y g4 Y (i := 1) Y, a1p Y, trivial⟩ (by simp) ?_)))))
 obtain rfl := Yo hm
 exact ⟨_, _, _, Y, g4.Yp [] Y Y, h2, h3, h4, h5, h6, h7, Y, Y, ho, hp⟩
 clear hm
 refine a2f (SH g7 [.box b4 37 [.int .i64 0, .slice none 0 0, .int .i64 0, .slice none 0 0], .box b3 37 [.int .i64 b1.P.Sign, .slice U g0 g1, .int .i64 b1.Q.Sign, .slice K N R], .box b2 37 [.int .i64 ax1.P.Sign, .slice T V Z, .int .i64 ax1.Q.Sign, .slice J L M]]) 17 Y (by kernel_rfl) gz ?_
 intro i0 g5
 have S2 := g5.Ys Yf [0, 1, 2] Y Y
 refine d_tk 0 Y (by kernel_rfl) Y Y Y Y S2 (fun _ _ _ _ _ => a0f fa37_0 Y Y Y Yn) (d_tk 1 Y (by kernel_rfl) Y Y Y Y S2 (fun _ _ _ _ hq => a2p (cs' := [.int .i64 ax1.P.Sign, .slice T V Z]) ag35 sz35 Y Y hq Y (i := 2) Y Y Y Yn) (d_tk 2 Y (by kernel_rfl) Y Y Y Y S2 (fun _ _ _ _ _ => a0f fa37_1 Y Y Y Yn) (d_tk 3 Y (by kernel_rfl) Y Y Y Y S2 (fun _ _ _ _ hq => a2p (cs' := [.int .i64 b1.Q.Sign, .slice K N R]) ag35 sz35 Y Y hq Y (i := 1) Y Y Y Yn) (d_tk 5 Y (by kernel_rfl) Y Y Y Y S2 (fun _ _ _ _ _ => a0f fa37_0 Y Y Y Yn) ?_))))
 refine d_tk 6 Y (by kernel_rfl) Y Y Y Y S2 (fun _ _ _ _ hq => a2p (cs' := [.int .i64 b1.P.Sign, .slice U g0 g1]) ag35 sz35 Y Y hq Y (i := 1) Y Y Y Yn) (d_tk 7 Y (by kernel_rfl) Y Y Y Y S2 (fun _ _ _ _ _ => a0f fa37_1 Y Y Y Yn) (d_tk 8 Y (by kernel_rfl) Y Y Y Y S2 (fun _ _ _ _ hq => a2p (cs' := [.int .i64 ax1.Q.Sign, .slice J L M]) ag35 sz35 Y Y hq Y (i := 2) Y Y Y Yn) (b0p 4 14 Y Y (by kernel_rfl) ?_ ?_)))
 obtain ⟨v5, gs, k⟩ := Yb k
 refine a0i ent65 Y Y Y Y g5 (a3x _ _ _ _ gs g5.sat ((gl.mono t).mono u) ((gg.mono t).mono u)) ?_
 rintro _ hr _ hc g x ⟨ht, hu, hv, rfl, rfl, ga⟩
 refine a0v (x.Ys g [0, 1, 2] Y Y) (b0p 9 14 Y Y (by kernel_rfl) ?_ ?_)
 obtain ⟨v6, gb, k⟩ := Yb k
 refine a0i ent65 Y Y Y Y x (a3x _ _ _ _ gb x.sat (((gf.mono t).mono u).mono g) (((g6.mono t).mono u).mono g)) ?_
 rintro _ h8 _ gt j q ⟨gu, gv, gw, rfl, rfl, I⟩
 refine a0v (q.Ys (g.trans j) [0, 1, 2] Y Y) (b0p 10 14 Y Y (by kernel_rfl) ?_ ?_)
 obtain ⟨v7, g3, k⟩ := Yb k
 refine a0i ent106 Y Y Y Y q (b4y _ _ _ _ g3 q.sat (ga.mono j) I) ?_
 rintro _ gx _ gc o p ⟨y, z, G, rfl, rfl, H⟩
 have S3 := p.Ys ((g.trans j).trans o) [0, 1, 2] Y Y
 refine a0v S3 (d_tk 11 Y (by kernel_rfl) Y Y Y Y S3 (fun _ _ _ _ _ => a0d Y Y Y Yn) (d_tk 12 Y (by kernel_rfl) Y Y Y Y S3 (fun _ _ _ _ _ => a0l Y Y Y Y Yn) (d_tk 13 Y (by kernel_rfl) Y Y Y Y S3 (fun _ _ _ _ _ => a0l Y Y Y Y Yn) (a0z 14 Y (by kernel_rfl) (a1h ze35 Y Y Y p ?_)))))
 intro b6 gd s
 refine a0v (s.Ys ((g.trans j).trans o) [1, 2, 3] Y Y) (a0z 15 Y (by kernel_rfl) (a0o sz35 Y s Y Y Y Y (i := 0) Y Y Y Y ?_))
 intro ge m
 refine a0v (m.Ys ((g.trans j).trans o) [1, 2, 3] Y Y) (d_tk 16 Y (by kernel_rfl) Y Y Y Y (m.Ys ((g.trans j).trans o) [1, 2, 3] Y Y) (fun _ _ _ _ _ => a0b Y Y Y Yn) (a2u (by kernel_rfl) (a0k (fun a ha => ?_))))
 cases k
 exact ⟨_, b6, y, z, G, ((g.trans j).trans o), m.Yp [0, 1, 2, 3] Y Y, H, ha.cut (l := [2, 3, 4, 6]) Y⟩
 refine a1h ze35 Y Y Y q ?_
 intro b6 gc p
 refine a0v (p.Ys (g.trans j) [1, 2, 3] Y Y) (a0z 10 Y (by kernel_rfl) ?_)
 obtain ⟨v7, g3, k⟩ := Yb k
 refine a0i ent106 Y Y Y Y p (b4y _ _ _ _ g3 p.sat (ga.mono j) I) ?_
 rintro _ gx _ gd o s ⟨y, z, G, rfl, rfl, H⟩
 have S4 := s.Ys ((g.trans j).trans o) [1, 2, 3] Y Y
 refine a0v S4 (d_tk 11 Y (by kernel_rfl) Y Y Y Y S4 (fun _ _ _ _ _ => a0d Y Y Y Yn) (d_tk 12 Y (by kernel_rfl) Y Y Y Y S4 (fun _ _ _ _ _ => a0l Y Y Y Y Yn) (d_tk 13 Y (by kernel_rfl) Y Y Y Y S4 (fun _ _ _ _ _ => a0l Y Y Y Y Yn) (a0z 15 Y (by kernel_rfl) (a0o sz35 Y s Y Y Y Y (i := 0) Y Y Y Y ?_)))))
 intro ge m
 refine a0v (m.Ys ((g.trans j).trans o) [1, 2, 3] Y Y) (d_tk 16 Y (by kernel_rfl) Y Y Y Y (m.Ys ((g.trans j).trans o) [1, 2, 3] Y Y) (fun _ _ _ _ _ => a0b Y Y Y Yn) (a2u (by kernel_rfl) (a0k (fun a ha => ?_))))
 cases k
 exact ⟨_, b6, y, z, G, ((g.trans j).trans o), m.Yp [0, 1, 2, 3] Y Y, H, ha.cut (l := [2, 3, 4, 6]) Y⟩
 refine a1h ze35 Y Y Y x ?_
 intro b6 gt q
 refine a0v (q.Ys g [1, 2, 3] Y Y) (a0z 9 Y (by kernel_rfl) ?_)
 obtain ⟨v6, gb, k⟩ := Yb k
 refine a0i ent65 Y Y Y Y q (a3x _ _ _ _ gb q.sat (((gf.mono t).mono u).mono g) (((g6.mono t).mono u).mono g)) ?_
 rintro _ h8 _ gc j p ⟨gu, gv, gw, rfl, rfl, I⟩
 refine a0v (p.Ys (g.trans j) [1, 2, 3] Y Y) (a0z 10 Y (by kernel_rfl) ?_)
 obtain ⟨v7, g3, k⟩ := Yb k
 refine a0i ent106 Y Y Y Y p (b4y _ _ _ _ g3 p.sat (ga.mono j) I) ?_
 rintro _ gx _ gd o s ⟨y, z, G, rfl, rfl, H⟩
 have S5 := s.Ys ((g.trans j).trans o) [1, 2, 3] Y Y
 refine a0v S5 (d_tk 11 Y (by kernel_rfl) Y Y Y Y S5 (fun _ _ _ _ _ => a0d Y Y Y Yn) (d_tk 12 Y (by kernel_rfl) Y Y Y Y S5 (fun _ _ _ _ _ => a0l Y Y Y Y Yn) (d_tk 13 Y (by kernel_rfl) Y Y Y Y S5 (fun _ _ _ _ _ => a0l Y Y Y Y Yn) (a0z 15 Y (by kernel_rfl) (a0o sz35 Y s Y Y Y Y (i := 0) Y Y Y Y ?_)))))
 intro ge m
 refine a0v (m.Ys ((g.trans j).trans o) [1, 2, 3] Y Y) (d_tk 16 Y (by kernel_rfl) Y Y Y Y (m.Ys ((g.trans j).trans o) [1, 2, 3] Y Y) (fun _ _ _ _ _ => a0b Y Y Y Yn) (a2u (by kernel_rfl) (a0k (fun a ha => ?_))))
 cases k
 exact ⟨_, b6, y, z, G, ((g.trans j).trans o), m.Yp [0, 1, 2, 3] Y Y, H, ha.cut (l := [2, 3, 4, 6]) Y⟩
 refine a1h ze35 Y Y Y g5 ?_
 intro b6 hc x
 refine a0v (x.Ys Yf [1, 2, 3] Y Y) (a0z 4 Y (by kernel_rfl) ?_)
 obtain ⟨v5, gs, k⟩ := Yb k
 refine a0i ent65 Y Y Y Y x (a3x _ _ _ _ gs x.sat ((gl.mono t).mono u) ((gg.mono t).mono u)) ?_
 rintro _ hr _ gt g q ⟨ht, hu, hv, rfl, rfl, ga⟩
 refine a0v (q.Ys g [1, 2, 3] Y Y) (a0z 9 Y (by kernel_rfl) ?_)
 obtain ⟨v6, gb, k⟩ := Yb k
 refine a0i ent65 Y Y Y Y q (a3x _ _ _ _ gb q.sat (((gf.mono t).mono u).mono g) (((g6.mono t).mono u).mono g)) ?_
 rintro _ h8 _ gc j p ⟨gu, gv, gw, rfl, rfl, I⟩
 refine a0v (p.Ys (g.trans j) [1, 2, 3] Y Y) (a0z 10 Y (by kernel_rfl) ?_)
 obtain ⟨v7, g3, k⟩ := Yb k
 refine a0i ent106 Y Y Y Y p (b4y _ _ _ _ g3 p.sat (ga.mono j) I) ?_
 rintro _ gx _ gd o s ⟨y, z, G, rfl, rfl, H⟩
 have S6 := s.Ys ((g.trans j).trans o) [1, 2, 3] Y Y
 refine a0v S6 (d_tk 11 Y (by kernel_rfl) Y Y Y Y S6 (fun _ _ _ _ _ => a0d Y Y Y Yn) (d_tk 12 Y (by kernel_rfl) Y Y Y Y S6 (fun _ _ _ _ _ => a0l Y Y Y Y Yn) (d_tk 13 Y (by kernel_rfl) Y Y Y Y S6 (fun _ _ _ _ _ => a0l Y Y Y Y Yn) (a0z 15 Y (by kernel_rfl) (a0o sz35 Y s Y Y Y Y (i := 0) Y Y Y Y ?_)))))
 intro ge m
 refine a0v (m.Ys ((g.trans j).trans o) [1, 2, 3] Y Y) (d_tk 16 Y (by kernel_rfl) Y Y Y Y (m.Ys ((g.trans j).trans o) [1, 2, 3] Y Y) (fun _ _ _ _ _ => a0b Y Y Y Yn) (a2u (by kernel_rfl) (a0k (fun a ha => ?_))))
 cases k
 exact ⟨_, b6, y, z, G, ((g.trans j).trans o), m.Yp [0, 1, 2, 3] Y Y, H, ha.cut (l := [2, 3, 4, 6]) Y⟩
 clear hm
 rcases a0h g2 with ⟨gy, g2⟩ | ⟨gy, g2⟩
 refine a1k 11 Y gy (a0y Y (by decide) Y (a0y Y (by decide) Y (a0y Y (by decide) Y (a0s Y Y Y Y (a0e (a0k (fun a ha => ?_)))))))
 cases g2
 exact ⟨_, Yf, gh.Yp [0, 1, 2] Y Y, ha.cut (l := [2, 3, 4, 15]) Y⟩
 refine a1k 11 Y gy (a0q ag37 sz37 Y Y gh Y (i := 1) Y Y ?_)
 obtain ⟨v8, hw, g2⟩ := Yb g2
 refine a0i ent47 Y Y Y Y gh (a3m _ _ _ hw gh.sat (gf.mono t) (gg.mono t)) ?_
 rintro _ ih _ i1 hx hd ⟨rfl, rfl⟩
 refine a4c Y Y Y (a0m Y Y Y Y (a0e (a0k (fun a ha => ?_))))
 cases g2
 exact ⟨_, hx, hd.Yp [0, 1, 2] Y Y, ha.cut (l := [2, 3, 4, 15]) Y⟩
theorem ent79 : Ent Tryz.prog 79 := fun _ _ => by kernel_rfl
def b6n (n : Nat) (ax1 : Frac) (b1 : Frac) : Option (Frac × Int) :=
 (a3s n ax1).bind fun v1 =>
 (bif !v1 then
  some true
 else
  (a3s n b1).bind fun v5 =>
  some (!v5)).bind fun v2 =>
 bif v2 then
  some ((⟨(⟨0, []⟩ : Big), (⟨0, []⟩ : Big)⟩ : Frac), 1)
 else
  (b3l n b1.P).bind fun v3 =>
  (b4v n ax1 (⟨v3, b1.Q⟩ : Frac)).bind fun v4 =>
  some (v4.1, v4.2)
theorem c4z (n : Nat) (ax1 : Frac) (b1 : Frac) (r : (Frac × Int)) (hm : b6n n ax1 b1 = some r) {w : World} {F : Frz} (hs : Sat F w) {x y s k : Option Addr} {z G H I t u m o : Nat} (Z : SlR (Rp.int .i64) F x z G ax1.P.Digits) (g0 : SlR (Rp.int .i64) F y H I ax1.Q.Digits) (g1 : SlR (Rp.int .i64) F s t u b1.P.Digits) (g2 : SlR (Rp.int .i64) F k m o b1.Q.Digits) :
  Calls Tryz.prog 80 #[.agg #[.int .i64 ax1.P.Sign, .slice x z G, .int .i64 ax1.Q.Sign, .slice y H I], .agg #[.int .i64 b1.P.Sign, .slice s t u, .int .i64 b1.Q.Sign, .slice k m o]] w fun e w' => ∃ v F' O', e = .returned v ∧ HS F w [] F' O' w' ∧ (∃ (a0_1 : Option Addr) (n0_1 : Nat) (c0_1 : Nat) (a0_3 : Option Addr) (n0_3 : Nat) (c0_3 : Nat), v = .tuple #[.agg #[.int .i64 r.1.P.Sign, .slice a0_1 n0_1 c0_1, .int .i64 r.1.Q.Sign, .slice a0_3 n0_3 c0_3], .int .i64 r.2] ∧ O' = [] ∧ SlR (Rp.int .i64) F' a0_1 n0_1 c0_1 r.1.P.Digits ∧ SlR (Rp.int .i64) F' a0_3 n0_3 c0_3 r.1.Q.Digits) := by
 unfold b6n at hm
 have h := HS.init hs
 refine a1a 25 Tryz.func80 Y Y Y (a0g (a0a (a2z Y Y Y Y h ?_)))
 intro b2 gu ge
 refine a2z Y Y Y Y ge ?_
 intro b3 gv gf
 refine a1h ze37 Y Y Y gf ?_
 intro b4 gw N
 refine a0b Y Y Y (a0e (a0c (a0g (a0g (a0a (a0q ag37 sz37 Y Y N Y (i := 2) Y Y ?_))))))
 obtain ⟨v1, gg, hm⟩ := Yb hm
 refine a0i ent47 Y Y Y Y N (a3m _ _ _ gg N.sat Z g0) ?_
 rintro _ gh _ gx p J ⟨rfl, rfl⟩
 refine a4c Y Y Y (a0d Y Y Y ?_)
 obtain ⟨v2, j, hm⟩ := Yb hm
 refine a2g 4 (fun a w' => ∃ (K : Frz), Frz.le gh K ∧ HS F w [] K [.box b4 37 [.int .i64 0, .slice none 0 0, .int .i64 0, .slice none 0 0], .box b3 37 [.int .i64 b1.P.Sign, .slice s t u, .int .i64 b1.Q.Sign, .slice k m o], .box b2 37 [.int .i64 ax1.P.Sign, .slice x z G, .int .i64 ax1.Q.Sign, .slice y H I]] w' ∧ Has 25 a [(2, .pointer (some ⟨b2, 0, none⟩)), (3, .pointer (some ⟨b3, 0, none⟩)), (4, .pointer (some ⟨b4, 0, none⟩)), (13, .bool v2)]) ?_ ?_
 rintro a gy ⟨K, L, g3, gc⟩
 refine a1d gc (a0e (a0c ?_))
 rcases a0h hm with ⟨R, hm⟩ | ⟨R, hm⟩
 refine a0r 13 Y R (a0x Y (a0g (a0a (a1r (v := .agg #[.int .i64 0, .slice none 0 0, .int .i64 0, .slice none 0 0]) Y Y Y (fun _ => by kernel_rfl) (a0o sz37 Y g3 Y Y Y Y (i := 0) Y Y Y Y ?_)))))
 intro gz g4
 refine a0b Y Y Y (a0e (a0c (a1c (a0j (a1q (vl := [.agg #[.int .i64 0, .slice none 0 0, .int .i64 0, .slice none 0 0], .int .i64 1]) Y ⟨a2h ag37 sz37 Y g4 Y (i := 0) Y, a1p Y, trivial⟩ (by simp) ?_)))))
 obtain rfl := Yo hm
 exact ⟨_, _, _, Y, g4.Yp [] Y Y, none, 0, 0, none, 0, 0, Y, Y, SlR.nil _ _, SlR.nil _ _⟩
 refine a0r 13 Y R (a0p Y (a1b (a0c (a0g (a2f (SH K [.box b3 37 [.int .i64 b1.P.Sign, .slice s t u, .int .i64 b1.Q.Sign, .slice k m o], .box b2 37 [.int .i64 ax1.P.Sign, .slice x z G, .int .i64 ax1.Q.Sign, .slice y H I]]) 12 Y (by kernel_rfl) g3 ?_)))))
 intro h0 T
 have S0 := T.Ys Yf [1, 2] Y Y
 refine d_tk 0 Y (by kernel_rfl) Y Y Y Y S0 (fun _ _ _ _ hq => a0q ag37 sz37 Y Y hq Y (i := 1) Y Y Yn) (d_tk 1 Y (by kernel_rfl) Y Y Y Y S0 (fun _ _ _ _ _ => a0f fa37_0 Y Y Y Yn) (d_tk 2 Y (by kernel_rfl) Y Y Y Y S0 (fun _ _ _ _ hq => a2p (cs' := [.int .i64 b1.P.Sign, .slice s t u]) ag35 sz35 Y Y hq Y (i := 0) Y Y Y Yn) (d_tk 4 Y (by kernel_rfl) Y Y Y Y S0 (fun _ _ _ _ _ => a0f fa37_1 Y Y Y Yn) (d_tk 5 Y (by kernel_rfl) Y Y Y Y S0 (fun _ _ _ _ hq => a2p (cs' := [.int .i64 b1.Q.Sign, .slice k m o]) ag35 sz35 Y Y hq Y (i := 0) Y Y Y Yn) (a0z 3 Y (by kernel_rfl) ?_)))))
 obtain ⟨v3, gi, hm⟩ := Yb hm
 refine a0i ent108 Y Y Y Y T (a8j _ _ _ gi T.sat ((g1.mono p).mono L)) ?_
 rintro _ h1 _ h2 g M ⟨gj, gk, gl, rfl, rfl, gm⟩
 refine a0v (M.Ys g [1, 2] Y Y) (d_tk 6 Y (by kernel_rfl) Y Y Y Y (M.Ys g [1, 2] Y Y) (fun _ _ _ _ _ => a1r (v := .agg #[.int .i64 v3.Sign, .slice gj gk gl, .int .i64 b1.Q.Sign, .slice k m o]) Y Y Y (fun _ => by kernel_rfl) Yn) (a0z 7 Y (by kernel_rfl) ?_))
 obtain ⟨v4, gn, hm⟩ := Yb hm
 refine a0i ent79 Y Y Y Y M (b9e _ _ _ _ gn M.sat (((Z.mono p).mono L).mono g) (((g0.mono p).mono L).mono g) gm (((g2.mono p).mono L).mono g)) ?_
 rintro _ h3 _ h4 U g5 ⟨g6, g7, g8, g9, ga, gb, rfl, rfl, go, gp⟩
 have S1 := g5.Ys (g.trans U) [1, 2] Y Y
 refine a0v S1 (d_tk 8 Y (by kernel_rfl) Y Y Y Y S1 (fun _ _ _ _ _ => a0l Y Y Y Y Yn) (d_tk 9 Y (by kernel_rfl) Y Y Y Y S1 (fun _ _ _ _ _ => a0l Y Y Y Y Yn) (a0z 10 Y (by kernel_rfl) (a0o sz37 Y g5 Y Y Y Y (i := 0) Y Y Y Y ?_))))
 intro gs q
 refine a0v (q.Ys (g.trans U) [1, 2] Y Y) (d_tk 11 Y (by kernel_rfl) Y Y Y Y (q.Ys (g.trans U) [1, 2] Y Y) (fun _ _ _ _ _ => a0b Y Y Y Yn) (a2u (by kernel_rfl) (a0c (a1c (a1q (vl := [.agg #[.int .i64 v4.1.P.Sign, .slice g6 g7 g8, .int .i64 v4.1.Q.Sign, .slice g9 ga gb], .int .i64 v4.2]) Y ⟨a2h ag37 sz37 Y q Y (i := 0) Y, a1p Y, trivial⟩ (by simp) ?_)))))
 obtain rfl := Yo hm
 exact ⟨_, _, _, Y, q.Yp [] Y Y, g6, g7, g8, g9, ga, gb, Y, Y, go, gp⟩
 clear hm
 rcases a0h j with ⟨V, j⟩ | ⟨V, j⟩
 refine a1k 9 Y V (a0y Y (by decide) Y (a0y Y (by decide) Y (a0y Y (by decide) Y (a0s Y Y Y Y (a0e (a0k (fun a ha => ?_)))))))
 cases j
 exact ⟨_, Yf, J.Yp [0, 1, 2] Y Y, ha.cut (l := [2, 3, 4, 13]) Y⟩
 refine a1k 9 Y V (a0q ag37 sz37 Y Y J Y (i := 1) Y Y ?_)
 obtain ⟨v5, gq, j⟩ := Yb j
 refine a0i ent47 Y Y Y Y J (a3m _ _ _ gq J.sat (g1.mono p) (g2.mono p)) ?_
 rintro _ h5 _ gt gr gd ⟨rfl, rfl⟩
 refine a4c Y Y Y (a0m Y Y Y Y (a0e (a0k (fun a ha => ?_))))
 cases j
 exact ⟨_, gr, gd.Yp [0, 1, 2] Y Y, ha.cut (l := [2, 3, 4, 13]) Y⟩
def b6l (n : Nat) (ax1 : Frac) (b1 : Frac) : Option (Frac × Int) :=
 (a3s n ax1).bind fun v1 =>
 (bif !v1 then
  some true
 else
  (a3s n b1).bind fun v6 =>
  some (!v6)).bind fun v2 =>
 bif v2 then
  some ((⟨(⟨0, []⟩ : Big), (⟨0, []⟩ : Big)⟩ : Frac), 1)
 else
  (a3y n ax1.P b1.P).bind fun v3 =>
  (a3y n ax1.Q b1.Q).bind fun v4 =>
  (b3g n v3 v4).bind fun v5 =>
  some (v5.1, v5.2)
theorem c5r (n : Nat) (ax1 : Frac) (b1 : Frac) (r : (Frac × Int)) (hm : b6l n ax1 b1 = some r) {w : World} {F : Frz} (hs : Sat F w) {o p q s : Option Addr} {t u x y z G H I : Nat} (g2 : SlR (Rp.int .i64) F o t u ax1.P.Digits) (g3 : SlR (Rp.int .i64) F p x y ax1.Q.Digits) (g4 : SlR (Rp.int .i64) F q z G b1.P.Digits) (g5 : SlR (Rp.int .i64) F s H I b1.Q.Digits) :
  Calls Tryz.prog 81 #[.agg #[.int .i64 ax1.P.Sign, .slice o t u, .int .i64 ax1.Q.Sign, .slice p x y], .agg #[.int .i64 b1.P.Sign, .slice q z G, .int .i64 b1.Q.Sign, .slice s H I]] w fun e w' => ∃ v F' O', e = .returned v ∧ HS F w [] F' O' w' ∧ (∃ (a0_1 : Option Addr) (n0_1 : Nat) (c0_1 : Nat) (a0_3 : Option Addr) (n0_3 : Nat) (c0_3 : Nat), v = .tuple #[.agg #[.int .i64 r.1.P.Sign, .slice a0_1 n0_1 c0_1, .int .i64 r.1.Q.Sign, .slice a0_3 n0_3 c0_3], .int .i64 r.2] ∧ O' = [] ∧ SlR (Rp.int .i64) F' a0_1 n0_1 c0_1 r.1.P.Digits ∧ SlR (Rp.int .i64) F' a0_3 n0_3 c0_3 r.1.Q.Digits) := by
 unfold b6l at hm
 have h := HS.init hs
 refine a1a 28 Tryz.func81 Y Y Y (a0g (a0a (a2z Y Y Y Y h ?_)))
 intro b2 gw gg
 refine a2z Y Y Y Y gg ?_
 intro b3 gx gh
 refine a1h ze37 Y Y Y gh ?_
 intro b4 gy N
 refine a0b Y Y Y (a0e (a0c (a0g (a0g (a0a (a0q ag37 sz37 Y Y N Y (i := 2) Y Y ?_))))))
 obtain ⟨v1, gi, hm⟩ := Yb hm
 refine a0i ent47 Y Y Y Y N (a3m _ _ _ gi N.sat g2 g3) ?_
 rintro _ gj _ gz k K ⟨rfl, rfl⟩
 refine a4c Y Y Y (a0d Y Y Y ?_)
 obtain ⟨v2, g, hm⟩ := Yb hm
 refine a2g 4 (fun a w' => ∃ (L : Frz), Frz.le gj L ∧ HS F w [] L [.box b4 37 [.int .i64 0, .slice none 0 0, .int .i64 0, .slice none 0 0], .box b3 37 [.int .i64 b1.P.Sign, .slice q z G, .int .i64 b1.Q.Sign, .slice s H I], .box b2 37 [.int .i64 ax1.P.Sign, .slice o t u, .int .i64 ax1.Q.Sign, .slice p x y]] w' ∧ Has 28 a [(2, .pointer (some ⟨b2, 0, none⟩)), (3, .pointer (some ⟨b3, 0, none⟩)), (4, .pointer (some ⟨b4, 0, none⟩)), (13, .bool v2)]) ?_ ?_
 rintro a h0 ⟨L, M, g6, ge⟩
 refine a1d ge (a0e (a0c ?_))
 rcases a0h hm with ⟨R, hm⟩ | ⟨R, hm⟩
 refine a0r 13 Y R (a0x Y (a0g (a0a (a1r (v := .agg #[.int .i64 0, .slice none 0 0, .int .i64 0, .slice none 0 0]) Y Y Y (fun _ => by kernel_rfl) (a0o sz37 Y g6 Y Y Y Y (i := 0) Y Y Y Y ?_)))))
 intro h1 g7
 refine a0b Y Y Y (a0e (a0c (a1c (a0j (a1q (vl := [.agg #[.int .i64 0, .slice none 0 0, .int .i64 0, .slice none 0 0], .int .i64 1]) Y ⟨a2h ag37 sz37 Y g7 Y (i := 0) Y, a1p Y, trivial⟩ (by simp) ?_)))))
 obtain rfl := Yo hm
 exact ⟨_, _, _, Y, g7.Yp [] Y Y, none, 0, 0, none, 0, 0, Y, Y, SlR.nil _ _, SlR.nil _ _⟩
 refine a0r 13 Y R (a0p Y (a1b (a0c (a0g (a2f (SH L [.box b3 37 [.int .i64 b1.P.Sign, .slice q z G, .int .i64 b1.Q.Sign, .slice s H I], .box b2 37 [.int .i64 ax1.P.Sign, .slice o t u, .int .i64 ax1.Q.Sign, .slice p x y]]) 15 Y (by kernel_rfl) g6 ?_)))))
 intro h2 T
 have S0 := T.Ys Yf [1, 2] Y Y
 refine d_tk 0 Y (by kernel_rfl) Y Y Y Y S0 (fun _ _ _ _ _ => a0f fa37_0 Y Y Y Yn) (d_tk 1 Y (by kernel_rfl) Y Y Y Y S0 (fun _ _ _ _ hq => a2p (cs' := [.int .i64 ax1.P.Sign, .slice o t u]) ag35 sz35 Y Y hq Y (i := 1) Y Y Y Yn) (d_tk 2 Y (by kernel_rfl) Y Y Y Y S0 (fun _ _ _ _ _ => a0f fa37_0 Y Y Y Yn) (d_tk 3 Y (by kernel_rfl) Y Y Y Y S0 (fun _ _ _ _ hq => a2p (cs' := [.int .i64 b1.P.Sign, .slice q z G]) ag35 sz35 Y Y hq Y (i := 0) Y Y Y Yn) (d_tk 5 Y (by kernel_rfl) Y Y Y Y S0 (fun _ _ _ _ _ => a0f fa37_1 Y Y Y Yn) ?_))))
 refine d_tk 6 Y (by kernel_rfl) Y Y Y Y S0 (fun _ _ _ _ hq => a2p (cs' := [.int .i64 ax1.Q.Sign, .slice p x y]) ag35 sz35 Y Y hq Y (i := 1) Y Y Y Yn) (d_tk 7 Y (by kernel_rfl) Y Y Y Y S0 (fun _ _ _ _ _ => a0f fa37_1 Y Y Y Yn) (d_tk 8 Y (by kernel_rfl) Y Y Y Y S0 (fun _ _ _ _ hq => a2p (cs' := [.int .i64 b1.Q.Sign, .slice s H I]) ag35 sz35 Y Y hq Y (i := 0) Y Y Y Yn) (a0z 4 Y (by kernel_rfl) ?_)))
 obtain ⟨v3, gk, hm⟩ := Yb hm
 refine a0i ent65 Y Y Y Y T (a3x _ _ _ _ gk T.sat ((g2.mono k).mono M) ((g4.mono k).mono M)) ?_
 rintro _ h3 _ h4 j U ⟨h5, h6, h7, rfl, rfl, gl⟩
 refine a0v (U.Ys j [1, 2] Y Y) (a0z 9 Y (by kernel_rfl) ?_)
 obtain ⟨v4, gm, hm⟩ := Yb hm
 refine a0i ent65 Y Y Y Y U (a3x _ _ _ _ gm U.sat (((g3.mono k).mono M).mono j) (((g5.mono k).mono M).mono j)) ?_
 rintro _ h8 _ h9 J V ⟨hb, hc, hd, rfl, rfl, gn⟩
 refine a0v (V.Ys (j.trans J) [1, 2] Y Y) (a0z 10 Y (by kernel_rfl) ?_)
 obtain ⟨v5, go, hm⟩ := Yb hm
 refine a0i ent107 Y Y Y Y V (b5u _ _ _ _ go V.sat (gl.mono J) gn) ?_
 rintro _ he _ gt Z g0 ⟨g8, g9, ga, gb, gc, gd, rfl, rfl, gp, gq⟩
 have S1 := g0.Ys ((j.trans J).trans Z) [1, 2] Y Y
 refine a0v S1 (d_tk 11 Y (by kernel_rfl) Y Y Y Y S1 (fun _ _ _ _ _ => a0l Y Y Y Y Yn) (d_tk 12 Y (by kernel_rfl) Y Y Y Y S1 (fun _ _ _ _ _ => a0l Y Y Y Y Yn) (a0z 13 Y (by kernel_rfl) (a0o sz37 Y g0 Y Y Y Y (i := 0) Y Y Y Y ?_))))
 intro gu m
 refine a0v (m.Ys ((j.trans J).trans Z) [1, 2] Y Y) (d_tk 14 Y (by kernel_rfl) Y Y Y Y (m.Ys ((j.trans J).trans Z) [1, 2] Y Y) (fun _ _ _ _ _ => a0b Y Y Y Yn) (a2u (by kernel_rfl) (a0c (a1c (a1q (vl := [.agg #[.int .i64 v5.1.P.Sign, .slice g8 g9 ga, .int .i64 v5.1.Q.Sign, .slice gb gc gd], .int .i64 v5.2]) Y ⟨a2h ag37 sz37 Y m Y (i := 0) Y, a1p Y, trivial⟩ (by simp) ?_)))))
 obtain rfl := Yo hm
 exact ⟨_, _, _, Y, m.Yp [] Y Y, g8, g9, ga, gb, gc, gd, Y, Y, gp, gq⟩
 clear hm
 rcases a0h g with ⟨g1, g⟩ | ⟨g1, g⟩
 refine a1k 9 Y g1 (a0y Y (by decide) Y (a0y Y (by decide) Y (a0y Y (by decide) Y (a0s Y Y Y Y (a0e (a0k (fun a ha => ?_)))))))
 cases g
 exact ⟨_, Yf, K.Yp [0, 1, 2] Y Y, ha.cut (l := [2, 3, 4, 13]) Y⟩
 refine a1k 9 Y g1 (a0q ag37 sz37 Y Y K Y (i := 1) Y Y ?_)
 obtain ⟨v6, gr, g⟩ := Yb g
 refine a0i ent47 Y Y Y Y K (a3m _ _ _ gr K.sat (g4.mono k) (g5.mono k)) ?_
 rintro _ hf _ gv gs gf ⟨rfl, rfl⟩
 refine a4c Y Y Y (a0m Y Y Y Y (a0e (a0k (fun a ha => ?_))))
 cases g
 exact ⟨_, gs, gf.Yp [0, 1, 2] Y Y, ha.cut (l := [2, 3, 4, 13]) Y⟩
def b6h (n : Nat) (ax1 : Frac) (b1 : Frac) : Option (Frac × Int) :=
 (a3s n ax1).bind fun v1 =>
 (bif !v1 then
  some true
 else
  (a3s n b1).bind fun v6 =>
  some (!v6)).bind fun v2 =>
 bif v2 then
  some ((⟨(⟨0, []⟩ : Big), (⟨0, []⟩ : Big)⟩ : Frac), 1)
 else
  bif b1.P.Sign == 0 then
   some ((⟨(⟨0, []⟩ : Big), (⟨0, []⟩ : Big)⟩ : Frac), 14)
  else
   (a3y n ax1.P b1.Q).bind fun v3 =>
   (a3y n ax1.Q b1.P).bind fun v4 =>
   (b3g n v3 v4).bind fun v5 =>
   some (v5.1, v5.2)
theorem c5w (n : Nat) (ax1 : Frac) (b1 : Frac) (r : (Frac × Int)) (hm : b6h n ax1 b1 = some r) {w : World} {F : Frz} (hs : Sat F w) {o p q s : Option Addr} {t u x y z G H I : Nat} (g4 : SlR (Rp.int .i64) F o t u ax1.P.Digits) (g5 : SlR (Rp.int .i64) F p x y ax1.Q.Digits) (g6 : SlR (Rp.int .i64) F q z G b1.P.Digits) (g7 : SlR (Rp.int .i64) F s H I b1.Q.Digits) :
  Calls Tryz.prog 82 #[.agg #[.int .i64 ax1.P.Sign, .slice o t u, .int .i64 ax1.Q.Sign, .slice p x y], .agg #[.int .i64 b1.P.Sign, .slice q z G, .int .i64 b1.Q.Sign, .slice s H I]] w fun e w' => ∃ v F' O', e = .returned v ∧ HS F w [] F' O' w' ∧ (∃ (a0_1 : Option Addr) (n0_1 : Nat) (c0_1 : Nat) (a0_3 : Option Addr) (n0_3 : Nat) (c0_3 : Nat), v = .tuple #[.agg #[.int .i64 r.1.P.Sign, .slice a0_1 n0_1 c0_1, .int .i64 r.1.Q.Sign, .slice a0_3 n0_3 c0_3], .int .i64 r.2] ∧ O' = [] ∧ SlR (Rp.int .i64) F' a0_1 n0_1 c0_1 r.1.P.Digits ∧ SlR (Rp.int .i64) F' a0_3 n0_3 c0_3 r.1.Q.Digits) := by
 unfold b6h at hm
 have h := HS.init hs
 refine a1a 35 Tryz.func82 Y Y Y (a0g (a0a (a2z Y Y Y Y h ?_)))
 intro b2 gz gi
 refine a2z Y Y Y Y gi ?_
 intro b3 h0 gj
 refine a1h ze37 Y Y Y gj ?_
 intro b4 h1 T
 refine a0b Y Y Y (a0e (a0c (a0g (a1j (a0g (a0a (a0q ag37 sz37 Y Y T Y (i := 2) Y Y ?_)))))))
 obtain ⟨v1, gk, hm⟩ := Yb hm
 refine a0i ent47 Y Y Y Y T (a3m _ _ _ gk T.sat g4 g5) ?_
 rintro _ gl _ h2 k L ⟨rfl, rfl⟩
 refine a4c Y Y Y (a0d Y Y Y ?_)
 obtain ⟨v2, g, hm⟩ := Yb hm
 refine a2g 4 (fun a w' => ∃ (M : Frz), Frz.le gl M ∧ HS F w [] M [.box b4 37 [.int .i64 0, .slice none 0 0, .int .i64 0, .slice none 0 0], .box b3 37 [.int .i64 b1.P.Sign, .slice q z G, .int .i64 b1.Q.Sign, .slice s H I], .box b2 37 [.int .i64 ax1.P.Sign, .slice o t u, .int .i64 ax1.Q.Sign, .slice p x y]] w' ∧ Has 35 a [(2, .pointer (some ⟨b2, 0, none⟩)), (3, .pointer (some ⟨b3, 0, none⟩)), (4, .pointer (some ⟨b4, 0, none⟩)), (14, .bool v2)]) ?_ ?_
 rintro a h3 ⟨M, N, R, gg⟩
 refine a1d gg (a0b Y Y Y (a0e (a0c ?_)))
 rcases a0h hm with ⟨U, hm⟩ | ⟨U, hm⟩
 refine a0r 6 Y U (a0x Y (a0g (a0a (a1r (v := .agg #[.int .i64 0, .slice none 0 0, .int .i64 0, .slice none 0 0]) Y Y Y (fun _ => by kernel_rfl) (a0o sz37 Y R Y Y Y Y (i := 0) Y Y Y Y ?_)))))
 intro h4 g8
 refine a0b Y Y Y (a0e (a0c (a1c (a0t (a0j (a1q (vl := [.agg #[.int .i64 0, .slice none 0 0, .int .i64 0, .slice none 0 0], .int .i64 1]) Y ⟨a2h ag37 sz37 Y g8 Y (i := 0) Y, a1p Y, trivial⟩ (by simp) ?_))))))
 obtain rfl := Yo hm
 exact ⟨_, _, _, Y, g8.Yp [] Y Y, none, 0, 0, none, 0, 0, Y, Y, SlR.nil _ _, SlR.nil _ _⟩
 refine a0r 6 Y U (a0p Y (a0g (a0a (a0f fa37_0 Y Y Y (a0f fa35_0 Y Y Y (a0n ag3 Y Y R Y (i := 1) Y Y (a0u Y Y Y Y Y (a0b Y Y Y (a0e (a0c ?_))))))))))
 rcases a0h hm with ⟨V, hm⟩ | ⟨V, hm⟩
 refine a0r 16 Y V (a0x Y (a0g (a0a (a1r (v := .agg #[.int .i64 0, .slice none 0 0, .int .i64 0, .slice none 0 0]) Y Y Y (fun _ => by kernel_rfl) (a0o sz37 Y R Y Y Y Y (i := 0) Y Y Y Y ?_)))))
 intro h5 g9
 refine a0b Y Y Y (a0e (a0c (a1c (a0t (a0j (a1q (vl := [.agg #[.int .i64 0, .slice none 0 0, .int .i64 0, .slice none 0 0], .int .i64 14]) Y ⟨a2h ag37 sz37 Y g9 Y (i := 0) Y, a1p Y, trivial⟩ (by simp) ?_))))))
 obtain rfl := Yo hm
 exact ⟨_, _, _, Y, g9.Yp [] Y Y, none, 0, 0, none, 0, 0, Y, Y, SlR.nil _ _, SlR.nil _ _⟩
 refine a0r 16 Y V (a0p Y (a1b (a1o (a0c (a0g (a2f (SH M [.box b3 37 [.int .i64 b1.P.Sign, .slice q z G, .int .i64 b1.Q.Sign, .slice s H I], .box b2 37 [.int .i64 ax1.P.Sign, .slice o t u, .int .i64 ax1.Q.Sign, .slice p x y]]) 15 Y (by kernel_rfl) R ?_))))))
 intro h6 Z
 have S0 := Z.Ys Yf [1, 2] Y Y
 refine d_tk 0 Y (by kernel_rfl) Y Y Y Y S0 (fun _ _ _ _ _ => a0f fa37_0 Y Y Y Yn) (d_tk 1 Y (by kernel_rfl) Y Y Y Y S0 (fun _ _ _ _ hq => a2p (cs' := [.int .i64 ax1.P.Sign, .slice o t u]) ag35 sz35 Y Y hq Y (i := 1) Y Y Y Yn) (d_tk 2 Y (by kernel_rfl) Y Y Y Y S0 (fun _ _ _ _ _ => a0f fa37_1 Y Y Y Yn) (d_tk 3 Y (by kernel_rfl) Y Y Y Y S0 (fun _ _ _ _ hq => a2p (cs' := [.int .i64 b1.Q.Sign, .slice s H I]) ag35 sz35 Y Y hq Y (i := 0) Y Y Y Yn) (d_tk 5 Y (by kernel_rfl) Y Y Y Y S0 (fun _ _ _ _ _ => a0f fa37_1 Y Y Y Yn) ?_))))
 refine d_tk 6 Y (by kernel_rfl) Y Y Y Y S0 (fun _ _ _ _ hq => a2p (cs' := [.int .i64 ax1.Q.Sign, .slice p x y]) ag35 sz35 Y Y hq Y (i := 1) Y Y Y Yn) (d_tk 7 Y (by kernel_rfl) Y Y Y Y S0 (fun _ _ _ _ _ => a0f fa37_0 Y Y Y Yn) (d_tk 8 Y (by kernel_rfl) Y Y Y Y S0 (fun _ _ _ _ hq => a2p (cs' := [.int .i64 b1.P.Sign, .slice q z G]) ag35 sz35 Y Y hq Y (i := 0) Y Y Y Yn) (a0z 4 Y (by kernel_rfl) ?_)))
 obtain ⟨v3, gm, hm⟩ := Yb hm
 refine a0i ent65 Y Y Y Y Z (a3x _ _ _ _ gm Z.sat ((g4.mono k).mono N) ((g7.mono k).mono N)) ?_
 rintro _ h7 _ h8 j g0 ⟨h9, hb, hc, rfl, rfl, gn⟩
 refine a0v (g0.Ys j [1, 2] Y Y) (a0z 9 Y (by kernel_rfl) ?_)
 obtain ⟨v4, go, hm⟩ := Yb hm
 refine a0i ent65 Y Y Y Y g0 (a3x _ _ _ _ go g0.sat (((g5.mono k).mono N).mono j) (((g6.mono k).mono N).mono j)) ?_
 rintro _ hd _ gv J K ⟨he, hf, hg, rfl, rfl, gp⟩
 refine a0v (K.Ys (j.trans J) [1, 2] Y Y) (a0z 10 Y (by kernel_rfl) ?_)
 obtain ⟨v5, gq, hm⟩ := Yb hm
 refine a0i ent107 Y Y Y Y K (b5u _ _ _ _ gq K.sat (gn.mono J) gp) ?_
 rintro _ hh _ gw g1 g2 ⟨ga, gb, gc, gd, ge, gf, rfl, rfl, gr, gs⟩
 have S1 := g2.Ys ((j.trans J).trans g1) [1, 2] Y Y
 refine a0v S1 (d_tk 11 Y (by kernel_rfl) Y Y Y Y S1 (fun _ _ _ _ _ => a0l Y Y Y Y Yn) (d_tk 12 Y (by kernel_rfl) Y Y Y Y S1 (fun _ _ _ _ _ => a0l Y Y Y Y Yn) (a0z 13 Y (by kernel_rfl) (a0o sz37 Y g2 Y Y Y Y (i := 0) Y Y Y Y ?_))))
 intro gx m
 refine a0v (m.Ys ((j.trans J).trans g1) [1, 2] Y Y) (d_tk 14 Y (by kernel_rfl) Y Y Y Y (m.Ys ((j.trans J).trans g1) [1, 2] Y Y) (fun _ _ _ _ _ => a0b Y Y Y Yn) (a2u (by kernel_rfl) (a0c (a1c (a1q (vl := [.agg #[.int .i64 v5.1.P.Sign, .slice ga gb gc, .int .i64 v5.1.Q.Sign, .slice gd ge gf], .int .i64 v5.2]) Y ⟨a2h ag37 sz37 Y m Y (i := 0) Y, a1p Y, trivial⟩ (by simp) ?_)))))
 obtain rfl := Yo hm
 exact ⟨_, _, _, Y, m.Yp [] Y Y, ga, gb, gc, gd, ge, gf, Y, Y, gr, gs⟩
 clear hm
 rcases a0h g with ⟨g3, g⟩ | ⟨g3, g⟩
 refine a1k 10 Y g3 (a0y Y (by decide) Y (a0y Y (by decide) Y (a0y Y (by decide) Y (a0s Y Y Y Y (a0e (a0k (fun a ha => ?_)))))))
 cases g
 exact ⟨_, Yf, L.Yp [0, 1, 2] Y Y, ha.cut (l := [2, 3, 4, 14]) Y⟩
 refine a1k 10 Y g3 (a0q ag37 sz37 Y Y L Y (i := 1) Y Y ?_)
 obtain ⟨v6, gt, g⟩ := Yb g
 refine a0i ent47 Y Y Y Y L (a3m _ _ _ gt L.sat (g6.mono k) (g7.mono k)) ?_
 rintro _ hi _ gy gu gh ⟨rfl, rfl⟩
 refine a4c Y Y Y (a0m Y Y Y Y (a0e (a0k (fun a ha => ?_))))
 cases g
 exact ⟨_, gu, gh.Yp [0, 1, 2] Y Y, ha.cut (l := [2, 3, 4, 14]) Y⟩
def b2v (n : Nat) (ax1 : Big) : Option Big :=
 (b3l n ax1).bind fun v1 =>
 (b3l n v1).bind fun v2 =>
 some v2
theorem b7m (n : Nat) (ax1 : Big) (r : Big) (hm : b2v n ax1 = some r) {w : World} {F : Frz} (hs : Sat F w) {j : Option Addr} {k : Nat} {l : Nat} (p : SlR (Rp.int .i64) F j k l ax1.Digits) :
  Calls Tryz.prog 130 #[.agg #[.int .i64 ax1.Sign, .slice j k l]] w fun e w' => ∃ v F' O', e = .returned v ∧ HS F w [] F' O' w' ∧ (∃ (a0_1 : Option Addr) (n0_1 : Nat) (c0_1 : Nat), v = .agg #[.int .i64 r.Sign, .slice a0_1 n0_1 c0_1] ∧ O' = [] ∧ SlR (Rp.int .i64) F' a0_1 n0_1 c0_1 r.Digits) := by
 unfold b2v at hm
 have h := HS.init hs
 refine a1a 6 Tryz.func130 Y Y Y (a0g (a0a (a2z Y Y Y Y h ?_)))
 intro b1 I q
 refine a1h ze35 Y Y Y q ?_
 intro b2 J g
 refine a0e (a0c (a0g (a0a (a0q ag35 sz35 Y Y g Y (i := 1) Y Y ?_))))
 obtain ⟨v1, s, hm⟩ := Yb hm
 refine a0i ent108 Y Y Y Y g (a8j _ _ _ s g.sat p) ?_
 rintro _ K _ L M m ⟨N, Q, R, rfl, rfl, t⟩
 obtain ⟨v2, u, hm⟩ := Yb hm
 refine a0i ent108 Y Y Y Y m (a8j _ _ _ u m.sat t) ?_
 rintro _ T _ U V x ⟨y, z, G, rfl, rfl, H⟩
 refine a0o sz35 Y x Y Y Y Y (i := 0) Y Y Y Y ?_
 intro Z o
 refine a0e (a0c (a1c (a3h Y ag35 sz35 Y o Y (i := 0) Y ?_)))
 obtain rfl := Yo hm
 exact ⟨_, _, _, Y, o.Yp [] Y Y, y, z, G, Y, Y, H⟩
def b2z (n : Nat) (f1 : Frac) : Option Int :=
 (a3s n f1).bind fun v1 =>
 bif !v1 then
  some 0
 else
  some f1.P.Sign
theorem b7g (n : Nat) (f1 : Frac) (r : Int) (hm : b2z n f1 = some r) {w : World} {F : Frz} (hs : Sat F w) {l m : Option Addr} {o p q s : Nat} (t : SlR (Rp.int .i64) F l o p f1.P.Digits) (u : SlR (Rp.int .i64) F m q s f1.Q.Digits) :
  Calls Tryz.prog 35 #[.agg #[.int .i64 f1.P.Sign, .slice l o p, .int .i64 f1.Q.Sign, .slice m q s]] w fun e w' => ∃ v F' O', e = .returned v ∧ HS F w [] F' O' w' ∧ (v = .int .i64 r ∧ O' = []) := by
 unfold b2z at hm
 have h := HS.init hs
 refine a1a 9 Tryz.func35 Y Y Y (a0g (a0a (a2z Y Y Y Y h ?_)))
 intro b1 y g
 refine a0b Y Y Y (a0e (a0c (a0g (a0g (a0a (a0q ag37 sz37 Y Y g Y (i := 0) Y Y ?_))))))
 obtain ⟨v1, x, hm⟩ := Yb hm
 refine a0i ent47 Y Y Y Y g (a3m _ _ _ x g.sat t u) ?_
 rintro _ z _ G H j ⟨rfl, rfl⟩
 refine a4c Y Y Y (a0e (a0c ?_))
 rcases a0h hm with ⟨k, hm⟩ | ⟨k, hm⟩
 refine a0r 5 Y k (a0x Y (a0g (a0a (a0b Y Y Y (a0e (a0c (a1c (a0j (a1n Y Y ?_)))))))))
 obtain rfl := Yo hm
 exact ⟨_, _, _, Y, j.Yp [] Y Y, Y, Y⟩
 refine a0r 5 Y k (a0p Y (a1b (a0c (a0g (a0a (a0f fa37_0 Y Y Y (a0f fa35_0 Y Y Y (a0n ag3 Y Y j Y (i := 0) Y Y (a0b Y Y Y (a0e (a0c (a1c (a1n Y Y ?_)))))))))))))
 obtain rfl := Yo hm
 exact ⟨_, _, _, Y, j.Yp [] Y Y, Y, Y⟩
theorem ent64 : Ent Tryz.prog 64 := fun _ _ => by kernel_rfl
def a6l (n : Nat) (ax1 : Frac) (b1 : Frac) : Option Int :=
 (a3s n ax1).bind fun v1 =>
 (bif !v1 then
  some true
 else
  (a3s n b1).bind fun v6 =>
  some (!v6)).bind fun v2 =>
 bif v2 then
  some 0
 else
  (a3y n ax1.P b1.Q).bind fun v3 =>
  (a3y n b1.P ax1.Q).bind fun v4 =>
  (b1o n v3 v4).bind fun v5 =>
  some v5
theorem b1l (n : Nat) (ax1 : Frac) (b1 : Frac) (r : Int) (hm : a6l n ax1 b1 = some r) {w : World} {F : Frz} (hs : Sat F w) {m o p q : Option Addr} {s t u x y z G H : Nat} (g0 : SlR (Rp.int .i64) F m s t ax1.P.Digits) (g1 : SlR (Rp.int .i64) F o u x ax1.Q.Digits) (g2 : SlR (Rp.int .i64) F p y z b1.P.Digits) (g3 : SlR (Rp.int .i64) F q G H b1.Q.Digits) :
  Calls Tryz.prog 37 #[.agg #[.int .i64 ax1.P.Sign, .slice m s t, .int .i64 ax1.Q.Sign, .slice o u x], .agg #[.int .i64 b1.P.Sign, .slice p y z, .int .i64 b1.Q.Sign, .slice q G H]] w fun e w' => ∃ v F' O', e = .returned v ∧ HS F w [] F' O' w' ∧ (v = .int .i64 r ∧ O' = []) := by
 unfold a6l at hm
 have h := HS.init hs
 refine a1a 24 Tryz.func37 Y Y Y (a0g (a0a (a2z Y Y Y Y h ?_)))
 intro b2 gi g7
 refine a2z Y Y Y Y g7 ?_
 intro b3 gj M
 refine a0b Y Y Y (a0e (a0c (a0g (a0g (a0a (a0q ag37 sz37 Y Y M Y (i := 1) Y Y ?_))))))
 obtain ⟨v1, g8, hm⟩ := Yb hm
 refine a0i ent47 Y Y Y Y M (a3m _ _ _ g8 M.sat g0 g1) ?_
 rintro _ g9 _ gk j I ⟨rfl, rfl⟩
 refine a4c Y Y Y (a0d Y Y Y ?_)
 obtain ⟨v2, g, hm⟩ := Yb hm
 refine a2g 4 (fun a w' => ∃ (J : Frz), Frz.le g9 J ∧ HS F w [] J [.box b3 37 [.int .i64 b1.P.Sign, .slice p y z, .int .i64 b1.Q.Sign, .slice q G H], .box b2 37 [.int .i64 ax1.P.Sign, .slice m s t, .int .i64 ax1.Q.Sign, .slice o u x]] w' ∧ Has 24 a [(2, .pointer (some ⟨b2, 0, none⟩)), (3, .pointer (some ⟨b3, 0, none⟩)), (12, .bool v2)]) ?_ ?_
 rintro a gl ⟨J, K, g4, g6⟩
 refine a1d g6 (a0e (a0c ?_))
 rcases a0h hm with ⟨N, hm⟩ | ⟨N, hm⟩
 refine a0r 12 Y N (a0x Y (a0g (a0a (a0b Y Y Y (a0e (a0c (a1c (a0j (a1n Y Y ?_)))))))))
 obtain rfl := Yo hm
 exact ⟨_, _, _, Y, g4.Yp [] Y Y, Y, Y⟩
 refine a0r 12 Y N (a0p Y (a1b (a0c (a0g (a2f (SH J [.box b3 37 [.int .i64 b1.P.Sign, .slice p y z, .int .i64 b1.Q.Sign, .slice q G H], .box b2 37 [.int .i64 ax1.P.Sign, .slice m s t, .int .i64 ax1.Q.Sign, .slice o u x]]) 12 Y (by kernel_rfl) g4 ?_)))))
 intro gm R
 have S0 := R.Ys Yf [0, 1] Y Y
 refine d_tk 0 Y (by kernel_rfl) Y Y Y Y S0 (fun _ _ _ _ _ => a0f fa37_0 Y Y Y Yn) (d_tk 1 Y (by kernel_rfl) Y Y Y Y S0 (fun _ _ _ _ hq => a2p (cs' := [.int .i64 ax1.P.Sign, .slice m s t]) ag35 sz35 Y Y hq Y (i := 1) Y Y Y Yn) (d_tk 2 Y (by kernel_rfl) Y Y Y Y S0 (fun _ _ _ _ _ => a0f fa37_1 Y Y Y Yn) (d_tk 3 Y (by kernel_rfl) Y Y Y Y S0 (fun _ _ _ _ hq => a2p (cs' := [.int .i64 b1.Q.Sign, .slice q G H]) ag35 sz35 Y Y hq Y (i := 0) Y Y Y Yn) (d_tk 5 Y (by kernel_rfl) Y Y Y Y S0 (fun _ _ _ _ _ => a0f fa37_0 Y Y Y Yn) ?_))))
 refine d_tk 6 Y (by kernel_rfl) Y Y Y Y S0 (fun _ _ _ _ hq => a2p (cs' := [.int .i64 b1.P.Sign, .slice p y z]) ag35 sz35 Y Y hq Y (i := 0) Y Y Y Yn) (d_tk 7 Y (by kernel_rfl) Y Y Y Y S0 (fun _ _ _ _ _ => a0f fa37_1 Y Y Y Yn) (d_tk 8 Y (by kernel_rfl) Y Y Y Y S0 (fun _ _ _ _ hq => a2p (cs' := [.int .i64 ax1.Q.Sign, .slice o u x]) ag35 sz35 Y Y hq Y (i := 1) Y Y Y Yn) (a0z 4 Y (by kernel_rfl) ?_)))
 obtain ⟨v3, ga, hm⟩ := Yb hm
 refine a0i ent65 Y Y Y Y R (a3x _ _ _ _ ga R.sat ((g0.mono j).mono K) ((g3.mono j).mono K)) ?_
 rintro _ gn _ go k T ⟨gp, gq, gr, rfl, rfl, gb⟩
 refine a0v (T.Ys k [0, 1] Y Y) (a0z 9 Y (by kernel_rfl) ?_)
 obtain ⟨v4, gc, hm⟩ := Yb hm
 refine a0i ent65 Y Y Y Y T (a3x _ _ _ _ gc T.sat (((g2.mono j).mono K).mono k) (((g1.mono j).mono K).mono k)) ?_
 rintro _ gs _ gt L U ⟨gu, gv, gw, rfl, rfl, gd⟩
 refine a0v (U.Ys (k.trans L) [0, 1] Y Y) (a0z 10 Y (by kernel_rfl) ?_)
 obtain ⟨v5, ge, hm⟩ := Yb hm
 refine a0i ent64 Y Y Y Y U (c1b _ _ _ _ ge U.sat (gb.mono L) gd) ?_
 rintro _ gx _ gy g5 V ⟨rfl, rfl⟩
 refine a0v (V.Ys ((k.trans L).trans g5) [0, 1] Y Y) (d_tk 11 Y (by kernel_rfl) Y Y Y Y (V.Ys ((k.trans L).trans g5) [0, 1] Y Y) (fun _ _ _ _ _ => a0b Y Y Y Yn) (a2u (by kernel_rfl) (a0c (a1c (a1n Y Y ?_)))))
 obtain rfl := Yo hm
 exact ⟨_, _, _, Y, V.Yp [] Y Y, Y, Y⟩
 clear hm
 rcases a0h g with ⟨Z, g⟩ | ⟨Z, g⟩
 refine a1k 8 Y Z (a0y Y (by decide) Y (a0y Y (by decide) Y (a0y Y (by decide) Y (a0s Y Y Y Y (a0e (a0k (fun a ha => ?_)))))))
 cases g
 exact ⟨_, Yf, I.Yp [0, 1] Y Y, ha.cut (l := [2, 3, 12]) Y⟩
 refine a1k 8 Y Z (a0q ag37 sz37 Y Y I Y (i := 0) Y Y ?_)
 obtain ⟨v6, gf, g⟩ := Yb g
 refine a0i ent47 Y Y Y Y I (a3m _ _ _ gf I.sat (g2.mono j) (g3.mono j)) ?_
 rintro _ gz _ h0 gg gh ⟨rfl, rfl⟩
 refine a4c Y Y Y (a0m Y Y Y Y (a0e (a0k (fun a ha => ?_))))
 cases g
 exact ⟨_, gg, gh.Yp [0, 1] Y Y, ha.cut (l := [2, 3, 12]) Y⟩
theorem ent37 : Ent Tryz.prog 37 := fun _ _ => by kernel_rfl
theorem ent130 : Ent Tryz.prog 130 := fun _ _ => by kernel_rfl
def a9s (n : Nat) (ax1 : Frac) (b1 : Frac) (sign1 : Int) : Option (Frac × Int) :=
 (a3s n ax1).bind fun v1 =>
 (bif !v1 then
  some true
 else
  (a3s n b1).bind fun v6 =>
  some (!v6)).bind fun v2 =>
 bif v2 then
  some ((⟨(⟨0, []⟩ : Big), (⟨0, []⟩ : Big)⟩ : Frac), 1)
 else
  (a6l n ax1 b1).bind fun v3 =>
  (bif decide ((imul .i64 v3 sign1) < 0) then
   some (b1.P.Sign, b1.P.Digits, b1.Q.Sign, b1.Q.Digits)
  else
   some (ax1.P.Sign, ax1.P.Digits, ax1.Q.Sign, ax1.Q.Digits)).bind fun (f1, f2, f3, f4) =>
  (b2v n (⟨f1, f2⟩ : Big)).bind fun v4 =>
  (b2v n (⟨f3, f4⟩ : Big)).bind fun v5 =>
  some ((⟨v4, v5⟩ : Frac), 0)
theorem b5i (n : Nat) (ax1 : Frac) (b1 : Frac) (sign1 : Int) (r : (Frac × Int)) (hm : a9s n ax1 b1 sign1 = some r) {w : World} {F : Frz} (hs : Sat F w) {U V m o : Option Addr} {Z g0 g1 g2 p q s t : Nat} (g5 : SlR (Rp.int .i64) F U Z g0 ax1.P.Digits) (g6 : SlR (Rp.int .i64) F V g1 g2 ax1.Q.Digits) (g7 : SlR (Rp.int .i64) F m p q b1.P.Digits) (g8 : SlR (Rp.int .i64) F o s t b1.Q.Digits) :
  Calls Tryz.prog 109 #[.agg #[.int .i64 ax1.P.Sign, .slice U Z g0, .int .i64 ax1.Q.Sign, .slice V g1 g2], .agg #[.int .i64 b1.P.Sign, .slice m p q, .int .i64 b1.Q.Sign, .slice o s t], .int .i64 sign1] w fun e w' => ∃ v F' O', e = .returned v ∧ HS F w [] F' O' w' ∧ (∃ (a0_1 : Option Addr) (n0_1 : Nat) (c0_1 : Nat) (a0_3 : Option Addr) (n0_3 : Nat) (c0_3 : Nat), v = .tuple #[.agg #[.int .i64 r.1.P.Sign, .slice a0_1 n0_1 c0_1, .int .i64 r.1.Q.Sign, .slice a0_3 n0_3 c0_3], .int .i64 r.2] ∧ O' = [] ∧ SlR (Rp.int .i64) F' a0_1 n0_1 c0_1 r.1.P.Digits ∧ SlR (Rp.int .i64) F' a0_3 n0_3 c0_3 r.1.Q.Digits) := by
 unfold a9s at hm
 have h := HS.init hs
 refine a1a 31 Tryz.func109 Y Y Y (a0g (a0a (a2z Y Y Y Y h ?_)))
 intro b2 hc gr
 refine a2z Y Y Y Y gr ?_
 intro b3 hd gs
 refine a1h ze37 Y Y Y gs ?_
 intro b4 he g9
 refine a0b Y Y Y (a0e (a0c (a0g (a0g (a0a (a0q ag37 sz37 Y Y g9 Y (i := 2) Y Y ?_))))))
 obtain ⟨v1, gt, hm⟩ := Yb hm
 refine a0i ent47 Y Y Y Y g9 (a3m _ _ _ gt g9.sat g5 g6) ?_
 rintro _ gu _ hf g g3 ⟨rfl, rfl⟩
 refine a4c Y Y Y (a0d Y Y Y ?_)
 obtain ⟨v2, k, hm⟩ := Yb hm
 refine a2g 4 (fun a w' => ∃ (ga : Frz), Frz.le gu ga ∧ HS F w [] ga [.box b4 37 [.int .i64 0, .slice none 0 0, .int .i64 0, .slice none 0 0], .box b3 37 [.int .i64 b1.P.Sign, .slice m p q, .int .i64 b1.Q.Sign, .slice o s t], .box b2 37 [.int .i64 ax1.P.Sign, .slice U Z g0, .int .i64 ax1.Q.Sign, .slice V g1 g2]] w' ∧ Has 31 a [(2, .int .i64 sign1), (3, .pointer (some ⟨b2, 0, none⟩)), (4, .pointer (some ⟨b3, 0, none⟩)), (6, .pointer (some ⟨b4, 0, none⟩)), (15, .bool v2)]) ?_ ?_
 rintro a hg ⟨ga, j, z, gn⟩
 refine a1d gn (a0e (a0c ?_))
 rcases a0h hm with ⟨gb, hm⟩ | ⟨gb, hm⟩
 refine a0r 15 Y gb (a0x Y (a0g (a0a (a1r (v := .agg #[.int .i64 0, .slice none 0 0, .int .i64 0, .slice none 0 0]) Y Y Y (fun _ => by kernel_rfl) (a0o sz37 Y z Y Y Y Y (i := 0) Y Y Y Y ?_)))))
 intro hh gm
 refine a0b Y Y Y (a0e (a0c (a1c (a0j (a1q (vl := [.agg #[.int .i64 0, .slice none 0 0, .int .i64 0, .slice none 0 0], .int .i64 1]) Y ⟨a2h ag37 sz37 Y gm Y (i := 0) Y, a1p Y, trivial⟩ (by simp) ?_)))))
 obtain rfl := Yo hm
 exact ⟨_, _, _, Y, gm.Yp [] Y Y, none, 0, 0, none, 0, 0, Y, Y, SlR.nil _ _, SlR.nil _ _⟩
 refine a0r 15 Y gb (a0p Y (a1b (a0c (a0g (a0g (a0a (a0q ag37 sz37 Y Y z Y (i := 2) Y Y (a0q ag37 sz37 Y Y z Y (i := 1) Y Y ?_))))))))
 obtain ⟨v3, gv, hm⟩ := Yb hm
 refine a0i ent37 Y Y Y Y z (b1l _ _ _ _ gv z.sat ((g5.mono g).mono j) ((g6.mono g).mono j) ((g7.mono g).mono j) ((g8.mono g).mono j)) ?_
 rintro _ gw _ hi g4 gc ⟨rfl, rfl⟩
 refine a0d Y Y Y (a0u Y Y Y Y Y (a0u Y Y Y Y Y (a0e (a0c ?_))))
 obtain ⟨⟨f1, f2, f3, f4⟩, G, hm⟩ := Yb hm
 refine a6f (fun a w' => ∃ (u : Frz) (H : Option Addr) (I : Nat) (J : Nat) (K : Option Addr) (L : Nat) (M : Nat), Frz.le gw u ∧ HS F w [] u [.box b4 37 [.int .i64 0, .slice none 0 0, .int .i64 0, .slice none 0 0], .box b3 37 [.int .i64 b1.P.Sign, .slice m p q, .int .i64 b1.Q.Sign, .slice o s t], .box b2 37 [.int .i64 f1, .slice H I J, .int .i64 f3, .slice K L M]] w' ∧ (SlR (Rp.int .i64) u H I J f2) ∧ (SlR (Rp.int .i64) u K L M f4) ∧ Has 31 a [(3, .pointer (some ⟨b2, 0, none⟩)), (6, .pointer (some ⟨b4, 0, none⟩))]) ?_ ?_
 rintro a hj ⟨u, H, I, J, K, L, M, hk, gx, gy, gz, go⟩
 refine a1l go (a0g (a2f (SH u [.box b3 37 [.int .i64 b1.P.Sign, .slice m p q, .int .i64 b1.Q.Sign, .slice o s t], .box b2 37 [.int .i64 f1, .slice H I J, .int .i64 f3, .slice K L M]]) 9 Y (by kernel_rfl) gx ?_))
 intro hl gd
 have S0 := gd.Ys Yf [1, 2] Y Y
 refine d_tk 0 Y (by kernel_rfl) Y Y Y Y S0 (fun _ _ _ _ _ => a0f fa37_0 Y Y Y Yn) (d_tk 1 Y (by kernel_rfl) Y Y Y Y S0 (fun _ _ _ _ hq => a2p (cs' := [.int .i64 f1, .slice H I J]) ag35 sz35 Y Y hq Y (i := 1) Y Y Y Yn) (d_tk 3 Y (by kernel_rfl) Y Y Y Y S0 (fun _ _ _ _ _ => a0f fa37_1 Y Y Y Yn) (d_tk 4 Y (by kernel_rfl) Y Y Y Y S0 (fun _ _ _ _ hq => a2p (cs' := [.int .i64 f3, .slice K L M]) ag35 sz35 Y Y hq Y (i := 1) Y Y Y Yn) (a0z 2 Y (by kernel_rfl) ?_))))
 obtain ⟨v4, h0, hm⟩ := Yb hm
 refine a0i ent130 Y Y Y Y gd (b7m _ _ _ h0 gd.sat gy) ?_
 rintro _ hn _ h6 x R ⟨ge, gf, gg, rfl, rfl, h1⟩
 refine a0v (R.Ys x [1, 2] Y Y) (a0z 5 Y (by kernel_rfl) ?_)
 obtain ⟨v5, h2, hm⟩ := Yb hm
 refine a0i ent130 Y Y Y Y R (b7m _ _ _ h2 R.sat (gz.mono x)) ?_
 rintro _ ho _ h7 N T ⟨gh, gi, gj, rfl, rfl, h3⟩
 refine a0v (T.Ys (x.trans N) [1, 2] Y Y) (d_tk 6 Y (by kernel_rfl) Y Y Y Y (T.Ys (x.trans N) [1, 2] Y Y) (fun _ _ _ _ _ => a1r (v := .agg #[.int .i64 v4.Sign, .slice ge gf gg, .int .i64 v5.Sign, .slice gh gi gj]) Y Y Y (fun _ => by kernel_rfl) Yn) (a0z 7 Y (by kernel_rfl) (a0o sz37 Y T Y Y Y Y (i := 0) Y Y Y Y ?_)))
 intro h8 y
 refine a0v (y.Ys (x.trans N) [1, 2] Y Y) (d_tk 8 Y (by kernel_rfl) Y Y Y Y (y.Ys (x.trans N) [1, 2] Y Y) (fun _ _ _ _ _ => a0b Y Y Y Yn) (a2u (by kernel_rfl) (a0c (a1c (a1q (vl := [.agg #[.int .i64 v4.Sign, .slice ge gf gg, .int .i64 v5.Sign, .slice gh gi gj], .int .i64 0]) Y ⟨a2h ag37 sz37 Y y Y (i := 0) Y, a1p Y, trivial⟩ (by simp) ?_)))))
 obtain rfl := Yo hm
 exact ⟨_, _, _, Y, y.Yp [] Y Y, ge, gf, gg, gh, gi, gj, Y, Y, (h1.mono N), h3⟩
 clear hm
 rcases a0h G with ⟨gk, G⟩ | ⟨gk, G⟩
 refine a0r 22 Y gk (a0x Y (a0a (a0q ag37 sz37 Y Y gc Y (i := 1) Y Y (a0o sz37 Y gc Y Y Y Y (i := 2) Y Y Y Y ?_))))
 intro h9 gp
 refine a0e (a0k (fun a ha => ?_))
 cases G
 exact ⟨_, m, p, q, o, s, t, Yf, gp.Yp [0, 1, 2] Y Y, (((g7.mono g).mono j).mono g4), (((g8.mono g).mono j).mono g4), ha.cut (l := [3, 6]) Y⟩
 refine a0r 22 Y gk (a0p Y (a1b (a0k (fun a ha => ?_))))
 cases G
 exact ⟨_, U, Z, g0, V, g1, g2, Yf, gc.Yp [0, 1, 2] Y Y, (((g5.mono g).mono j).mono g4), (((g6.mono g).mono j).mono g4), ha.cut (l := [3, 6]) Y⟩
 clear hm
 rcases a0h k with ⟨gl, k⟩ | ⟨gl, k⟩
 refine a1k 11 Y gl (a0y Y (by decide) Y (a0y Y (by decide) Y (a0y Y (by decide) Y (a0s Y Y Y Y (a0e (a0k (fun a ha => ?_)))))))
 cases k
 exact ⟨_, Yf, g3.Yp [0, 1, 2] Y Y, ha.cut (l := [2, 3, 4, 6, 15]) Y⟩
 refine a1k 11 Y gl (a0q ag37 sz37 Y Y g3 Y (i := 1) Y Y ?_)
 obtain ⟨v6, h4, k⟩ := Yb k
 refine a0i ent47 Y Y Y Y g3 (a3m _ _ _ h4 g3.sat (g7.mono g) (g8.mono g)) ?_
 rintro _ hp _ hb h5 gq ⟨rfl, rfl⟩
 refine a4c Y Y Y (a0m Y Y Y Y (a0e (a0k (fun a ha => ?_))))
 cases k
 exact ⟨_, h5, gq.Yp [0, 1, 2] Y Y, ha.cut (l := [2, 3, 4, 6, 15]) Y⟩
theorem ent109 : Ent Tryz.prog 109 := fun _ _ => by kernel_rfl
def b6k (n : Nat) (ax1 : Frac) (b1 : Frac) : Option (Frac × Int) :=
 (a9s n ax1 b1 (-1)).bind fun v1 =>
 some (v1.1, v1.2)
theorem c5j (n : Nat) (ax1 : Frac) (b1 : Frac) (r : (Frac × Int)) (hm : b6k n ax1 b1 = some r) {w : World} {F : Frz} (hs : Sat F w) {j k l m : Option Addr} {o p q s t u x y : Nat} (M : SlR (Rp.int .i64) F j o p ax1.P.Digits) (N : SlR (Rp.int .i64) F k q s ax1.Q.Digits) (R : SlR (Rp.int .i64) F l t u b1.P.Digits) (T : SlR (Rp.int .i64) F m x y b1.Q.Digits) :
  Calls Tryz.prog 83 #[.agg #[.int .i64 ax1.P.Sign, .slice j o p, .int .i64 ax1.Q.Sign, .slice k q s], .agg #[.int .i64 b1.P.Sign, .slice l t u, .int .i64 b1.Q.Sign, .slice m x y]] w fun e w' => ∃ v F' O', e = .returned v ∧ HS F w [] F' O' w' ∧ (∃ (a0_1 : Option Addr) (n0_1 : Nat) (c0_1 : Nat) (a0_3 : Option Addr) (n0_3 : Nat) (c0_3 : Nat), v = .tuple #[.agg #[.int .i64 r.1.P.Sign, .slice a0_1 n0_1 c0_1, .int .i64 r.1.Q.Sign, .slice a0_3 n0_3 c0_3], .int .i64 r.2] ∧ O' = [] ∧ SlR (Rp.int .i64) F' a0_1 n0_1 c0_1 r.1.P.Digits ∧ SlR (Rp.int .i64) F' a0_3 n0_3 c0_3 r.1.Q.Digits) := by
 unfold b6k at hm
 have h := HS.init hs
 refine a1a 11 Tryz.func83 Y Y Y (a0g (a0a (a2z Y Y Y Y h ?_)))
 intro b2 g3 U
 refine a2z Y Y Y Y U ?_
 intro b3 g4 V
 refine a1h ze37 Y Y Y V ?_
 intro b4 g5 g
 refine a0b Y Y Y (a0e (a0c (a0g (a0a (a0q ag37 sz37 Y Y g Y (i := 2) Y Y (a0q ag37 sz37 Y Y g Y (i := 1) Y Y ?_))))))
 obtain ⟨v1, Z, hm⟩ := Yb hm
 refine a0i ent109 Y Y Y Y g (b5i _ _ _ _ _ Z g.sat M N R T) ?_
 rintro _ g6 _ g7 g8 g0 ⟨z, G, H, I, J, K, rfl, rfl, g1, g2⟩
 refine a0l Y Y Y Y (a0l Y Y Y Y (a0o sz37 Y g0 Y Y Y Y (i := 0) Y Y Y Y ?_))
 intro g9 L
 refine a0b Y Y Y (a0e (a0c (a1c (a1q (vl := [.agg #[.int .i64 v1.1.P.Sign, .slice z G H, .int .i64 v1.1.Q.Sign, .slice I J K], .int .i64 v1.2]) Y ⟨a2h ag37 sz37 Y L Y (i := 0) Y, a1p Y, trivial⟩ (by simp) ?_))))
 obtain rfl := Yo hm
 exact ⟨_, _, _, Y, L.Yp [] Y Y, z, G, H, I, J, K, Y, Y, g1, g2⟩
def b5y (n : Nat) (ax1 : Frac) (b1 : Frac) : Option (Frac × Int) :=
 (a9s n ax1 b1 1).bind fun v1 =>
 some (v1.1, v1.2)
theorem c4u (n : Nat) (ax1 : Frac) (b1 : Frac) (r : (Frac × Int)) (hm : b5y n ax1 b1 = some r) {w : World} {F : Frz} (hs : Sat F w) {j k l m : Option Addr} {o p q s t u x y : Nat} (M : SlR (Rp.int .i64) F j o p ax1.P.Digits) (N : SlR (Rp.int .i64) F k q s ax1.Q.Digits) (R : SlR (Rp.int .i64) F l t u b1.P.Digits) (T : SlR (Rp.int .i64) F m x y b1.Q.Digits) :
  Calls Tryz.prog 84 #[.agg #[.int .i64 ax1.P.Sign, .slice j o p, .int .i64 ax1.Q.Sign, .slice k q s], .agg #[.int .i64 b1.P.Sign, .slice l t u, .int .i64 b1.Q.Sign, .slice m x y]] w fun e w' => ∃ v F' O', e = .returned v ∧ HS F w [] F' O' w' ∧ (∃ (a0_1 : Option Addr) (n0_1 : Nat) (c0_1 : Nat) (a0_3 : Option Addr) (n0_3 : Nat) (c0_3 : Nat), v = .tuple #[.agg #[.int .i64 r.1.P.Sign, .slice a0_1 n0_1 c0_1, .int .i64 r.1.Q.Sign, .slice a0_3 n0_3 c0_3], .int .i64 r.2] ∧ O' = [] ∧ SlR (Rp.int .i64) F' a0_1 n0_1 c0_1 r.1.P.Digits ∧ SlR (Rp.int .i64) F' a0_3 n0_3 c0_3 r.1.Q.Digits) := by
 unfold b5y at hm
 have h := HS.init hs
 refine a1a 11 Tryz.func84 Y Y Y (a0g (a0a (a2z Y Y Y Y h ?_)))
 intro b2 g3 U
 refine a2z Y Y Y Y U ?_
 intro b3 g4 V
 refine a1h ze37 Y Y Y V ?_
 intro b4 g5 g
 refine a0b Y Y Y (a0e (a0c (a0g (a0a (a0q ag37 sz37 Y Y g Y (i := 2) Y Y (a0q ag37 sz37 Y Y g Y (i := 1) Y Y ?_))))))
 obtain ⟨v1, Z, hm⟩ := Yb hm
 refine a0i ent109 Y Y Y Y g (b5i _ _ _ _ _ Z g.sat M N R T) ?_
 rintro _ g6 _ g7 g8 g0 ⟨z, G, H, I, J, K, rfl, rfl, g1, g2⟩
 refine a0l Y Y Y Y (a0l Y Y Y Y (a0o sz37 Y g0 Y Y Y Y (i := 0) Y Y Y Y ?_))
 intro g9 L
 refine a0b Y Y Y (a0e (a0c (a1c (a1q (vl := [.agg #[.int .i64 v1.1.P.Sign, .slice z G H, .int .i64 v1.1.Q.Sign, .slice I J K], .int .i64 v1.2]) Y ⟨a2h ag37 sz37 Y L Y (i := 0) Y, a1p Y, trivial⟩ (by simp) ?_))))
 obtain rfl := Yo hm
 exact ⟨_, _, _, Y, L.Yp [] Y Y, z, G, H, I, J, K, Y, Y, g1, g2⟩
theorem fa24_3 : a4v Tryz.prog 24 3 3 := fun _ _ _ => by kernel_rfl
theorem ag22 : a9h Tryz.prog 22 false := fun _ => by kernel_rfl
theorem u22 : Tryz.prog.underlying 22 = some (.slice 24) := by kernel_rfl
theorem sz24 : a4i Tryz.prog 24 4 := fun _ => by kernel_rfl
theorem ag24 : a9h Tryz.prog 24 true := fun _ => by kernel_rfl
theorem ent41 : Ent Tryz.prog 41 := fun _ _ => by kernel_rfl
def a5b (n : Nat) (rec_ref35_size : Expr → Int → Int → Option Int) (x1 : Expr) (levels1 : Int) (kont1 : Int → Option Int) : Nat → Int → Int → Option Int
 | 0, _, _ => none
 | mx1 + 1, nx2, i1 =>
  (bif decide (i1 < (x1.Args.length : Int)) then
   some (decide (0 ≤ nx2))
  else
   some false).bind fun v1 =>
  bif v1 then
   (ix x1.Args i1).bind fun ex1 =>
   (rec_ref35_size ex1 nx2 (isub .i64 levels1 1)).bind fun v2 =>
   a5b n rec_ref35_size x1 levels1 kont1 mx1 v2 (iadd .i64 i1 1)
  else
   kont1 nx2
theorem a7s (n : Nat) (rec_ref35_size : Expr → Int → Int → Option Int) (x1 : Expr) (levels1 : Int) (kont1 : Int → Option Int) (mx1 : Nat) (nx2 : Int) (i1 : Int) : a5b n rec_ref35_size x1 levels1 kont1 (mx1 + 1) nx2 i1 =
  (bif decide (i1 < (x1.Args.length : Int)) then
   some (decide (0 ≤ nx2))
  else
   some false).bind fun v1 =>
  bif v1 then
   (ix x1.Args i1).bind fun ex1 =>
   (rec_ref35_size ex1 nx2 (isub .i64 levels1 1)).bind fun v2 =>
   a5b n rec_ref35_size x1 levels1 kont1 mx1 v2 (iadd .i64 i1 1)
  else
   kont1 nx2 := rfl
def ref35_size : Nat → Expr → Int → Int → Option Int
 | 0, _, _, _ => none
 | n + 1, x1, nx1, levels1 =>
  bif decide (levels1 < 1) then
   some (-1)
  else
   a5b n (ref35_size n) x1 levels1 (fun (nx3 : Int) =>
    some nx3) n (isub .i64 nx1 1) 0
theorem b7p (n : Nat) (x1 : Expr) (nx1 : Int) (levels1 : Int) : ref35_size (n + 1) x1 nx1 levels1 =
  bif decide (levels1 < 1) then
   some (-1)
  else
   a5b n (ref35_size n) x1 levels1 (fun (nx3 : Int) =>
    some nx3) n (isub .i64 nx1 1) 0 := rfl
theorem c0y (n : Nat) : (∀ (x1 : Expr) (nx1 : Int) (levels1 : Int) (r : Int) (_ : ref35_size n x1 nx1 levels1 = some r) {w : World} {F : Frz} (_ : Sat F w) {o : Option Addr} {p : Nat} {j : Nat} (_ : SlR rp_Expr F o p j x1.Args), Calls Tryz.prog 41 #[.agg #[.int .i64 x1.Op, .int .i64 x1.N, vs x1.Name, .slice o p j], .int .i64 nx1, .int .i64 levels1] w fun e w' => ∃ v F' O', e = .returned v ∧ HS F w [] F' O' w' ∧ (v = .int .i64 r ∧ O' = [])) := by
 induction n with
 | zero =>
  intro x1 nx1 levels1 r hm
  exact absurd (show (none : Option Int) = some r from hm) (by simp)
 | succ n ih =>
  intro x1 nx1 levels1 r hm w F hs o p j H
  rw [b7p] at hm
  have h := HS.init hs
  refine a1a 33 Tryz.func41 Y Y Y (a0g (a0a (a2z Y Y Y Y h ?_)))
  intro b1 g5 I
  refine a0b Y Y Y (a0e (a0c (a0g (a0a (a0d Y Y Y (a0u Y Y Y Y Y (a0b Y Y Y (a0e (a0c (a0g (a0g (a0a (a0d Y Y Y (a0u Y Y Y Y Y (a0e (a0c ?_))))))))))))))))
  rcases a0h hm with ⟨q, hm⟩ | ⟨q, hm⟩
  refine a0r 11 Y q (a0x Y (a0g (a0a (a0b Y Y Y (a0e (a0c (a1c (a0j (a1n Y Y ?_)))))))))
  obtain rfl := Yo hm
  exact ⟨_, _, _, Y, I.Yp [] Y Y, Y, Y⟩
  refine a0r 11 Y q (a0p Y (a1b (a0c (a0g (a0g (a0a (a0b Y Y Y (a0e (a0c (a1j ?_))))))))))
  intro a J
  obtain ⟨kont1, hkont1⟩ : ∃ kont1 : Int → Option Int, kont1 = (fun (nx3 : Int) => some nx3) := ⟨_, Y⟩
  replace hm : (fun m (s : Int × Int) => a5b n (ref35_size n) x1 levels1 kont1 m s.1 s.2) n ((isub .i64 nx1 1), 0) = some r := by rw [hkont1]; exact hm
  refine a5j (id := 0) (fun m (s : Int × Int) => a5b n (ref35_size n) x1 levels1 kont1 m s.1 s.2) (fun (y : Int) => kont1 y) r (fun (s : Int × Int) a w' => ∃ (t : Frz), Frz.le F t ∧ HS F w [] t [.box b1 24 [.int .i64 x1.Op, .int .i64 x1.N, vs x1.Name, .slice o p j]] w' ∧ Has 33 a [(1, .int .i64 s.1), (2, .int .i64 levels1), (3, .pointer (some ⟨b1, 0, none⟩)), (7, .int .i64 s.2)]) (fun (y : Int) a w' => ∃ (u : Frz), Frz.le F u ∧ HS F w [] u [] w' ∧ Has 33 a [(1, .int .i64 y)]) (fun _ => Y) ?_ ?_ hm ⟨_, Yf, I.Yp [0] Y Y, J.cut (l := [1, 2, 3, 7]) Y⟩
  clear hm; rintro nx3 a g6 hm ⟨u, g7, R, L⟩
  rw [hkont1] at hm
  replace hm := hm
  refine a2c (e := .exit 0) L (a1m (a0c (a0g (a0a (a0d Y Y Y (a0b Y Y Y (a0e (a0c (a1c (a1n Y Y ?_))))))))))
  obtain rfl := Yo hm
  exact ⟨_, _, _, Y, R.Yp [] Y Y, Y, Y⟩
  clear hm hkont1; intro hk1 mx1 K ihx1
  rintro ⟨nx2, i1⟩ a T hm ⟨t, x, g, M⟩
  simp only [a7s] at hm
  refine a1l M (a0g (a0g (a0a (a0d Y Y Y (a0f fa24_3 Y Y Y (a0n ag22 Y Y g Y (i := 0) Y Y (a1y H.len u22 Y Y Y (a0u Y Y Y Y Y (a0d Y Y Y ?_)))))))))
  obtain ⟨v1, k, hm⟩ := Yb hm
  refine a2g 3 (fun a w' => T = w' ∧ Has 33 a [(1, .int .i64 nx2), (2, .int .i64 levels1), (3, .pointer (some ⟨b1, 0, none⟩)), (7, .int .i64 i1), (20, .bool v1)]) ?_ ?_
  rintro a g8 ⟨rfl, Q⟩
  refine a1d Q (a0e (a0c ?_))
  rcases a0h hm with ⟨z, hm⟩ | ⟨z, hm⟩
  refine a0r 20 Y z (a0x Y (a1b (a0c (a0g (a1j (a0a (a0f fa24_3 Y Y Y (a0n ag22 Y Y g Y (i := 0) Y Y (a0d Y Y Y ?_)))))))))
  obtain ⟨ex1, U, hm⟩ := Yb hm
  refine a2r (r := rp_Expr) u22 sz24 Y Y Y Y (H.mono x) U ?_
  intro b2 o1 j V Z
  obtain ⟨g9, ga, gb, g0, g1⟩ := expr_iff.1 Z
  subst g0
  refine a3c ag24 sz24 Y Y g V Y Y (a0d Y Y Y (a0d Y Y Y (a0u Y Y Y Y Y ?_)))
  obtain ⟨v2, g2, hm⟩ := Yb hm
  refine a0i ent41 Y Y Y Y g (ih _ _ _ _ g2 g.sat g1) ?_
  rintro _ gc _ gd g3 g4 ⟨rfl, rfl⟩
  refine a0b Y Y Y (a0e (a1o (a0c (a0a (a0d Y Y Y (a0u Y Y Y Y Y (a0b Y Y Y (a0e (a0k (fun a ha => ihx1 (v2, (iadd .i64 i1 1)) a _ hm ?_))))))))))
  exact ⟨_, (x.trans g3), g4.Yp [0] Y Y, ha.cut (l := [1, 2, 3, 7]) Y⟩
  refine a0r 20 Y z (a0p Y (a3p (a0w (a0w (fun a ha => hk1 nx2 a _ hm ?_)))))
  exact ⟨_, x, g.Yp [] Y Y, ha.cut (l := [1]) Y⟩
  clear hm
  rcases a0h k with ⟨G, k⟩ | ⟨G, k⟩
  refine a1k 17 Y G (a0d Y Y Y (a0u Y Y Y Y Y (a0s Y Y Y Y (a0e (a0k (fun a ha => ?_))))))
  cases k
  exact ⟨Y, ha.cut (l := [1, 2, 3, 7, 20]) Y⟩
  refine a1k 17 Y G (a0y Y (by decide) Y (a0y Y (by decide) Y (a0m Y Y Y Y (a0e (a0k (fun a ha => ?_))))))
  cases k
  exact ⟨Y, ha.cut (l := [1, 2, 3, 7, 20]) Y⟩
theorem c2t (n : Nat) (x1 : Expr) (nx1 : Int) (levels1 : Int) (r : Int) (hm : ref35_size n x1 nx1 levels1 = some r) {w : World} {F : Frz} (hs : Sat F w) {g : Option Addr} {h : Nat} {i : Nat} (j : SlR rp_Expr F g h i x1.Args) :
  Calls Tryz.prog 41 #[.agg #[.int .i64 x1.Op, .int .i64 x1.N, vs x1.Name, .slice g h i], .int .i64 nx1, .int .i64 levels1] w fun e w' => ∃ v F' O', e = .returned v ∧ HS F w [] F' O' w' ∧ (v = .int .i64 r ∧ O' = []) :=
 (c0y n) x1 nx1 levels1 r hm hs j
def a9l (n : Nat) (x1 : Expr) (nodes1 : Int) (levels1 : Int) : Option Bool :=
 (ref35_size n x1 nodes1 levels1).bind fun v1 =>
 some (decide (0 ≤ v1))
theorem c4k (n : Nat) (x1 : Expr) (nodes1 : Int) (levels1 : Int) (r : Bool) (hm : a9l n x1 nodes1 levels1 = some r) {w : World} {F : Frz} (hs : Sat F w) {j : Option Addr} {k : Nat} {l : Nat} (m : SlR rp_Expr F j k l x1.Args) :
  Calls Tryz.prog 19 #[.agg #[.int .i64 x1.Op, .int .i64 x1.N, vs x1.Name, .slice j k l], .int .i64 nodes1, .int .i64 levels1] w fun e w' => ∃ v F' O', e = .returned v ∧ HS F w [] F' O' w' ∧ (v = .bool r ∧ O' = []) := by
 unfold a9l at hm
 have h := HS.init hs
 refine a1a 12 Tryz.func19 Y Y Y (a0g (a0a (a2z Y Y Y Y h ?_)))
 intro b1 q g
 refine a0b Y Y Y (a0e (a0c (a0g (a0a (a0q ag24 sz24 Y Y g Y (i := 0) Y Y (a0d Y Y Y (a0d Y Y Y ?_)))))))
 obtain ⟨v1, o, hm⟩ := Yb hm
 refine a0i ent41 Y Y Y Y g (c2t _ _ _ _ _ o g.sat m) ?_
 rintro _ s _ t u p ⟨rfl, rfl⟩
 refine a0u Y Y Y Y Y (a0b Y Y Y (a0e (a0c (a1c (a1n Y Y ?_)))))
 obtain rfl := Yo hm
 exact ⟨_, _, _, Y, p.Yp [] Y Y, Y, Y⟩
theorem ze24 : b9o Tryz.prog 24 (.agg #[.int .i64 0, .int .i64 0, vs [], .slice none 0 0]) := fun _ => by kernel_rfl
theorem ent32 : Ent Tryz.prog 32 := fun _ _ => by kernel_rfl
def a4p (n : Nat) (rec_tariff_sized : Expr → Int → Int → Option (Int × Bool)) (x1 : Expr) (levels1 : Int) (kont1 : Int → Option (Int × Bool)) : Nat → Int → Int → Option (Int × Bool)
 | 0, _, _ => none
 | mx1 + 1, i1, f1 =>
  bif decide (i1 < (x1.Args.length : Int)) then
   (ix x1.Args i1).bind fun ex1 =>
   (rec_tariff_sized ex1 (isub .i64 levels1 1) f1).bind fun v2 =>
   bif !v2.2 then
    some (v2.1, false)
   else
    a4p n rec_tariff_sized x1 levels1 kont1 mx1 (iadd .i64 i1 1) v2.1
  else
   kont1 f1
theorem a7v (n : Nat) (rec_tariff_sized : Expr → Int → Int → Option (Int × Bool)) (x1 : Expr) (levels1 : Int) (kont1 : Int → Option (Int × Bool)) (mx1 : Nat) (i1 : Int) (f1 : Int) : a4p n rec_tariff_sized x1 levels1 kont1 (mx1 + 1) i1 f1 =
  bif decide (i1 < (x1.Args.length : Int)) then
   (ix x1.Args i1).bind fun ex1 =>
   (rec_tariff_sized ex1 (isub .i64 levels1 1) f1).bind fun v2 =>
   bif !v2.2 then
    some (v2.1, false)
   else
    a4p n rec_tariff_sized x1 levels1 kont1 mx1 (iadd .i64 i1 1) v2.1
  else
   kont1 f1 := rfl
def tariff_sized : Nat → Expr → Int → Int → Option (Int × Bool)
 | 0, _, _, _ => none
 | n + 1, x1, levels1, left1 =>
  (bif decide (levels1 < 1) then
   some true
  else
   some (decide ((isub .i64 left1 1) < 0))).bind fun v1 =>
  bif v1 then
   some (isub .i64 left1 1, false)
  else
   a4p n (tariff_sized n) x1 levels1 (fun (f2 : Int) =>
    some (f2, true)) n 0 (isub .i64 left1 1)
theorem b5k (n : Nat) (x1 : Expr) (levels1 : Int) (left1 : Int) : tariff_sized (n + 1) x1 levels1 left1 =
  (bif decide (levels1 < 1) then
   some true
  else
   some (decide ((isub .i64 left1 1) < 0))).bind fun v1 =>
  bif v1 then
   some (isub .i64 left1 1, false)
  else
   a4p n (tariff_sized n) x1 levels1 (fun (f2 : Int) =>
    some (f2, true)) n 0 (isub .i64 left1 1) := rfl
theorem b8b (n : Nat) : (∀ (x1 : Expr) (levels1 : Int) (left1 : Int) (r : (Int × Bool)) (_ : tariff_sized n x1 levels1 left1 = some r) {w : World} {F : Frz} (_ : Sat F w) {o : Option Addr} {p : Nat} {g : Nat} {bleft1 : Nat} (_ : SlR rp_Expr F o p g x1.Args) (_ : (OE.box bleft1 3 [.int .i64 left1]).ok w) (_ : F bleft1 = none), Calls Tryz.prog 32 #[.agg #[.int .i64 x1.Op, .int .i64 x1.N, vs x1.Name, .slice o p g], .int .i64 levels1, .pointer (some ⟨bleft1, 0, none⟩)] w fun e w' => ∃ v F' cs' O', e = .returned v ∧ HS F w [bleft1] F' (.box bleft1 3 cs' :: O') w' ∧ (v = .bool r.2 ∧ cs' = [.int .i64 r.1] ∧ O' = [])) := by
 induction n with
 | zero =>
  intro x1 levels1 left1 r hm
  exact absurd (show (none : Option (Int × Bool)) = some r from hm) (by simp)
 | succ n ih =>
  intro x1 levels1 left1 r hm w F hs o p g bleft1 L hbleft1 hfleft1
  rw [b5k] at hm
  have h := HS.lend hs hbleft1 hfleft1
  refine a1a 36 Tryz.func32 Y Y Y (a0g (a0a (a2z Y Y Y Y h ?_)))
  intro b1 g9 M
  refine a0b Y Y Y (a0e (a0c (a0g (a0a (a0d Y Y Y (a9p Y Y Y (a0n ag3 Y Y M Y (i := 1) Y Y (a0u Y Y Y Y Y (a9p Y Y Y (a0o sz3 Y M Y Y Y Y (i := 1) Y Y Y Y ?_))))))))))
  intro Z q
  refine a0e (a0c (a0g (a0g (a0a (a0d Y Y Y (a0u Y Y Y Y Y (a0d Y Y Y ?_)))))))
  obtain ⟨v1, j, hm⟩ := Yb hm
  refine a2g 5 (fun a w' => Z = w' ∧ Has 36 a [(1, .int .i64 levels1), (2, .pointer (some ⟨bleft1, 0, none⟩)), (3, .pointer (some ⟨b1, 0, none⟩)), (21, .bool v1)]) ?_ ?_
  rintro a ga ⟨rfl, R⟩
  refine a1d R (a0e (a0c ?_))
  rcases a0h hm with ⟨t, hm⟩ | ⟨t, hm⟩
  refine a0r 21 Y t (a0x Y (a0g (a0a (a0b Y Y Y (a0e (a0c (a1c (a0j (a1n Y Y ?_)))))))))
  obtain rfl := Yo hm
  exact ⟨_, _, _, _, Y, q.Yp [1] Y Y, Y, Y, Y⟩
  refine a0r 21 Y t (a0p Y (a1b (a0c (a0g (a0g (a0a (a0f fa24_3 Y Y Y (a0n ag22 Y Y q Y (i := 0) Y Y (a1y L.len u22 Y Y Y (a0d Y Y Y (a0e (a0c (a1j ?_)))))))))))))
  intro a T
  obtain ⟨kont1, hkont1⟩ : ∃ kont1 : Int → Option (Int × Bool), kont1 = (fun (f2 : Int) => some (f2, true)) := ⟨_, Y⟩
  replace hm : (fun m (s : Int × Int) => a4p n (tariff_sized n) x1 levels1 kont1 m s.1 s.2) n (0, (isub .i64 left1 1)) = some r := by rw [hkont1]; exact hm
  refine a5j (id := 0) (fun m (s : Int × Int) => a4p n (tariff_sized n) x1 levels1 kont1 m s.1 s.2) (fun (y : Int) => kont1 y) r (fun (s : Int × Int) a w' => ∃ (u : Frz), Frz.le F u ∧ HS F w [bleft1] u [.box bleft1 3 [.int .i64 s.2]] w' ∧ Has 36 a [(1, .int .i64 levels1), (2, .pointer (some ⟨bleft1, 0, none⟩)), (23, .slice o p g), (24, .int .i64 (x1.Args.length : Int)), (25, .int .i64 s.1)]) (fun (y : Int) a w' => ∃ (x : Frz), Frz.le F x ∧ HS F w [bleft1] x [.box bleft1 3 [.int .i64 y]] w' ∧ Has 36 a []) (fun _ => Y) ?_ ?_ hm ⟨_, Yf, q.Yp [1] Y Y, T.cut (l := [1, 2, 23, 24, 25]) Y⟩
  clear hm; rintro f2 a gb hm ⟨x, gc, g0, U⟩
  rw [hkont1] at hm
  replace hm := hm
  refine a2c (e := .exit 0) U (a1m (a0c (a0g (a0a (a0b Y Y Y (a0e (a0c (a1c (a1n Y Y ?_)))))))))
  obtain rfl := Yo hm
  exact ⟨_, _, _, _, Y, g0.Yp [0] Y Y, Y, Y, Y⟩
  clear hm hkont1; intro hk1 mx1 K ihx1
  rintro ⟨i1, f1⟩ a gd hm ⟨u, z, G, V⟩
  simp only [a7v] at hm
  refine a1l V (a0g (a0a (a0u Y Y Y Y Y (a0e (a0c (a0g ?_))))))
  rcases a0h hm with ⟨H, hm⟩ | ⟨H, hm⟩
  refine a0r 26 Y H (a0x Y (a1b (a0c (a0g (a1j (a0g (a0a ?_)))))))
  obtain ⟨ex1, g1, hm⟩ := Yb hm
  refine a2r (r := rp_Expr) u22 sz24 Y Y Y Y (L.mono z) g1 ?_
  intro b2 o1 g g2 g3
  obtain ⟨ge, gf, gg, g4, g5⟩ := expr_iff.1 g3
  subst g4
  refine a3c ag24 sz24 Y Y G g2 Y Y (a1h ze24 Y Y Y G ?_)
  intro b3 gh g6
  refine a0o sz24 Y g6 Y Y Y Y (i := 0) Y Y Y Y ?_
  intro gi k
  refine a0e (a0c (a0g (a0a (a0q ag24 sz24 Y Y k Y (i := 0) Y Y (a0d Y Y Y (a0u Y Y Y Y Y (a0d Y Y Y ?_)))))))
  obtain ⟨v2, g7, hm⟩ := Yb hm
  refine a2n ent32 Y Y Y Y k (i := 1) Y (ih _ _ _ _ g7 k.sat g5 (k.get (i := 1) Y) (k.lendable (i := 1) Y)) ?_
  rintro _ gj _ _ gk g8 Q ⟨rfl, rfl, rfl⟩
  refine a4c Y Y Y (a0e (a0c ?_))
  rcases a0h hm with ⟨I, hm⟩ | ⟨I, hm⟩
  refine a0r 34 Y I (a0x Y (a0g (a0a (a0b Y Y Y (a0e (a0c (a1c (a0t (a0j (a0j (a0t (a0j (a1n Y Y ?_)))))))))))))
  obtain rfl := Yo hm
  exact ⟨_, _, _, _, Y, Q.Yp [1] Y Y, Y, Y, Y⟩
  refine a0r 34 Y I (a0p Y (a1b (a1o (a0c (a0a (a0u Y Y Y Y Y (a0d Y Y Y (a0e (a0k (fun a ha => ihx1 ((iadd .i64 i1 1), v2.1) a _ hm ?_))))))))))
  exact ⟨_, (z.trans g8), Q.Yp [1] Y Y, ha.cut (l := [1, 2, 23, 24, 25]) Y⟩
  refine a0r 26 Y H (a0p Y (a3p (a0w (a0w (fun a ha => hk1 f1 a _ hm ?_)))))
  exact ⟨_, z, G.Yp [0] Y Y, ha.cut (l := []) Y⟩
  clear hm
  rcases a0h j with ⟨J, j⟩ | ⟨J, j⟩
  refine a1k 16 Y J (a0y Y (by decide) Y (a0y Y (by decide) Y (a0y Y (by decide) Y (a0y Y (by decide) Y (a0s Y Y Y Y (a0e (a0k (fun a ha => ?_))))))))
  cases j
  exact ⟨Y, ha.cut (l := [1, 2, 3, 21]) Y⟩
  refine a1k 16 Y J (a0d Y Y Y (a9p Y Y Y (a0n ag3 Y Y q Y (i := 1) Y Y (a0u Y Y Y Y Y (a0m Y Y Y Y (a0e (a0k (fun a ha => ?_))))))))
  cases j
  exact ⟨Y, ha.cut (l := [1, 2, 3, 21]) Y⟩
theorem b3u (n : Nat) (x1 : Expr) (levels1 : Int) (left1 : Int) (r : (Int × Bool)) (hm : tariff_sized n x1 levels1 left1 = some r) {w : World} {F : Frz} (hs : Sat F w) {g : Option Addr} {h : Nat} {i : Nat} {bleft1 : Nat} (j : SlR rp_Expr F g h i x1.Args) (hbleft1 : (OE.box bleft1 3 [.int .i64 left1]).ok w) (hfleft1 : F bleft1 = none) :
  Calls Tryz.prog 32 #[.agg #[.int .i64 x1.Op, .int .i64 x1.N, vs x1.Name, .slice g h i], .int .i64 levels1, .pointer (some ⟨bleft1, 0, none⟩)] w fun e w' => ∃ v F' cs' O', e = .returned v ∧ HS F w [bleft1] F' (.box bleft1 3 cs' :: O') w' ∧ (v = .bool r.2 ∧ cs' = [.int .i64 r.1] ∧ O' = []) :=
 (b8b n) x1 levels1 left1 r hm hs j hbleft1 hfleft1
theorem u27 : Tryz.prog.underlying 27 = some (.slice 9) := by kernel_rfl
theorem sz9 : a4i Tryz.prog 9 1 := fun _ => by kernel_rfl
theorem ag9 : a9h Tryz.prog 9 false := fun _ => by kernel_rfl
def a1z (n : Nat) (s1 : (List Bs)) (v1 : Bs) (kont1 : Option Int) : Nat → Int → Option Int
 | 0, _ => none
 | mx1 + 1, i1 =>
  bif decide (i1 < (s1.length : Int)) then
   (ix s1 i1).bind fun ex1 =>
   bif v1 == ex1 then
    some i1
   else
    a1z n s1 v1 kont1 mx1 (iadd .i64 i1 1)
  else
   kont1
theorem a4j (n : Nat) (s1 : (List Bs)) (v1 : Bs) (kont1 : Option Int) (mx1 : Nat) (i1 : Int) : a1z n s1 v1 kont1 (mx1 + 1) i1 =
  bif decide (i1 < (s1.length : Int)) then
   (ix s1 i1).bind fun ex1 =>
   bif v1 == ex1 then
    some i1
   else
    a1z n s1 v1 kont1 mx1 (iadd .i64 i1 1)
  else
   kont1 := rfl
def a2e (n : Nat) (s1 : (List Bs)) (v1 : Bs) : Option Int :=
 a1z n s1 v1 (
  some (-1)) n 0
theorem a7d (n : Nat) (s1 : (List Bs)) (v1 : Bs) (r : Int) (hm : a2e n s1 v1 = some r) {w : World} {F : Frz} (hs : Sat F w) {g : Option Addr} {i : Nat} {k : Nat} (q : SlR Rp.str F g i k s1) :
  Calls Tryz.prog 51 #[.slice g i k, vs v1] w fun e w' => e = .returned (.int .i64 r) ∧ w' = w := by
 unfold a2e at hm
 have h := HS.init hs
 refine a1a 19 Tryz.func51 Y Y Y (a0g (a0a (a0b Y Y Y (a0e (a0c (a0g (a0g (a0a (a0d Y Y Y (a1y q.len u27 Y Y Y (a0d Y Y Y (a0e (a0c (a1j ?_))))))))))))))
 intro a t
 obtain ⟨kont1, hkont1⟩ : ∃ kont1 : Option Int, kont1 = ( some (-1)) := ⟨_, Y⟩
 replace hm : (fun m (s : Int) => a1z n s1 v1 kont1 m s) n 0 = some r := by rw [hkont1]; exact hm
 refine a5j (id := 0) (fun m (s : Int) => a1z n s1 v1 kont1 m s) (fun (y : Unit) => kont1) r (fun (s : Int) a w' => w = w' ∧ Has 19 a [(0, .slice g i k), (1, vs v1), (7, .int .i64 (s1.length : Int)), (8, .int .i64 s)]) (fun (y : Unit) a w' => w = w' ∧ Has 19 a []) (fun _ => Y) ?_ ?_ hm ⟨Y, t.cut (l := [0, 1, 7, 8]) Y⟩
 clear hm; rintro _u a J hm ⟨rfl, u⟩
 rw [hkont1] at hm
 refine a2c (e := .exit 0) u (a1m (a0c (a0g (a0a (a0b Y Y Y (a0e (a0c (a1c (a1n Y Y ?_)))))))))
 obtain rfl := Yo hm
 exact ⟨Y, Y⟩
 clear hm hkont1; intro hk1 mx1 K ihx1
 rintro i1 a L hm ⟨rfl, v⟩
 simp only [a4j] at hm
 refine a1l v (a0g (a0a (a0u Y Y Y Y Y (a0e (a0c (a0g ?_))))))
 rcases a0h hm with ⟨o, hm⟩ | ⟨o, hm⟩
 refine a0r 9 Y o (a0x Y (a1b (a0c (a0g (a1j (a0g (a0a (a0d Y Y Y (a0b Y Y Y (a0e (a0c (a0g (a0a (a0d Y Y Y (a0d Y Y Y (a0d Y Y Y ?_))))))))))))))))
 obtain ⟨ex1, x, hm⟩ := Yb hm
 refine a2r (r := Rp.str) u27 sz9 Y Y Y Y q x ?_
 intro b1 o1 z G H
 have I : z = [vs ex1] := H
 subst I
 refine a2j (j := 0) ag9 Y Y h G Y Y (b4m Y Y Y Y Y (a0e (a0c ?_)))
 rcases a0h hm with ⟨p, hm⟩ | ⟨p, hm⟩
 refine a0r 16 Y p (a0x Y (a0g (a0a (a0d Y Y Y (a0b Y Y Y (a0e (a0c (a1c (a0t (a0j (a0j (a0t (a0j (a1n Y Y ?_))))))))))))))
 obtain rfl := Yo hm
 exact ⟨Y, Y⟩
 refine a0r 16 Y p (a0p Y (a1b (a1o (a0c (a0a (a0u Y Y Y Y Y (a0d Y Y Y (a0e (a0k (fun a ha => ihx1 (iadd .i64 i1 1) a _ hm ?_))))))))))
 exact ⟨Y, ha.cut (l := [0, 1, 7, 8]) Y⟩
 refine a0r 9 Y o (a0p Y (a3p (a0w (a0w (fun a ha => hk1 () a _ hm ?_)))))
 exact ⟨Y, ha.cut (l := []) Y⟩
theorem ent51 : Ent Tryz.prog 51 := fun _ _ => by kernel_rfl
def a1s (n : Nat) (s1 : (List Bs)) (v1 : Bs) : Option Bool :=
 (a2e n s1 v1).bind fun v2 =>
 some (decide (0 ≤ v2))
theorem a6c (n : Nat) (s1 : (List Bs)) (v1 : Bs) (r : Bool) (hm : a1s n s1 v1 = some r) {w : World} {F : Frz} (hs : Sat F w) {g : Option Addr} {i : Nat} {j : Nat} (k : SlR Rp.str F g i j s1) :
  Calls Tryz.prog 71 #[.slice g i j, vs v1] w fun e w' => e = .returned (.bool r) ∧ w' = w := by
 unfold a1s at hm
 have h := HS.init hs
 refine a1a 9 Tryz.func71 Y Y Y (a0g (a0a (a0b Y Y Y (a0e (a0c (a0g (a0a (a0d Y Y Y (a0d Y Y Y ?_)))))))))
 obtain ⟨v2, l, hm⟩ := Yb hm
 refine a2t ent51 Y Y Y Y (a7d _ _ _ _ l h.sat k) (a0u Y Y Y Y Y (a0b Y Y Y (a0e (a0c (a1c (a1n Y Y ?_))))))
 obtain rfl := Yo hm
 exact ⟨Y, Y⟩
theorem ent71 : Ent Tryz.prog 71 := fun _ _ => by kernel_rfl
def a5k (n : Nat) (l1 : (List Bs)) (kont1 : Option Bool) : Nat → Int → Option Bool
 | 0, _ => none
 | mx1 + 1, i1 =>
  bif decide (i1 < (l1.length : Int)) then
   (ix l1 i1).bind fun ex1 =>
   (a5i n ex1).bind fun v1 =>
   (bif !v1 then
    some true
   else
    (lsl l1 0 i1).bind fun l2 =>
    (a1s n l2 ex1).bind fun v3 =>
    some v3).bind fun v2 =>
   bif v2 then
    some false
   else
    a5k n l1 kont1 mx1 (iadd .i64 i1 1)
  else
   kont1
theorem a9z (n : Nat) (l1 : (List Bs)) (kont1 : Option Bool) (mx1 : Nat) (i1 : Int) : a5k n l1 kont1 (mx1 + 1) i1 =
  bif decide (i1 < (l1.length : Int)) then
   (ix l1 i1).bind fun ex1 =>
   (a5i n ex1).bind fun v1 =>
   (bif !v1 then
    some true
   else
    (lsl l1 0 i1).bind fun l2 =>
    (a1s n l2 ex1).bind fun v3 =>
    some v3).bind fun v2 =>
   bif v2 then
    some false
   else
    a5k n l1 kont1 mx1 (iadd .i64 i1 1)
  else
   kont1 := rfl
def b2b (n : Nat) (l1 : (List Bs)) : Option Bool :=
 a5k n l1 (
  some (decide ((l1.length : Int) ≤ 6))) n 0
theorem c0p (n : Nat) (l1 : (List Bs)) (r : Bool) (hm : b2b n l1 = some r) {w : World} {F : Frz} (hs : Sat F w) {k : Option Addr} {o : Nat} {g : Nat} (p : SlR Rp.str F k o g l1) :
  Calls Tryz.prog 42 #[.slice k o g] w fun e w' => e = .returned (.bool r) ∧ w' = w := by
 unfold b2b at hm
 have h := HS.init hs
 refine a1a 26 Tryz.func42 Y Y Y (a0g (a0a (a0b Y Y Y (a0e (a0c (a0g (a0g (a0a (a0d Y Y Y (a1y p.len u27 Y Y Y (a0d Y Y Y (a0e (a0c (a1j ?_))))))))))))))
 intro a v
 obtain ⟨kont1, hkont1⟩ : ∃ kont1 : Option Bool, kont1 = ( some (decide ((l1.length : Int) ≤ 6))) := ⟨_, Y⟩
 replace hm : (fun m (s : Int) => a5k n l1 kont1 m s) n 0 = some r := by rw [hkont1]; exact hm
 refine a5j (id := 0) (fun m (s : Int) => a5k n l1 kont1 m s) (fun (y : Unit) => kont1) r (fun (s : Int) a w' => w = w' ∧ Has 26 a [(0, .slice k o g), (5, .slice k o g), (6, .int .i64 (l1.length : Int)), (7, .int .i64 s)]) (fun (y : Unit) a w' => w = w' ∧ Has 26 a [(0, .slice k o g)]) (fun _ => Y) ?_ ?_ hm ⟨Y, v.cut (l := [0, 5, 6, 7]) Y⟩
 clear hm; rintro _u a T hm ⟨rfl, x⟩
 rw [hkont1] at hm
 refine a2c (e := .exit 0) x (a1m (a0c (a0g (a0a (a0d Y Y Y (a1y p.len u27 Y Y Y (a0u Y Y Y Y Y (a0b Y Y Y (a0e (a0c (a1c (a1n Y Y ?_))))))))))))
 obtain rfl := Yo hm
 exact ⟨Y, Y⟩
 clear hm hkont1; intro hk1 mx1 K ihx1
 rintro i1 a U hm ⟨rfl, z⟩
 simp only [a9z] at hm
 refine a1l z (a0g (a0a (a0u Y Y Y Y Y (a0e (a0c (a0g ?_))))))
 rcases a0h hm with ⟨q, hm⟩ | ⟨q, hm⟩
 refine a0r 8 Y q (a0x Y (a1b (a0c (a0g (a1j (a0g (a0a (a0d Y Y Y ?_))))))))
 obtain ⟨ex1, H, hm⟩ := Yb hm
 refine a2r (r := Rp.str) u27 sz9 Y Y Y Y p H ?_
 intro b1 o1 g I J
 have L : g = [vs ex1] := J
 subst L
 refine a2j (j := 0) ag9 Y Y h I Y Y (a0b Y Y Y (a0b Y Y Y (a0e (a0c (a0g (a0a (a0d Y Y Y ?_)))))))
 obtain ⟨v1, M, hm⟩ := Yb hm
 refine a2t ent54 Y Y Y Y (b1e _ _ _ M) (a4c Y Y Y (a0d Y Y Y ?_))
 obtain ⟨v2, i, hm⟩ := Yb hm
 refine a2g 6 (fun a w' => w = w' ∧ Has 26 a [(0, .slice k o g), (5, .slice k o g), (6, .int .i64 (l1.length : Int)), (7, .int .i64 i1), (21, .bool v2)]) ?_ ?_
 rintro a V ⟨rfl, G⟩
 refine a1d G (a0e (a0c ?_))
 rcases a0h hm with ⟨t, hm⟩ | ⟨t, hm⟩
 refine a0r 21 Y t (a0x Y (a0g (a0a (a0b Y Y Y (a0e (a0c (a1c (a0t (a0j (a0j (a0t (a0j (a1n Y Y ?_)))))))))))))
 obtain rfl := Yo hm
 exact ⟨Y, Y⟩
 refine a0r 21 Y t (a0p Y (a1b (a1o (a0c (a0a (a0u Y Y Y Y Y (a0d Y Y Y (a0e (a0k (fun a ha => ihx1 (iadd .i64 i1 1) a _ hm ?_))))))))))
 exact ⟨Y, ha.cut (l := [0, 5, 6, 7]) Y⟩
 clear hm
 rcases a0h i with ⟨u, i⟩ | ⟨u, i⟩
 refine a1k 15 Y u (a0y Y (by decide) Y (a0y Y (by decide) Y (a0y Y (by decide) Y (a0y Y (by decide) Y (a0y Y (by decide) Y (a0s Y Y Y Y (a0e (a0k (fun a ha => ?_)))))))))
 cases i
 exact ⟨Y, ha.cut (l := [0, 5, 6, 7, 21]) Y⟩
 refine a1k 15 Y u (a0d Y Y Y (a0d Y Y Y ?_))
 obtain ⟨l2, N, i⟩ := Yb i
 refine c8k u27 (r := Rp.str) sz9 Y Y Y Y p N ?_
 intro Z g0 g1 Q
 refine a0d Y Y Y ?_
 obtain ⟨v3, R, i⟩ := Yb i
 refine a2t ent71 Y Y Y Y (a6c _ _ _ _ R h.sat Q) (a0m Y Y Y Y (a0e (a0k (fun a ha => ?_))))
 cases i
 exact ⟨Y, ha.cut (l := [0, 5, 6, 7, 21]) Y⟩
 refine a0r 8 Y q (a0p Y (a3p (a0w (a0w (fun a ha => hk1 () a _ hm ?_)))))
 exact ⟨Y, ha.cut (l := [0]) Y⟩
def a2o (_n : Nat) (ax1 : Int) (b1 : Int) : Option (Int × Int) :=
 (bif ax1 == 0 then
  some true
 else
  some (b1 == 0)).bind fun v1 =>
 bif v1 then
  some (0, 13)
 else
  (bif ax1 == 2 then
   some true
  else
   some (b1 == 2)).bind fun v2 =>
  bif v2 then
   some (2, 0)
  else
   some (1, 0)
theorem b0e (n : Nat) (ax1 : Int) (b1 : Int) (r : (Int × Int)) (hm : a2o n ax1 b1 = some r) {w : World}  :
  Calls Tryz.prog 73 #[.int .i64 ax1, .int .i64 b1] w fun e w' => e = .returned (.tuple #[.int .i64 r.1, .int .i64 r.2]) ∧ w' = w := by
 unfold a2o at hm
 refine a1a 20 Tryz.func73 Y Y Y (a0g (a0a (a0b Y Y Y (a0b Y Y Y (a0e (a0c (a0g (a1j (a0g (a0a (a0d Y Y Y (a0u Y Y Y Y Y (a0d Y Y Y ?_)))))))))))))
 obtain ⟨v1, g, hm⟩ := Yb hm
 refine a2g 3 (fun a w' => w = w' ∧ Has 20 a [(0, .int .i64 ax1), (1, .int .i64 b1), (12, .bool v1)]) ?_ ?_
 rintro a q ⟨rfl, o⟩
 refine a1d o (a0b Y Y Y (a0e (a0c ?_)))
 rcases a0h hm with ⟨i, hm⟩ | ⟨i, hm⟩
 refine a0r 6 Y i (a0x Y (a0g (a0a (a0b Y Y Y (a0b Y Y Y (a0e (a0c (a1c (a0t (a0j (a1q (vl := [.int .i64 0, .int .i64 13]) Y ⟨a1p Y, a1p Y, trivial⟩ (by simp) ?_)))))))))))
 obtain rfl := Yo hm
 exact ⟨Y, Y⟩
 refine a0r 6 Y i (a0p Y (a0g (a0a (a0d Y Y Y (a0u Y Y Y Y Y (a0d Y Y Y ?_))))))
 obtain ⟨v2, h, hm⟩ := Yb hm
 refine a2g 3 (fun a w' => w = w' ∧ Has 20 a [(19, .bool v2)]) ?_ ?_
 rintro a s ⟨rfl, p⟩
 refine a1d p (a0b Y Y Y (a0e (a0c ?_)))
 rcases a0h hm with ⟨j, hm⟩ | ⟨j, hm⟩
 refine a0r 13 Y j (a0x Y (a0g (a0a (a0b Y Y Y (a0b Y Y Y (a0e (a0c (a1c (a0t (a0j (a1q (vl := [.int .i64 2, .int .i64 0]) Y ⟨a1p Y, a1p Y, trivial⟩ (by simp) ?_)))))))))))
 obtain rfl := Yo hm
 exact ⟨Y, Y⟩
 refine a0r 13 Y j (a0p Y (a1b (a1o (a0c (a0g (a0a (a0b Y Y Y (a0b Y Y Y (a0e (a0c (a1c (a1q (vl := [.int .i64 1, .int .i64 0]) Y ⟨a1p Y, a1p Y, trivial⟩ (by simp) ?_))))))))))))
 obtain rfl := Yo hm
 exact ⟨Y, Y⟩
 clear hm
 rcases a0h h with ⟨k, h⟩ | ⟨k, h⟩
 refine a1k 16 Y k (a0y Y (by decide) Y (a0y Y (by decide) Y (a0s Y Y Y Y (a0e (a0k (fun a ha => ?_))))))
 cases h
 exact ⟨Y, ha.cut (l := [19]) Y⟩
 refine a1k 16 Y k (a0d Y Y Y (a0u Y Y Y Y Y (a0m Y Y Y Y (a0e (a0k (fun a ha => ?_))))))
 cases h
 exact ⟨Y, ha.cut (l := [19]) Y⟩
 clear hm
 rcases a0h g with ⟨m, g⟩ | ⟨m, g⟩
 refine a1k 9 Y m (a0y Y (by decide) Y (a0y Y (by decide) Y (a0s Y Y Y Y (a0e (a0k (fun a ha => ?_))))))
 cases g
 exact ⟨Y, ha.cut (l := [0, 1, 12]) Y⟩
 refine a1k 9 Y m (a0d Y Y Y (a0u Y Y Y Y Y (a0m Y Y Y Y (a0e (a0k (fun a ha => ?_))))))
 cases g
 exact ⟨Y, ha.cut (l := [0, 1, 12]) Y⟩
def b0b (_n : Nat) (op1 : Int) : Option Int :=
 bif decide (op1 ≤ 4) then
  some 0
 else
  bif op1 == 14 then
   some 1
  else
   bif op1 == 11 then
    some 3
   else
    some 2
theorem c0s (n : Nat) (op1 : Int) (r : Int) (hm : b0b n op1 = some r) {w : World}  :
  Calls Tryz.prog 110 #[.int .i64 op1] w fun e w' => e = .returned (.int .i64 r) ∧ w' = w := by
 unfold b0b at hm
 refine a1a 12 Tryz.func110 Y Y Y (a0g (a0a (a0b Y Y Y (a0e (a0c (a0g (a1j (a0g (a0a (a0d Y Y Y (a0u Y Y Y Y Y (a0b Y Y Y (a0e (a0c ?_))))))))))))))
 rcases a0h hm with ⟨g, hm⟩ | ⟨g, hm⟩
 refine a0r 3 Y g (a0x Y (a0g (a0a (a0b Y Y Y (a0e (a0c (a1c (a0t (a0j (a1n Y Y ?_))))))))))
 obtain rfl := Yo hm
 exact ⟨Y, Y⟩
 refine a0r 3 Y g (a0p Y (a0g (a0a (a0d Y Y Y (a0u Y Y Y Y Y (a0b Y Y Y (a0e (a0c ?_))))))))
 rcases a0h hm with ⟨h, hm⟩ | ⟨h, hm⟩
 refine a0r 6 Y h (a0x Y (a0g (a0a (a0b Y Y Y (a0e (a0c (a1c (a0t (a0j (a1n Y Y ?_))))))))))
 obtain rfl := Yo hm
 exact ⟨Y, Y⟩
 refine a0r 6 Y h (a0p Y (a0g (a0a (a0d Y Y Y (a0u Y Y Y Y Y (a0b Y Y Y (a0e (a0c ?_))))))))
 rcases a0h hm with ⟨i, hm⟩ | ⟨i, hm⟩
 refine a0r 9 Y i (a0x Y (a0g (a0a (a0b Y Y Y (a0e (a0c (a1c (a0t (a0j (a1n Y Y ?_))))))))))
 obtain rfl := Yo hm
 exact ⟨Y, Y⟩
 refine a0r 9 Y i (a0p Y (a1b (a1o (a0c (a0g (a0a (a0b Y Y Y (a0e (a0c (a1c (a1n Y Y ?_)))))))))))
 obtain rfl := Yo hm
 exact ⟨Y, Y⟩
def b2d (_n : Nat) (nx1 : Int) (cap1 : Int) : Option Bool :=
 some (nx1 != cap1)
theorem b9z (n : Nat) (nx1 : Int) (cap1 : Int) (r : Bool) (hm : b2d n nx1 cap1 = some r) {w : World} {F : Frz} (hs : Sat F w) {bcap1 : Nat} (hccap1 : FC F bcap1 0 [.int .i64 cap1]) :
  Calls Tryz.prog 102 #[.int .i64 nx1, .pointer (some ⟨bcap1, 0, none⟩)] w fun e w' => e = .returned (.bool r) ∧ w' = w := by
 unfold b2d at hm
 have h := HS.init hs
 refine a1a 7 Tryz.func102 Y Y Y (a0g (a0a (a0b Y Y Y (a0e (a0c (a0g (a0a (a0d Y Y Y (a2j (j := 0) ag3 Y Y h hccap1 Y Y (a0u Y Y Y Y Y (a0b Y Y Y (a0e (a0c (a1c (a1n Y Y ?_)))))))))))))))
 obtain rfl := Yo hm
 exact ⟨Y, Y⟩
def a2i (n : Nat) (s1 : (List Int)) (f1 : (Int → Option Bool)) (kont1 : Option Int) : Nat → Int → Option Int
 | 0, _ => none
 | mx1 + 1, i1 =>
  bif decide (i1 < (s1.length : Int)) then
   (ix s1 i1).bind fun ex1 =>
   (f1 ex1).bind fun v1 =>
   bif v1 then
    some i1
   else
    a2i n s1 f1 kont1 mx1 (iadd .i64 i1 1)
  else
   kont1
theorem a4u (n : Nat) (s1 : (List Int)) (f1 : (Int → Option Bool)) (kont1 : Option Int) (mx1 : Nat) (i1 : Int) : a2i n s1 f1 kont1 (mx1 + 1) i1 =
  bif decide (i1 < (s1.length : Int)) then
   (ix s1 i1).bind fun ex1 =>
   (f1 ex1).bind fun v1 =>
   bif v1 then
    some i1
   else
    a2i n s1 f1 kont1 mx1 (iadd .i64 i1 1)
  else
   kont1 := rfl
def a4r (n : Nat) (s1 : (List Int)) (f1 : (Int → Option Bool)) : Option Int :=
 a2i n s1 f1 (
  some (-1)) n 0
theorem b1p (n : Nat) (s1 : (List Int)) (f1 : (Int → Option Bool)) (r : Int) (hm : a4r n s1 f1 = some r) {w : World} {F : Frz} (hs : Sat F w) {i : Option Addr} {k : Nat} {o : Nat} {fvf1 : Value} (z : SlR (Rp.int .i64) F i k o s1) (hpff1 : GFn Tryz.prog F fvf1 (fun _ l v => ∃ (q0 : Int) (b : Bool), l = [.int .i64 q0] ∧ v = some (.bool b) ∧ f1 q0 = some b)) :
  Calls Tryz.prog 77 #[.slice i k o, fvf1] w fun e w' => ∃ v F' O', e = .returned v ∧ HS F w [] F' O' w' ∧ (v = .int .i64 r ∧ O' = []) := by
 unfold a4r at hm
 have h := HS.init hs
 refine a1a 19 Tryz.func77 Y Y Y (a0g (a0a (a0b Y Y Y (a0e (a0c (a0g (a0g (a0a (a0d Y Y Y (a1y z.len u28 Y Y Y (a0d Y Y Y (a0e (a0c (a1j ?_))))))))))))))
 intro a H
 obtain ⟨kont1, hkont1⟩ : ∃ kont1 : Option Int, kont1 = ( some (-1)) := ⟨_, Y⟩
 replace hm : (fun m (s : Int) => a2i n s1 f1 kont1 m s) n 0 = some r := by rw [hkont1]; exact hm
 refine a5j (id := 0) (fun m (s : Int) => a2i n s1 f1 kont1 m s) (fun (y : Unit) => kont1) r (fun (s : Int) a w' => ∃ (p : Frz), Frz.le F p ∧ HS F w [] p [] w' ∧ Has 19 a [(0, .slice i k o), (1, fvf1), (7, .int .i64 (s1.length : Int)), (8, .int .i64 s)]) (fun (y : Unit) a w' => ∃ (q : Frz), Frz.le F q ∧ HS F w [] q [] w' ∧ Has 19 a []) (fun _ => Y) ?_ ?_ hm ⟨_, Yf, h.Yp [] Y Y, H.cut (l := [0, 1, 7, 8]) Y⟩
 clear hm; rintro _u a Z hm ⟨q, g0, L, I⟩
 rw [hkont1] at hm
 refine a2c (e := .exit 0) I (a1m (a0c (a0g (a0a (a0b Y Y Y (a0e (a0c (a1c (a1n Y Y ?_)))))))))
 obtain rfl := Yo hm
 exact ⟨_, _, _, Y, L.Yp [] Y Y, Y, Y⟩
 clear hm hkont1; intro hk1 mx1 K ihx1
 rintro i1 a g1 hm ⟨p, g, t, J⟩
 simp only [a4u] at hm
 refine a1l J (a0g (a0a (a0u Y Y Y Y Y (a0e (a0c (a0g ?_))))))
 rcases a0h hm with ⟨u, hm⟩ | ⟨u, hm⟩
 refine a0r 9 Y u (a0x Y (a1b (a0c (a0g (a1j (a0g (a0a (a0d Y Y Y (a0b Y Y Y (a0e (a0c (a0g (a0a (a0d Y Y Y (a0d Y Y Y (a0d Y Y Y ?_))))))))))))))))
 obtain ⟨ex1, M, hm⟩ := Yb hm
 refine a2r (r := (Rp.int .i64)) u28 sz3 Y Y Y Y (z.mono g) M ?_
 intro b1 o1 N Q R
 have T : N = [.int .i64 ex1] := R
 subst T
 refine a2j (j := 0) ag3 Y Y t Q Y Y ?_
 obtain ⟨v1, U, hm⟩ := Yb hm
 refine c3c (hpff1.mono g) Y Y Y Y t ⟨_, _, Y, Y, U⟩ ?_
 intro g2 g3 V G
 refine a0e (a0c ?_)
 rcases a0h hm with ⟨x, hm⟩ | ⟨x, hm⟩
 refine a0r 16 Y x (a0x Y (a0g (a0a (a0d Y Y Y (a0b Y Y Y (a0e (a0c (a1c (a0t (a0j (a0j (a0t (a0j (a1n Y Y ?_))))))))))))))
 obtain rfl := Yo hm
 exact ⟨_, _, _, Y, G.Yp [] Y Y, Y, Y⟩
 refine a0r 16 Y x (a0p Y (a1b (a1o (a0c (a0a (a0u Y Y Y Y Y (a0d Y Y Y (a0e (a0k (fun a ha => ihx1 (iadd .i64 i1 1) a _ hm ?_))))))))))
 exact ⟨_, (g.trans V), G.Yp [] Y Y, ha.cut (l := [0, 1, 7, 8]) Y⟩
 refine a0r 9 Y u (a0p Y (a3p (a0w (a0w (fun a ha => hk1 () a _ hm ?_)))))
 exact ⟨_, g, t.Yp [] Y Y, ha.cut (l := []) Y⟩
theorem ent77 : Ent Tryz.prog 77 := fun _ _ => by kernel_rfl
def a3b (n : Nat) (s1 : (List Int)) (f1 : (Int → Option Bool)) : Option Bool :=
 (a4r n s1 f1).bind fun v1 =>
 some (decide (0 ≤ v1))
theorem a6n (n : Nat) (s1 : (List Int)) (f1 : (Int → Option Bool)) (r : Bool) (hm : a3b n s1 f1 = some r) {w : World} {F : Frz} (hs : Sat F w) {g : Option Addr} {i : Nat} {j : Nat} {fvf1 : Value} (k : SlR (Rp.int .i64) F g i j s1) (hpff1 : GFn Tryz.prog F fvf1 (fun _ l v => ∃ (q0 : Int) (b : Bool), l = [.int .i64 q0] ∧ v = some (.bool b) ∧ f1 q0 = some b)) :
  Calls Tryz.prog 48 #[.slice g i j, fvf1] w fun e w' => ∃ v F' O', e = .returned v ∧ HS F w [] F' O' w' ∧ (v = .bool r ∧ O' = []) := by
 unfold a3b at hm
 have h := HS.init hs
 refine a1a 9 Tryz.func48 Y Y Y (a0g (a0a (a0b Y Y Y (a0e (a0c (a0g (a0a (a0d Y Y Y (a0d Y Y Y ?_)))))))))
 obtain ⟨v1, m, hm⟩ := Yb hm
 refine a0i ent77 Y Y Y Y h (b1p _ _ _ _ m h.sat k hpff1) ?_
 rintro _ p _ q s o ⟨rfl, rfl⟩
 refine a0u Y Y Y Y Y (a0b Y Y Y (a0e (a0c (a1c (a1n Y Y ?_)))))
 obtain rfl := Yo hm
 exact ⟨_, _, _, Y, o.Yp [] Y Y, Y, Y⟩
theorem ent102 : Ent Tryz.prog 102 := fun _ _ => by kernel_rfl
theorem ent48 : Ent Tryz.prog 48 := fun _ _ => by kernel_rfl
def a4s (n : Nat) (k1 : Int) (l1 : (List Int)) (want1 : Int) : Option (Int × Int) :=
 (a3b n l1 (fun (q0 : Int) => b2d n q0 want1)).bind fun v1 =>
 bif v1 then
  some (0, 13)
 else
  some (k1, 0)
theorem b6o (n : Nat) (k1 : Int) (l1 : (List Int)) (want1 : Int) (r : (Int × Int)) (hm : a4s n k1 l1 want1 = some r) {w : World} {F : Frz} (hs : Sat F w) {j : Option Addr} {k : Nat} {m : Nat} (q : SlR (Rp.int .i64) F j k m l1) :
  Calls Tryz.prog 72 #[.int .i64 k1, .slice j k m, .int .i64 want1] w fun e w' => ∃ v F' O', e = .returned v ∧ HS F w [] F' O' w' ∧ (v = .tuple #[.int .i64 r.1, .int .i64 r.2] ∧ O' = []) := by
 unfold a4s at hm
 have h := HS.init hs
 refine a1a 12 Tryz.func72 Y Y Y (a0g (a0a (a2z Y Y Y Y h ?_)))
 intro b1 y s
 refine a0b Y Y Y (a0b Y Y Y (a0e (a0c (a0g (a0g (a0a (a0d Y Y Y ?_)))))))
 obtain ⟨z, t, o, u⟩ := d0z s (i := 0) Y
 refine c7o Y Y Y ?_
 obtain ⟨v1, x, hm⟩ := Yb hm
 refine a0i ent48 Y Y Y Y o (a6n _ _ _ _ x o.sat (q.mono t) (show GFn Tryz.prog _ (.func (.func 102) #[] #[.pointer (some ⟨b1, 0, none⟩)]) (fun _ l v => ∃ (q0 : Int) (b : Bool), l = [.int .i64 q0] ∧ v = some (.bool b) ∧ (fun (q0 : Int) => b2d n q0 want1) q0 = some b) from ⟨102, #[.pointer (some ⟨b1, 0, none⟩)], Y, ent102, fun F' hF' args r w hsat h => by
                               obtain ⟨q0, b, rfl, hv, hb⟩ := h
                               obtain rfl := Yo hv
                               exact (b9z n q0 want1 _ hb hsat (FC.mono hF' u)).mono (by rintro _ _ ⟨rfl, rfl⟩; exact ⟨_, F', [], rfl, HS.init hsat, rfl, rfl⟩)⟩)) ?_
 rintro _ G _ H I p ⟨rfl, rfl⟩
 refine a0e (a0c ?_)
 rcases a0h hm with ⟨g, hm⟩ | ⟨g, hm⟩
 ·refine a0r 10 rfl g ?_
  refine a0x Y (a0g (a0a (a0b Y Y Y (a0b Y Y Y (a0e (a0c (a1c (a0j (a1q (vl := [.int .i64 0, .int .i64 13]) Y ⟨a1p Y, a1p Y, trivial⟩ (by simp) ?_)))))))))
  obtain rfl := Yo hm
  exact ⟨_, _, _, Y, p.Yp [] Y Y, Y, Y⟩
 ·refine a0r 10 rfl g ?_
  refine a0p Y (a1b (a0c (a0g (a0a (a0d Y Y Y (a0b Y Y Y (a0b Y Y Y (a0e (a0c (a1c (a1q (vl := [.int .i64 k1, .int .i64 0]) Y ⟨a1p Y, a1p Y, trivial⟩ (by simp) ?_)))))))))))
  obtain rfl := Yo hm
  exact ⟨_, _, _, Y, p.Yp [] Y Y, Y, Y⟩
theorem fa24_0 : a4v Tryz.prog 24 0 0 := fun _ _ _ => by kernel_rfl
theorem fa24_2 : a4v Tryz.prog 24 2 2 := fun _ _ _ => by kernel_rfl
theorem ent72 : Ent Tryz.prog 72 := fun _ _ => by kernel_rfl
theorem ent73 : Ent Tryz.prog 73 := fun _ _ => by kernel_rfl
theorem fa24_1 : a4v Tryz.prog 24 1 1 := fun _ _ _ => by kernel_rfl
theorem ent43 : Ent Tryz.prog 43 := fun _ _ => by kernel_rfl
def a3d (n : Nat) (rec_tariff_typed : Expr → (List Bs) → Option (Int × Int)) (x1 : Expr) (names1 : (List Bs)) (kont1 : (List Int) → Option (Int × Int)) : Nat → Int → (List Int) → Option (Int × Int)
 | 0, _, _ => none
 | mx1 + 1, i1, l1 =>
  bif decide (i1 < (x1.Args.length : Int)) then
   (ix x1.Args i1).bind fun ex13 =>
   (rec_tariff_typed ex13 names1).bind fun v13 =>
   bif v13.2 != 0 then
    some (0, v13.2)
   else
    (app 8 l1 [v13.1]).bind fun l3 =>
    a3d n rec_tariff_typed x1 names1 kont1 mx1 (iadd .i64 i1 1) l3
  else
   kont1 l1
theorem a8b (n : Nat) (rec_tariff_typed : Expr → (List Bs) → Option (Int × Int)) (x1 : Expr) (names1 : (List Bs)) (kont1 : (List Int) → Option (Int × Int)) (mx1 : Nat) (i1 : Int) (l1 : List Int) : a3d n rec_tariff_typed x1 names1 kont1 (mx1 + 1) i1 l1 =
  bif decide (i1 < (x1.Args.length : Int)) then
   (ix x1.Args i1).bind fun ex13 =>
   (rec_tariff_typed ex13 names1).bind fun v13 =>
   bif v13.2 != 0 then
    some (0, v13.2)
   else
    (app 8 l1 [v13.1]).bind fun l3 =>
    a3d n rec_tariff_typed x1 names1 kont1 mx1 (iadd .i64 i1 1) l3
  else
   kont1 l1 := rfl
def tariff_typed : Nat → Expr → (List Bs) → Option (Int × Int)
 | 0, _, _ => none
 | n + 1, x1, names1 =>
  a3d n (tariff_typed n) x1 names1 (fun (l2 : List Int) =>
   (bif x1.Op == 1 then
    some true
   else
    some (x1.Op == 4)).bind fun v1 =>
   bif v1 then
    (a1s n names1 x1.Name).bind fun v2 =>
    bif !v2 then
     some (0, 11)
    else
     bif x1.Op == 4 then
      some (2, 0)
     else
      some (1, 0)
   else
    (bif x1.Op == 0 then
     some true
    else
     bif x1.Op == 2 then
      some true
     else
      some (x1.Op == 3)).bind fun v3 =>
    bif v3 then
     some (1, 0)
    else
     (bif x1.Op == 12 then
      some true
     else
      some (x1.Op == 13)).bind fun v4 =>
     bif v4 then
      (a4s n 0 l2 1).bind fun v5 =>
      some (v5.1, v5.2)
     else
      (bif x1.Op == 14 then
       some true
      else
       bif x1.Op == 15 then
        some true
       else
        some (x1.Op == 16)).bind fun v6 =>
      bif v6 then
       (a4s n 0 l2 0).bind fun v7 =>
       some (v7.1, v7.2)
      else
       bif x1.Op == 11 then
        (ix l2 0).bind fun ex1 =>
        bif ex1 != 0 then
         some (0, 13)
        else
         (ix l2 1).bind fun ex2 =>
         (ix l2 2).bind fun ex3 =>
         (a2o n ex2 ex3).bind fun v8 =>
         some (v8.1, v8.2)
       else
        bif x1.Op == 7 then
         (ix l2 0).bind fun ex4 =>
         (bif ex4 == 2 then
          (ix l2 1).bind fun ex7 =>
          some (ex7 == 2)
         else
          some false).bind fun v9 =>
         bif v9 then
          some (0, 13)
         else
          (ix l2 0).bind fun ex5 =>
          (ix l2 1).bind fun ex6 =>
          (a2o n ex5 ex6).bind fun v10 =>
          some (v10.1, v10.2)
        else
         bif x1.Op == 8 then
          (ix x1.Args 1).bind fun ex8 =>
          bif ex8.Op != 0 then
           some (0, 13)
          else
           bif ex8.N == 0 then
            some (0, 14)
           else
            (ix l2 0).bind fun ex9 =>
            (ix l2 1).bind fun ex10 =>
            (a2o n ex9 ex10).bind fun v11 =>
            some (v11.1, v11.2)
         else
          (ix l2 0).bind fun ex11 =>
          (ix l2 1).bind fun ex12 =>
          (a2o n ex11 ex12).bind fun v12 =>
          some (v12.1, v12.2)) n 0 ([] : List Int)
theorem c1c (n : Nat) (x1 : Expr) (names1 : (List Bs)) : tariff_typed (n + 1) x1 names1 =
  a3d n (tariff_typed n) x1 names1 (fun (l2 : List Int) =>
   (bif x1.Op == 1 then
    some true
   else
    some (x1.Op == 4)).bind fun v1 =>
   bif v1 then
    (a1s n names1 x1.Name).bind fun v2 =>
    bif !v2 then
     some (0, 11)
    else
     bif x1.Op == 4 then
      some (2, 0)
     else
      some (1, 0)
   else
    (bif x1.Op == 0 then
     some true
    else
     bif x1.Op == 2 then
      some true
     else
      some (x1.Op == 3)).bind fun v3 =>
    bif v3 then
     some (1, 0)
    else
     (bif x1.Op == 12 then
      some true
     else
      some (x1.Op == 13)).bind fun v4 =>
     bif v4 then
      (a4s n 0 l2 1).bind fun v5 =>
      some (v5.1, v5.2)
     else
      (bif x1.Op == 14 then
       some true
      else
       bif x1.Op == 15 then
        some true
       else
        some (x1.Op == 16)).bind fun v6 =>
      bif v6 then
       (a4s n 0 l2 0).bind fun v7 =>
       some (v7.1, v7.2)
      else
       bif x1.Op == 11 then
        (ix l2 0).bind fun ex1 =>
        bif ex1 != 0 then
         some (0, 13)
        else
         (ix l2 1).bind fun ex2 =>
         (ix l2 2).bind fun ex3 =>
         (a2o n ex2 ex3).bind fun v8 =>
         some (v8.1, v8.2)
       else
        bif x1.Op == 7 then
         (ix l2 0).bind fun ex4 =>
         (bif ex4 == 2 then
          (ix l2 1).bind fun ex7 =>
          some (ex7 == 2)
         else
          some false).bind fun v9 =>
         bif v9 then
          some (0, 13)
         else
          (ix l2 0).bind fun ex5 =>
          (ix l2 1).bind fun ex6 =>
          (a2o n ex5 ex6).bind fun v10 =>
          some (v10.1, v10.2)
        else
         bif x1.Op == 8 then
          (ix x1.Args 1).bind fun ex8 =>
          bif ex8.Op != 0 then
           some (0, 13)
          else
           bif ex8.N == 0 then
            some (0, 14)
           else
            (ix l2 0).bind fun ex9 =>
            (ix l2 1).bind fun ex10 =>
            (a2o n ex9 ex10).bind fun v11 =>
            some (v11.1, v11.2)
         else
          (ix l2 0).bind fun ex11 =>
          (ix l2 1).bind fun ex12 =>
          (a2o n ex11 ex12).bind fun v12 =>
          some (v12.1, v12.2)) n 0 ([] : List Int) := rfl
theorem b8d (n : Nat) : (∀ (x1 : Expr) (names1 : (List Bs)) (r : (Int × Int)) (_ : tariff_typed n x1 names1 = some r) {w : World} {F : Frz} (_ : Sat F w) {L : Option Addr} {M : Nat} {H : Nat} {Q : Option Addr} {R : Nat} {I : Nat} (_ : SlR rp_Expr F L M H x1.Args) (_ : SlR Rp.str F Q R I names1), Calls Tryz.prog 43 #[.agg #[.int .i64 x1.Op, .int .i64 x1.N, vs x1.Name, .slice L M H], .slice Q R I] w fun e w' => ∃ v F' O', e = .returned v ∧ HS F w [] F' O' w' ∧ (v = .tuple #[.int .i64 r.1, .int .i64 r.2] ∧ O' = [])) := by
 induction n with
 | zero =>
  intro x1 names1 r hm
  exact absurd (show (none : Option (Int × Int)) = some r from hm) (by simp)
 | succ n ih =>
  intro x1 names1 r hm w F hs L M H Q R I gn hg
  rw [c1c] at hm
  have h := HS.init hs
  refine a1a 113 Tryz.func43 Y Y Y (a0g (a0a (a2z Y Y Y Y h ?_)))
  intro b1 kj hh
  refine a0b Y Y Y (a0b Y Y Y (a0e (a0c (a0g (a0a (a0b Y Y Y (a0e (a0c (a0g (a0g (a0a (a0f fa24_3 Y Y Y (a0n ag22 Y Y hh Y (i := 0) Y Y (a1y gn.len u22 Y Y Y (a0d Y Y Y (a0e (a0c (a1j ?_))))))))))))))))))
  have iu := hh.nilRow 3 1
  intro a gx
  obtain ⟨kont1, hkont1⟩ : ∃ kont1 : (List Int) → Option (Int × Int), kont1 = (fun (l2 : List Int) => (bif x1.Op == 1 then some true else some (x1.Op == 4)).bind fun v1 => bif v1 then (a1s n names1 x1.Name).bind fun v2 => bif !v2 then some (0, 11) else bif x1.Op == 4 then some (2, 0) else some (1, 0) else (bif x1.Op == 0 then some true else bif x1.Op == 2 then some true else some (x1.Op == 3)).bind fun v3 => bif v3 then some (1, 0) else (bif x1.Op == 12 then some true else some (x1.Op == 13)).bind fun v4 => bif v4 then (a4s n 0 l2 1).bind fun v5 => some (v5.1, v5.2) else (bif x1.Op == 14 then some true else bif x1.Op == 15 then some true else some (x1.Op == 16)).bind fun v6 => bif v6 then (a4s n 0 l2 0).bind fun v7 => some (v7.1, v7.2) else bif x1.Op == 11 then (ix l2 0).bind fun ex1 => bif ex1 != 0 then some (0, 13) else (ix l2 1).bind fun ex2 => (ix l2 2).bind fun ex3 => (a2o n ex2 ex3).bind fun v8 => some (v8.1, v8.2) else bif x1.Op == 7 then (ix l2 0).bind fun ex4 => (bif ex4 == 2 then (ix l2 1).bind fun ex7 => some (ex7 == 2) else some false).bind fun v9 => bif v9 then some (0, 13) else (ix l2 0).bind fun ex5 => (ix l2 1).bind fun ex6 => (a2o n ex5 ex6).bind fun v10 => some (v10.1, v10.2) else bif x1.Op == 8 then (ix x1.Args 1).bind fun ex8 => bif ex8.Op != 0 then some (0, 13) else bif ex8.N == 0 then some (0, 14) else (ix l2 0).bind fun ex9 => (ix l2 1).bind fun ex10 => (a2o n ex9 ex10).bind fun v11 => some (v11.1, v11.2) else (ix l2 0).bind fun ex11 => (ix l2 1).bind fun ex12 => (a2o n ex11 ex12).bind fun v12 => some (v12.1, v12.2)) := ⟨_, Y⟩
  replace hm : (fun m (s : Int × List Int) => a3d n (tariff_typed n) x1 names1 kont1 m s.1 s.2) n (0, ([] : List Int)) = some r := by rw [hkont1]; exact hm
  refine a5j (id := 0) (fun m (s : Int × List Int) => a3d n (tariff_typed n) x1 names1 kont1 m s.1 s.2) (fun (y : List Int) => kont1 y) r (fun (s : Int × List Int) a w' => ∃ (gj : Frz) (gk : Option Addr) (T : Nat) (U : Nat) (xss3 : List Value), Frz.le F gj ∧ HS F w [] gj [.row 3 1 gk T U xss3, .box b1 24 [.int .i64 x1.Op, .int .i64 x1.N, vs x1.Name, .slice L M H]] w' ∧ (RowN (Rp.int .i64) gj T xss3 s.2) ∧ Has 113 a [(1, .slice Q R I), (2, .pointer (some ⟨b1, 0, none⟩)), (6, .slice gk T U), (13, .slice L M H), (14, .int .i64 (x1.Args.length : Int)), (15, .int .i64 s.1)]) (fun (y : List Int) a w' => ∃ (gl : Frz) (J : Option Addr) (x : Nat) (o : Nat) (xss4 : List Value), Frz.le F gl ∧ HS F w [] gl [.row 3 1 J x o xss4, .box b1 24 [.int .i64 x1.Op, .int .i64 x1.N, vs x1.Name, .slice L M H]] w' ∧ (RowN (Rp.int .i64) gl x xss4 y) ∧ Has 113 a [(1, .slice Q R I), (2, .pointer (some ⟨b1, 0, none⟩)), (6, .slice J x o)]) (fun _ => Y) ?_ ?_ hm ⟨_, none, 0, 0, [], Yf, iu.Yp [0, 1] Y Y, ((show RowN (Rp.int .i64) _ 0 [] [] from ⟨Y, Y⟩)), gx.cut (l := [1, 2, 6, 13, 14, 15]) Y⟩
  clear hm; rintro l2 a V hm ⟨gl, J, x, o, xss4, hi, g, k, hp⟩
  rw [hkont1] at hm
  replace hm := hm
  refine a2c (e := .exit 0) hp (a1m (a0c (a0g (a0g (a0a (a0f fa24_0 Y Y Y (a0n ag3 Y Y g Y (i := 1) Y Y (a0e (a0c (a1j (a0g (a0g (a0a (a0u Y Y Y Y Y (a0b Y Y Y (a0e (a0c ?_)))))))))))))))))
  obtain ⟨v1, Z, hm⟩ := Yb hm
  refine a6f (fun a w' => V = w' ∧ Has 113 a [(1, .slice Q R I), (2, .pointer (some ⟨b1, 0, none⟩)), (6, .slice J x o), (34, .int .i64 x1.Op), (35, .bool v1)]) ?_ ?_
  rintro a kk ⟨rfl, hr⟩
  refine a1l hr ?_
  rcases a0h hm with ⟨go, hm⟩ | ⟨go, hm⟩
  refine a0r 35 Y go (a0x Y (a0g (a0g (a0a (a0d Y Y Y (a0f fa24_2 Y Y Y (a0n ag9 Y Y g Y (i := 1) Y Y ?_)))))))
  obtain ⟨v2, iv, hm⟩ := Yb hm
  refine a2t ent71 Y Y Y Y (a6c _ _ _ _ iv g.sat (hg.mono hi)) (a4c Y Y Y (a0e (a0c ?_)))
  rcases a0h hm with ⟨gp, hm⟩ | ⟨gp, hm⟩
  refine a0r 42 Y gp (a0x Y (a0g (a0a (a0b Y Y Y (a0b Y Y Y (a0e (a0c (a1c (a0j (a0t (a0j (a1q (vl := [.int .i64 0, .int .i64 11]) Y ⟨a1p Y, a1p Y, trivial⟩ (by simp) ?_))))))))))))
  obtain rfl := Yo hm
  exact ⟨_, _, _, Y, g.Yp [] Y Y, Y, Y⟩
  refine a0r 42 Y gp (a0p Y (a1b (a0c (a0g (a0g (a0a (a0f fa24_0 Y Y Y (a0n ag3 Y Y g Y (i := 1) Y Y (a0u Y Y Y Y Y (a0e (a0c ?_)))))))))))
  rcases a0h hm with ⟨gq, hm⟩ | ⟨gq, hm⟩
  refine a0r 45 Y gq (a0x Y (a0g (a0a (a0b Y Y Y (a0b Y Y Y (a0e (a0c (a1c (a0j (a0t (a0j (a1q (vl := [.int .i64 2, .int .i64 0]) Y ⟨a1p Y, a1p Y, trivial⟩ (by simp) ?_))))))))))))
  obtain rfl := Yo hm
  exact ⟨_, _, _, Y, g.Yp [] Y Y, Y, Y⟩
  refine a0r 45 Y gq (a0p Y (a1b (a0c (a0g (a0a (a0b Y Y Y (a0b Y Y Y (a0e (a0c (a1c (a0t (a0j (a1q (vl := [.int .i64 1, .int .i64 0]) Y ⟨a1p Y, a1p Y, trivial⟩ (by simp) ?_)))))))))))))
  obtain rfl := Yo hm
  exact ⟨_, _, _, Y, g.Yp [] Y Y, Y, Y⟩
  refine a0r 35 Y go (a0p Y (a0g (a0g (a0a (a0u Y Y Y Y Y (a0b Y Y Y (a0e (a0c ?_))))))))
  obtain ⟨v3, z, hm⟩ := Yb hm
  refine a6f (fun a w' => V = w' ∧ Has 113 a [(2, .pointer (some ⟨b1, 0, none⟩)), (6, .slice J x o), (34, .int .i64 x1.Op), (46, .bool v3)]) ?_ ?_
  rintro a kl ⟨rfl, ht⟩
  refine a1l ht ?_
  rcases a0h hm with ⟨gr, hm⟩ | ⟨gr, hm⟩
  refine a0r 46 Y gr (a0x Y (a0g (a0a (a0b Y Y Y (a0b Y Y Y (a0e (a0c (a1c (a0t (a0j (a1q (vl := [.int .i64 1, .int .i64 0]) Y ⟨a1p Y, a1p Y, trivial⟩ (by simp) ?_)))))))))))
  obtain rfl := Yo hm
  exact ⟨_, _, _, Y, g.Yp [] Y Y, Y, Y⟩
  refine a0r 46 Y gr (a0p Y (a0g (a0g (a0a (a0u Y Y Y Y Y (a0b Y Y Y (a0e (a0c ?_))))))))
  obtain ⟨v4, g0, hm⟩ := Yb hm
  refine a6f (fun a w' => V = w' ∧ Has 113 a [(2, .pointer (some ⟨b1, 0, none⟩)), (6, .slice J x o), (34, .int .i64 x1.Op), (50, .bool v4)]) ?_ ?_
  rintro a km ⟨rfl, hu⟩
  refine a1l hu ?_
  rcases a0h hm with ⟨gs, hm⟩ | ⟨gs, hm⟩
  refine a0r 50 Y gs (a0x Y (a0g (a0a (a0d Y Y Y ?_))))
  obtain ⟨kn, ko, hj, hsx1⟩ := a1g g (i := 0) Y k
  obtain ⟨v5, iw, hm⟩ := Yb hm
  refine a0i ent72 Y Y Y Y hj (b6o _ _ _ _ _ iw hj.sat hsx1) ?_
  rintro _ kp _ kq kr iy ⟨rfl, rfl⟩
  refine a0l Y Y Y Y (a0l Y Y Y Y (a0b Y Y Y (a0b Y Y Y (a0e (a0c (a1c (a0t (a0j (a1q (vl := [.int .i64 v5.1, .int .i64 v5.2]) Y ⟨a1p Y, a1p Y, trivial⟩ (by simp) ?_)))))))))
  obtain rfl := Yo hm
  exact ⟨_, _, _, Y, iy.Yp [] Y Y, Y, Y⟩
  refine a0r 50 Y gs (a0p Y (a0g (a0g (a0a (a0u Y Y Y Y Y (a0b Y Y Y (a0e (a0c ?_))))))))
  obtain ⟨v6, G, hm⟩ := Yb hm
  refine a6f (fun a w' => V = w' ∧ Has 113 a [(2, .pointer (some ⟨b1, 0, none⟩)), (6, .slice J x o), (34, .int .i64 x1.Op), (57, .bool v6)]) ?_ ?_
  rintro a ks ⟨rfl, hv⟩
  refine a1l hv ?_
  rcases a0h hm with ⟨g1, hm⟩ | ⟨g1, hm⟩
  refine a0r 57 Y g1 (a0x Y (a0g (a0a (a0d Y Y Y ?_))))
  obtain ⟨kt, ku, hk, hsx2⟩ := a1g g (i := 0) Y k
  obtain ⟨v7, iz, hm⟩ := Yb hm
  refine a0i ent72 Y Y Y Y hk (b6o _ _ _ _ _ iz hk.sat hsx2) ?_
  rintro _ kv _ kw kx j0 ⟨rfl, rfl⟩
  refine a0l Y Y Y Y (a0l Y Y Y Y (a0b Y Y Y (a0b Y Y Y (a0e (a0c (a1c (a0t (a0j (a1q (vl := [.int .i64 v7.1, .int .i64 v7.2]) Y ⟨a1p Y, a1p Y, trivial⟩ (by simp) ?_)))))))))
  obtain rfl := Yo hm
  exact ⟨_, _, _, Y, j0.Yp [] Y Y, Y, Y⟩
  refine a0r 57 Y g1 (a0p Y (a0g (a0a (a0u Y Y Y Y Y (a0b Y Y Y (a0e (a0c ?_)))))))
  rcases a0h hm with ⟨g2, hm⟩ | ⟨g2, hm⟩
  refine a0r 65 Y g2 (a0x Y (a0g (a0g (a0a (a0d Y Y Y ?_)))))
  obtain ⟨ex1, j1, hm⟩ := Yb hm
  refine a4y (r := (Rp.int .i64)) u28 sz3 Y Y g Y Y (p := 0) Y Y k j1 ?_
  intro b2 o1 H hw ho1 j2 hp1
  have j3 : H = [.int .i64 ex1] := j2
  subst j3
  refine a4q (j := 0) ag3 Y Y g Y (p := 0) Y Y hw ho1 hp1 Y (a0u Y Y Y Y Y (a0e (a0c ?_)))
  rcases a0h hm with ⟨g3, hm⟩ | ⟨g3, hm⟩
  refine a0r 70 Y g3 (a0x Y (a0g (a0a (a0b Y Y Y (a0b Y Y Y (a0e (a0c (a1c (a0j (a0t (a0j (a1q (vl := [.int .i64 0, .int .i64 13]) Y ⟨a1p Y, a1p Y, trivial⟩ (by simp) ?_))))))))))))
  obtain rfl := Yo hm
  exact ⟨_, _, _, Y, g.Yp [] Y Y, Y, Y⟩
  refine a0r 70 Y g3 (a0p Y (a1b (a0c (a0g (a3n (by kernel_rfl) (by kernel_rfl) g (a1e Y Y Y Y (fun _ _ _ _ => a0d Y Y Y Yn) ?_))))))
  obtain ⟨ex2, j4, hm⟩ := Yb hm
  obtain ⟨b3, o2, I, hx, ho2, j5, hp2, gy⟩ := a7c (P := Tryz.prog) (r := (Rp.int .i64)) u28 sz3 g (p := 0) Y Y k j4
  have j6 : I = [.int .i64 ex2] := j5
  subst j6
  refine a2s Y Y Y Y gy (a1e Y Y Y Y (fun _ _ _ hq => a4q (j := 0) ag3 Y Y hq Y (p := 0) Y Y hx ho2 hp2 Y Yn) (a1e Y Y Y Y (fun _ _ _ _ => a0d Y Y Y Yn) ?_))
  obtain ⟨ex3, j7, hm⟩ := Yb hm
  obtain ⟨b4, o3, U, hy, ho3, j8, hp3, gz⟩ := a7c (P := Tryz.prog) (r := (Rp.int .i64)) u28 sz3 g (p := 0) Y Y k j7
  have j9 : U = [.int .i64 ex3] := j8
  subst j9
  refine a2s Y Y Y Y gz (a1e Y Y Y Y (fun _ _ _ hq => a4q (j := 0) ag3 Y Y hq Y (p := 0) Y Y hy ho3 hp3 Y Yn) ?_)
  obtain ⟨v8, ja, hm⟩ := Yb hm
  refine b1x ent73 Y Y Y Y (fun _ _ hleq hq => b0e _ _ _ _ ja) (a1e Y Y Y Y (fun _ _ _ _ => a0l Y Y Y Y Yn) (a1e Y Y Y Y (fun _ _ _ _ => a0l Y Y Y Y Yn) (a1e Y Y Y Y (fun _ _ _ _ => a0b Y Y Y Yn) (a1e Y Y Y Y (fun _ _ _ _ => a0b Y Y Y Yn) (b0z ?_)))))
  rintro ky ⟨kz, l0, jb⟩
  refine a0c (a1c (a0t (a0j (a1q (vl := [.int .i64 v8.1, .int .i64 v8.2]) Y ⟨a1p Y, a1p Y, trivial⟩ (by simp) ?_))))
  obtain rfl := Yo hm
  exact ⟨_, _, _, Y, jb.Yp [] Y Y, Y, Y⟩
  refine a0r 65 Y g2 (a0p Y (a0g (a0a (a0u Y Y Y Y Y (a0b Y Y Y (a0e (a0c ?_)))))))
  rcases a0h hm with ⟨g4, hm⟩ | ⟨g4, hm⟩
  refine a0r 80 Y g4 (a0x Y (a0g (a0a (a0d Y Y Y ?_))))
  obtain ⟨ex4, jc, hm⟩ := Yb hm
  refine a4y (r := (Rp.int .i64)) u28 sz3 Y Y g Y Y (p := 0) Y Y k jc ?_
  intro b5 o4 o hz ho4 jd hp4
  have je : o = [.int .i64 ex4] := jd
  subst je
  refine a4q (j := 0) ag3 Y Y g Y (p := 0) Y Y hz ho4 hp4 Y (a0u Y Y Y Y Y (a0d Y Y Y ?_))
  obtain ⟨v9, t, hm⟩ := Yb hm
  refine a2g 5 (fun a w' => V = w' ∧ Has 113 a [(6, .slice J x o), (91, .bool v9)]) ?_ ?_
  rintro a k4 ⟨rfl, h0⟩
  refine a1d h0 (a0e (a0c ?_))
  rcases a0h hm with ⟨g5, hm⟩ | ⟨g5, hm⟩
  refine a0r 91 Y g5 (a0x Y (a0g (a0a (a0b Y Y Y (a0b Y Y Y (a0e (a0c (a1c (a0t (a0j (a1q (vl := [.int .i64 0, .int .i64 13]) Y ⟨a1p Y, a1p Y, trivial⟩ (by simp) ?_)))))))))))
  obtain rfl := Yo hm
  exact ⟨_, _, _, Y, g.Yp [] Y Y, Y, Y⟩
  refine a0r 91 Y g5 (a0p Y (a1b (a1o (a0c (a0g (a3n (by kernel_rfl) (by kernel_rfl) g (a1e Y Y Y Y (fun _ _ _ _ => a0d Y Y Y Yn) ?_)))))))
  obtain ⟨ex5, jf, hm⟩ := Yb hm
  obtain ⟨b6, o5, hl, h1, ho5, jg, hp5, h2⟩ := a7c (P := Tryz.prog) (r := (Rp.int .i64)) u28 sz3 g (p := 0) Y Y k jf
  have jh : hl = [.int .i64 ex5] := jg
  subst jh
  refine a2s Y Y Y Y h2 (a1e Y Y Y Y (fun _ _ _ hq => a4q (j := 0) ag3 Y Y hq Y (p := 0) Y Y h1 ho5 hp5 Y Yn) (a1e Y Y Y Y (fun _ _ _ _ => a0d Y Y Y Yn) ?_))
  obtain ⟨ex6, ji, hm⟩ := Yb hm
  obtain ⟨b7, o6, hn, h3, ho6, jj, hp6, h4⟩ := a7c (P := Tryz.prog) (r := (Rp.int .i64)) u28 sz3 g (p := 0) Y Y k ji
  have jk : hn = [.int .i64 ex6] := jj
  subst jk
  refine a2s Y Y Y Y h4 (a1e Y Y Y Y (fun _ _ _ hq => a4q (j := 0) ag3 Y Y hq Y (p := 0) Y Y h3 ho6 hp6 Y Yn) ?_)
  obtain ⟨v10, jl, hm⟩ := Yb hm
  refine b1x ent73 Y Y Y Y (fun _ _ hleq hq => b0e _ _ _ _ jl) (a1e Y Y Y Y (fun _ _ _ _ => a0l Y Y Y Y Yn) (a1e Y Y Y Y (fun _ _ _ _ => a0l Y Y Y Y Yn) (a1e Y Y Y Y (fun _ _ _ _ => a0b Y Y Y Yn) (a1e Y Y Y Y (fun _ _ _ _ => a0b Y Y Y Yn) (b0z ?_)))))
  rintro k5 ⟨l4, l5, i0⟩
  refine a0c (a1c (a1q (vl := [.int .i64 v10.1, .int .i64 v10.2]) Y ⟨a1p Y, a1p Y, trivial⟩ (by simp) ?_))
  obtain rfl := Yo hm
  exact ⟨_, _, _, Y, i0.Yp [] Y Y, Y, Y⟩
  clear hm
  rcases a0h t with ⟨g6, t⟩ | ⟨g6, t⟩
  refine a1k 86 Y g6 (a0d Y Y Y ?_)
  obtain ⟨ex7, jm, t⟩ := Yb t
  refine a4y (r := (Rp.int .i64)) u28 sz3 Y Y g Y Y (p := 0) Y Y k jm ?_
  intro b8 o7 gt h5 ho7 jn hp7
  have jo : gt = [.int .i64 ex7] := jn
  subst jo
  refine a4q (j := 0) ag3 Y Y g Y (p := 0) Y Y h5 ho7 hp7 Y (a0u Y Y Y Y Y (a0s Y Y Y Y (a0e (a0k (fun a ha => ?_)))))
  cases t
  exact ⟨Y, ha.cut (l := [6, 91]) Y⟩
  refine a1k 86 Y g6 (a0y Y (by decide) Y (a0y Y (by decide) Y (a0y Y (by decide) Y (a0y Y (by decide) Y (a0m Y Y Y Y (a0e (a0k (fun a ha => ?_))))))))
  cases t
  exact ⟨Y, ha.cut (l := [6, 91]) Y⟩
  refine a0r 80 Y g4 (a0p Y (a0g (a0a (a0u Y Y Y Y Y (a0b Y Y Y (a0e (a0c ?_)))))))
  rcases a0h hm with ⟨g7, hm⟩ | ⟨g7, hm⟩
  refine a0r 92 Y g7 (a0x Y (a0g (a0a (a0f fa24_3 Y Y Y (a0n ag22 Y Y g Y (i := 1) Y Y ?_)))))
  obtain ⟨ex8, jp, hm⟩ := Yb hm
  refine a2r (r := rp_Expr) u22 sz24 Y Y Y Y (gn.mono hi) jp ?_
  intro b9 o8 l6 jq jr
  obtain ⟨l7, l8, hl, js, l9⟩ := expr_iff.1 jr
  subst js
  refine a3c ag24 sz24 Y Y g jq Y Y (a1h ze24 Y Y Y g ?_)
  intro b10 k6 i2
  refine a0o sz24 Y i2 Y Y Y Y (i := 0) Y Y Y Y ?_
  intro k7 u
  refine a0e (a0c (a0g (a0a (a0f fa24_0 Y Y Y (a0n ag3 Y Y u Y (i := 0) Y Y (a0u Y Y Y Y Y (a0e (a0c ?_))))))))
  rcases a0h hm with ⟨g8, hm⟩ | ⟨g8, hm⟩
  refine a0r 100 Y g8 (a0x Y (a0g (a0a (a0b Y Y Y (a0b Y Y Y (a0e (a0c (a1c (a0t (a0j (a1q (vl := [.int .i64 0, .int .i64 13]) Y ⟨a1p Y, a1p Y, trivial⟩ (by simp) ?_)))))))))))
  obtain rfl := Yo hm
  exact ⟨_, _, _, Y, u.Yp [] Y Y, Y, Y⟩
  refine a0r 100 Y g8 (a0p Y (a0g (a0a (a0f fa24_1 Y Y Y (a0n ag3 Y Y u Y (i := 0) Y Y (a0u Y Y Y Y Y (a0e (a0c ?_))))))))
  rcases a0h hm with ⟨g9, hm⟩ | ⟨g9, hm⟩
  refine a0r 103 Y g9 (a0x Y (a0g (a0a (a0b Y Y Y (a0b Y Y Y (a0e (a0c (a1c (a0t (a0j (a1q (vl := [.int .i64 0, .int .i64 14]) Y ⟨a1p Y, a1p Y, trivial⟩ (by simp) ?_)))))))))))
  obtain rfl := Yo hm
  exact ⟨_, _, _, Y, u.Yp [] Y Y, Y, Y⟩
  refine a0r 103 Y g9 (a0p Y (a1b (a1o (a0c (a0g (a3n (by kernel_rfl) (by kernel_rfl) u (a1e Y Y Y Y (fun _ _ _ _ => a0d Y Y Y Yn) ?_)))))))
  obtain ⟨ex9, jt, hm⟩ := Yb hm
  obtain ⟨b11, o9, ju, h6, ho8, jv, hp8, h7⟩ := a7c (P := Tryz.prog) (r := (Rp.int .i64)) u28 sz3 u (p := 1) Y Y k jt
  have jw : ju = [.int .i64 ex9] := jv
  subst jw
  refine a2s Y Y Y Y h7 (a1e Y Y Y Y (fun _ _ _ hq => a4q (j := 0) ag3 Y Y hq Y (p := 1) Y Y h6 ho8 hp8 Y Yn) (a1e Y Y Y Y (fun _ _ _ _ => a0d Y Y Y Yn) ?_))
  obtain ⟨ex10, i3, hm⟩ := Yb hm
  obtain ⟨b12, o10, i4, h8, ho9, i5, hp9, h9⟩ := a7c (P := Tryz.prog) (r := (Rp.int .i64)) u28 sz3 u (p := 1) Y Y k i3
  have i6 : i4 = [.int .i64 ex10] := i5
  subst i6
  refine a2s Y Y Y Y h9 (a1e Y Y Y Y (fun _ _ _ hq => a4q (j := 0) ag3 Y Y hq Y (p := 1) Y Y h8 ho9 hp9 Y Yn) ?_)
  obtain ⟨v11, jx, hm⟩ := Yb hm
  refine b1x ent73 Y Y Y Y (fun _ _ hleq hq => b0e _ _ _ _ jx) (a1e Y Y Y Y (fun _ _ _ _ => a0l Y Y Y Y Yn) (a1e Y Y Y Y (fun _ _ _ _ => a0l Y Y Y Y Yn) (a1e Y Y Y Y (fun _ _ _ _ => a0b Y Y Y Yn) (a1e Y Y Y Y (fun _ _ _ _ => a0b Y Y Y Yn) (b0z ?_)))))
  rintro k8 ⟨la, lb, i7⟩
  refine a0c (a1c (a1q (vl := [.int .i64 v11.1, .int .i64 v11.2]) Y ⟨a1p Y, a1p Y, trivial⟩ (by simp) ?_))
  obtain rfl := Yo hm
  exact ⟨_, _, _, Y, i7.Yp [] Y Y, Y, Y⟩
  refine a0r 92 Y g7 (a0p Y (a1b (a1o (a0c (a0g (a3n (by kernel_rfl) (by kernel_rfl) g (a1e Y Y Y Y (fun _ _ _ _ => a0d Y Y Y Yn) ?_)))))))
  obtain ⟨ex11, i8, hm⟩ := Yb hm
  obtain ⟨b13, o11, i9, hb, ho10, ia, hp10, hc⟩ := a7c (P := Tryz.prog) (r := (Rp.int .i64)) u28 sz3 g (p := 0) Y Y k i8
  have ib : i9 = [.int .i64 ex11] := ia
  subst ib
  refine a2s Y Y Y Y hc (a1e Y Y Y Y (fun _ _ _ hq => a4q (j := 0) ag3 Y Y hq Y (p := 0) Y Y hb ho10 hp10 Y Yn) (a1e Y Y Y Y (fun _ _ _ _ => a0d Y Y Y Yn) ?_))
  obtain ⟨ex12, ic, hm⟩ := Yb hm
  obtain ⟨b14, o12, ie, hd, ho11, ig, hp11, he⟩ := a7c (P := Tryz.prog) (r := (Rp.int .i64)) u28 sz3 g (p := 0) Y Y k ic
  have ii : ie = [.int .i64 ex12] := ig
  subst ii
  refine a2s Y Y Y Y he (a1e Y Y Y Y (fun _ _ _ hq => a4q (j := 0) ag3 Y Y hq Y (p := 0) Y Y hd ho11 hp11 Y Yn) ?_)
  obtain ⟨v12, jy, hm⟩ := Yb hm
  refine b1x ent73 Y Y Y Y (fun _ _ hleq hq => b0e _ _ _ _ jy) (a1e Y Y Y Y (fun _ _ _ _ => a0l Y Y Y Y Yn) (a1e Y Y Y Y (fun _ _ _ _ => a0l Y Y Y Y Yn) (a1e Y Y Y Y (fun _ _ _ _ => a0b Y Y Y Yn) (a1e Y Y Y Y (fun _ _ _ _ => a0b Y Y Y Yn) (b0z ?_)))))
  rintro k9 ⟨ka, kb, ij⟩
  refine a0c (a1c (a1q (vl := [.int .i64 v12.1, .int .i64 v12.2]) Y ⟨a1p Y, a1p Y, trivial⟩ (by simp) ?_))
  obtain rfl := Yo hm
  exact ⟨_, _, _, Y, ij.Yp [] Y Y, Y, Y⟩
  clear hm
  rcases a0h G with ⟨ga, G⟩ | ⟨ga, G⟩
  refine a0r 57 Y ga (a0x Y (a1b (a0k (fun a ha => ?_))))
  cases G
  exact ⟨Y, ha.cut (l := [2, 6, 34, 57]) Y⟩
  refine a0r 57 Y ga (a0p Y (a0g (a0a (a0u Y Y Y Y Y (a0b Y Y Y (a0e (a0c ?_)))))))
  rcases a0h G with ⟨gb, G⟩ | ⟨gb, G⟩
  refine a0r 57 Y gb (a0x Y (a1b (a0k (fun a ha => ?_))))
  cases G
  exact ⟨Y, ha.cut (l := [2, 6, 34, 57]) Y⟩
  refine a0r 57 Y gb (a0p Y (a0a (a0u Y Y Y Y Y (a0b Y Y Y (a0e (a0k (fun a ha => ?_)))))))
  cases G
  exact ⟨Y, ha.cut (l := [2, 6, 34, 57]) Y⟩
  clear hm
  rcases a0h g0 with ⟨gc, g0⟩ | ⟨gc, g0⟩
  refine a0r 50 Y gc (a0x Y (a1b (a0k (fun a ha => ?_))))
  cases g0
  exact ⟨Y, ha.cut (l := [2, 6, 34, 50]) Y⟩
  refine a0r 50 Y gc (a0p Y (a0a (a0u Y Y Y Y Y (a0b Y Y Y (a0e (a0k (fun a ha => ?_)))))))
  cases g0
  exact ⟨Y, ha.cut (l := [2, 6, 34, 50]) Y⟩
  clear hm
  rcases a0h z with ⟨gd, z⟩ | ⟨gd, z⟩
  refine a0r 46 Y gd (a0x Y (a1b (a0k (fun a ha => ?_))))
  cases z
  exact ⟨Y, ha.cut (l := [2, 6, 34, 46]) Y⟩
  refine a0r 46 Y gd (a0p Y (a0g (a0a (a0u Y Y Y Y Y (a0b Y Y Y (a0e (a0c ?_)))))))
  rcases a0h z with ⟨ge, z⟩ | ⟨ge, z⟩
  refine a0r 46 Y ge (a0x Y (a1b (a0k (fun a ha => ?_))))
  cases z
  exact ⟨Y, ha.cut (l := [2, 6, 34, 46]) Y⟩
  refine a0r 46 Y ge (a0p Y (a0a (a0u Y Y Y Y Y (a0b Y Y Y (a0e (a0k (fun a ha => ?_)))))))
  cases z
  exact ⟨Y, ha.cut (l := [2, 6, 34, 46]) Y⟩
  clear hm
  rcases a0h Z with ⟨gf, Z⟩ | ⟨gf, Z⟩
  refine a0r 35 Y gf (a0x Y (a1b (a0k (fun a ha => ?_))))
  cases Z
  exact ⟨Y, ha.cut (l := [1, 2, 6, 34, 35]) Y⟩
  refine a0r 35 Y gf (a0p Y (a0a (a0u Y Y Y Y Y (a0b Y Y Y (a0e (a0k (fun a ha => ?_)))))))
  cases Z
  exact ⟨Y, ha.cut (l := [1, 2, 6, 34, 35]) Y⟩
  clear hm hkont1; intro hk1 mx1 K ihx1
  rintro ⟨i1, l1⟩ a kc hm ⟨gj, gk, T, U, xss3, gm, gu, ho, hf⟩
  simp only [a8b] at hm
  refine a1l hf (a0g (a0a (a0u Y Y Y Y Y (a0e (a0c (a0g ?_))))))
  rcases a0h hm with ⟨gg, hm⟩ | ⟨gg, hm⟩
  refine a0r 16 Y gg (a0x Y (a1b (a0c (a0g (a1j (a0g (a0a ?_)))))))
  obtain ⟨ex13, ik, hm⟩ := Yb hm
  refine a2r (r := rp_Expr) u22 sz24 Y Y Y Y (gn.mono gm) ik ?_
  intro b15 o13 kd jz il
  obtain ⟨lc, ld, hn, im, k0⟩ := expr_iff.1 il
  subst im
  refine a3c ag24 sz24 Y Y gu jz Y Y (a1h ze24 Y Y Y gu ?_)
  intro b16 ke io
  refine a0o sz24 Y io Y Y Y Y (i := 0) Y Y Y Y ?_
  intro kf gh
  refine a0e (a0c (a0g (a0a (a0q ag24 sz24 Y Y gh Y (i := 0) Y Y (a0d Y Y Y ?_)))))
  obtain ⟨v13, k1, hm⟩ := Yb hm
  refine a0i ent43 Y Y Y Y gh (ih _ _ _ k1 gh.sat k0 (hg.mono gm)) ?_
  rintro _ ip _ kg gv gw ⟨rfl, rfl⟩
  refine a0d Y Y Y (a0l Y Y Y Y (a0l Y Y Y Y (a0b Y Y Y (a0b Y Y Y (a0e (a0c (a0g (a0g (a0a (a0d Y Y Y (a0u Y Y Y Y Y (a0e (a0c ?_)))))))))))))
  rcases a0h hm with ⟨gi, hm⟩ | ⟨gi, hm⟩
  refine a0r 26 Y gi (a0x Y (a0g (a0a (a0d Y Y Y (a0b Y Y Y (a0b Y Y Y (a0e (a0c (a1c (a0j (a0t (a0j (a0j (a0t (a0j (a1q (vl := [.int .i64 0, .int .i64 v13.2]) Y ⟨a1p Y, a1p Y, trivial⟩ (by simp) ?_))))))))))))))))
  obtain rfl := Yo hm
  exact ⟨_, _, _, Y, gw.Yp [] Y Y, Y, Y⟩
  refine a0r 26 Y gi (a0p Y (a1b (a0c (a0a (a0d Y Y Y (a0d Y Y Y (a1f (e := 3) (cs := [.int .i64 v13.1]) (q := 1) Y Y gw Y (fun _ => by kernel_rfl) Y Y ?_)))))))
  intro b17 kh iq
  obtain ⟨l3, ir, hm⟩ := Yb hm
  refine a4n (r := (Rp.int .i64)) ap28 Y Y iq Y Y (i := 2) (j := 0) Y Y (ho.mono gv) ((show RowN (Rp.int .i64) ip 1 [.int .i64 v13.1] [v13.1] from ⟨Y, ⟨_, _, Y, Y, (Y : RowR (Rp.int .i64) _ [] [])⟩⟩)) ir ?_
  intro k2 gt ki it k3
  refine a0b Y Y Y (a0e (a1o (a0c (a0a (a0u Y Y Y Y Y (a0d Y Y Y (a0e (a0k (fun a ha => ihx1 ((iadd .i64 i1 1), l3) a _ hm ?_)))))))))
  exact ⟨_, k2, (T + 1), gt, (xss3 ++ [.int .i64 v13.1]), (gm.trans gv), it.Yp [2, 3] Y Y, k3, ha.cut (l := [1, 2, 6, 13, 14, 15]) Y⟩
  refine a0r 16 Y gg (a0p Y (a3p (a0w (a0w (fun a ha => hk1 l1 a _ hm ?_)))))
  exact ⟨_, gk, T, U, xss3, gm, gu.Yp [0, 1] Y Y, ho, ha.cut (l := [1, 2, 6]) Y⟩
theorem c0o (n : Nat) (x1 : Expr) (names1 : (List Bs)) (r : (Int × Int)) (hm : tariff_typed n x1 names1 = some r) {w : World} {F : Frz} (hs : Sat F w) {g h : Option Addr} {i j k l : Nat} (m : SlR rp_Expr F g i j x1.Args) (o : SlR Rp.str F h k l names1) :
  Calls Tryz.prog 43 #[.agg #[.int .i64 x1.Op, .int .i64 x1.N, vs x1.Name, .slice g i j], .slice h k l] w fun e w' => ∃ v F' O', e = .returned v ∧ HS F w [] F' O' w' ∧ (v = .tuple #[.int .i64 r.1, .int .i64 r.2] ∧ O' = []) :=
 (b8d n) x1 names1 r hm hs m o
def a1u (n : Nat) (s1 : (List Expr)) (f1 : (Expr → Option Bool)) (kont1 : Option Int) : Nat → Int → Option Int
 | 0, _ => none
 | mx1 + 1, i1 =>
  bif decide (i1 < (s1.length : Int)) then
   (ix s1 i1).bind fun ex1 =>
   (f1 ex1).bind fun v1 =>
   bif v1 then
    some i1
   else
    a1u n s1 f1 kont1 mx1 (iadd .i64 i1 1)
  else
   kont1
theorem a2x (n : Nat) (s1 : (List Expr)) (f1 : (Expr → Option Bool)) (kont1 : Option Int) (mx1 : Nat) (i1 : Int) : a1u n s1 f1 kont1 (mx1 + 1) i1 =
  bif decide (i1 < (s1.length : Int)) then
   (ix s1 i1).bind fun ex1 =>
   (f1 ex1).bind fun v1 =>
   bif v1 then
    some i1
   else
    a1u n s1 f1 kont1 mx1 (iadd .i64 i1 1)
  else
   kont1 := rfl
def a3f (n : Nat) (s1 : (List Expr)) (f1 : (Expr → Option Bool)) : Option Int :=
 a1u n s1 f1 (
  some (-1)) n 0
theorem a8l (n : Nat) (s1 : (List Expr)) (f1 : (Expr → Option Bool)) (r : Int) (hm : a3f n s1 f1 = some r) {w : World} {F : Frz} (hs : Sat F w) {i : Option Addr} {j : Nat} {k : Nat} {fvf1 : Value} (x : SlR rp_Expr F i j k s1) (hpff1 : GFn Tryz.prog F fvf1 (fun F l v => ∃ (q0 : Expr) (a0_0 : Option Addr) (n0_0 : Nat) (c0_0 : Nat) (b : Bool), l = [.agg #[.int .i64 q0.Op, .int .i64 q0.N, vs q0.Name, .slice a0_0 n0_0 c0_0]] ∧ SlR rp_Expr F a0_0 n0_0 c0_0 q0.Args ∧ v = some (.bool b) ∧ f1 q0 = some b)) :
  Calls Tryz.prog 131 #[.slice i j k, fvf1] w fun e w' => ∃ v F' O', e = .returned v ∧ HS F w [] F' O' w' ∧ (v = .int .i64 r ∧ O' = []) := by
 unfold a3f at hm
 have h := HS.init hs
 refine a1a 19 Tryz.func131 Y Y Y (a0g (a0a (a0b Y Y Y (a0e (a0c (a0g (a0g (a0a (a0d Y Y Y (a1y x.len u22 Y Y Y (a0d Y Y Y (a0e (a0c (a1j ?_))))))))))))))
 intro a G
 obtain ⟨kont1, hkont1⟩ : ∃ kont1 : Option Int, kont1 = ( some (-1)) := ⟨_, Y⟩
 replace hm : (fun m (s : Int) => a1u n s1 f1 kont1 m s) n 0 = some r := by rw [hkont1]; exact hm
 refine a5j (id := 0) (fun m (s : Int) => a1u n s1 f1 kont1 m s) (fun (y : Unit) => kont1) r (fun (s : Int) a w' => ∃ (o : Frz), Frz.le F o ∧ HS F w [] o [] w' ∧ Has 19 a [(0, .slice i j k), (1, fvf1), (7, .int .i64 (s1.length : Int)), (8, .int .i64 s)]) (fun (y : Unit) a w' => ∃ (p : Frz), Frz.le F p ∧ HS F w [] p [] w' ∧ Has 19 a []) (fun _ => Y) ?_ ?_ hm ⟨_, Yf, h.Yp [] Y Y, G.cut (l := [0, 1, 7, 8]) Y⟩
 clear hm; rintro _u a Z hm ⟨p, g0, J, H⟩
 rw [hkont1] at hm
 refine a2c (e := .exit 0) H (a1m (a0c (a0g (a0a (a0b Y Y Y (a0e (a0c (a1c (a1n Y Y ?_)))))))))
 obtain rfl := Yo hm
 exact ⟨_, _, _, Y, J.Yp [] Y Y, Y, Y⟩
 clear hm hkont1; intro hk1 mx1 K ihx1
 rintro i1 a g1 hm ⟨o, g, q, I⟩
 simp only [a2x] at hm
 refine a1l I (a0g (a0a (a0u Y Y Y Y Y (a0e (a0c (a0g ?_))))))
 rcases a0h hm with ⟨t, hm⟩ | ⟨t, hm⟩
 refine a0r 9 Y t (a0x Y (a1b (a0c (a0g (a1j (a0g (a0a (a0d Y Y Y (a0b Y Y Y (a0e (a0c (a0g (a0a (a0d Y Y Y (a0d Y Y Y (a0d Y Y Y ?_))))))))))))))))
 obtain ⟨ex1, L, hm⟩ := Yb hm
 refine a2r (r := rp_Expr) u22 sz24 Y Y Y Y (x.mono g) L ?_
 intro b1 o1 g2 M Q
 obtain ⟨g3, g4, g5, R, T⟩ := expr_iff.1 Q
 subst R
 refine a3c ag24 sz24 Y Y q M Y Y ?_
 obtain ⟨v1, U, hm⟩ := Yb hm
 refine c3c (hpff1.mono g) Y Y Y Y q ⟨_, _, _, _, _, Y, T, Y, U⟩ ?_
 intro g6 g7 V z
 refine a0e (a0c ?_)
 rcases a0h hm with ⟨u, hm⟩ | ⟨u, hm⟩
 refine a0r 16 Y u (a0x Y (a0g (a0a (a0d Y Y Y (a0b Y Y Y (a0e (a0c (a1c (a0t (a0j (a0j (a0t (a0j (a1n Y Y ?_))))))))))))))
 obtain rfl := Yo hm
 exact ⟨_, _, _, Y, z.Yp [] Y Y, Y, Y⟩
 refine a0r 16 Y u (a0p Y (a1b (a1o (a0c (a0a (a0u Y Y Y Y Y (a0d Y Y Y (a0e (a0k (fun a ha => ihx1 (iadd .i64 i1 1) a _ hm ?_))))))))))
 exact ⟨_, (g.trans V), z.Yp [] Y Y, ha.cut (l := [0, 1, 7, 8]) Y⟩
 refine a0r 9 Y t (a0p Y (a3p (a0w (a0w (fun a ha => hk1 () a _ hm ?_)))))
 exact ⟨_, g, q.Yp [] Y Y, ha.cut (l := []) Y⟩
theorem ent131 : Ent Tryz.prog 131 := fun _ _ => by kernel_rfl
def a2d (n : Nat) (s1 : (List Expr)) (f1 : (Expr → Option Bool)) : Option Bool :=
 (a3f n s1 f1).bind fun v1 =>
 some (decide (0 ≤ v1))
theorem a7h (n : Nat) (s1 : (List Expr)) (f1 : (Expr → Option Bool)) (r : Bool) (hm : a2d n s1 f1 = some r) {w : World} {F : Frz} (hs : Sat F w) {g : Option Addr} {i : Nat} {j : Nat} {fvf1 : Value} (k : SlR rp_Expr F g i j s1) (hpff1 : GFn Tryz.prog F fvf1 (fun F l v => ∃ (q0 : Expr) (a0_0 : Option Addr) (n0_0 : Nat) (c0_0 : Nat) (b : Bool), l = [.agg #[.int .i64 q0.Op, .int .i64 q0.N, vs q0.Name, .slice a0_0 n0_0 c0_0]] ∧ SlR rp_Expr F a0_0 n0_0 c0_0 q0.Args ∧ v = some (.bool b) ∧ f1 q0 = some b)) :
  Calls Tryz.prog 111 #[.slice g i j, fvf1] w fun e w' => ∃ v F' O', e = .returned v ∧ HS F w [] F' O' w' ∧ (v = .bool r ∧ O' = []) := by
 unfold a2d at hm
 have h := HS.init hs
 refine a1a 9 Tryz.func111 Y Y Y (a0g (a0a (a0b Y Y Y (a0e (a0c (a0g (a0a (a0d Y Y Y (a0d Y Y Y ?_)))))))))
 obtain ⟨v1, m, hm⟩ := Yb hm
 refine a0i ent131 Y Y Y Y h (a8l _ _ _ _ m h.sat k hpff1) ?_
 rintro _ p _ q s o ⟨rfl, rfl⟩
 refine a0u Y Y Y Y Y (a0b Y Y Y (a0e (a0c (a1c (a1n Y Y ?_)))))
 obtain rfl := Yo hm
 exact ⟨_, _, _, Y, o.Yp [] Y Y, Y, Y⟩
theorem ent112 : Ent Tryz.prog 112 := fun _ _ => by kernel_rfl
theorem ent111 : Ent Tryz.prog 111 := fun _ _ => by kernel_rfl
theorem ent110 : Ent Tryz.prog 110 := fun _ _ => by kernel_rfl
theorem ent88 : Ent Tryz.prog 88 := fun _ _ => by kernel_rfl
mutual
def tariff_shaped : Nat → Expr → Option Bool
 | 0, _ => none
 | n + 1, x1 =>
  (bif decide (x1.Op < 0) then
   some true
  else
   some (decide (17 ≤ x1.Op))).bind fun v1 =>
  (bif v1 then
   some true
  else
   (b0b n x1.Op).bind fun v11 =>
   some ((x1.Args.length : Int) != v11)).bind fun v2 =>
  bif v2 then
   some false
  else
   bif x1.Op == 0 then
    (bif decide (0 ≤ x1.N) then
     some (decide (x1.N ≤ 1099511627776))
    else
     some false).bind fun v3 =>
    (bif v3 then
     some (x1.Name == [])
    else
     some false).bind fun v4 =>
    some v4
   else
    (bif x1.Op == 1 then
     some true
    else
     some (x1.Op == 4)).bind fun v5 =>
    bif v5 then
     (bif x1.N == 0 then
      (a5i n x1.Name).bind fun v7 =>
      some v7
     else
      some false).bind fun v6 =>
     some v6
    else
     (bif x1.N == 0 then
      some (x1.Name == [])
     else
      some false).bind fun v8 =>
     (bif v8 then
      (a2d n x1.Args (tariff_shaped_1 n)).bind fun v10 =>
      some (!v10)
     else
      some false).bind fun v9 =>
     some v9
def tariff_shaped_1 : Nat → Expr → Option Bool
 | 0, _ => none
 | n + 1, ax1 =>
  (tariff_shaped n ax1).bind fun v1 =>
  some (!v1)
 end
theorem b4d (n : Nat) (x1 : Expr) : tariff_shaped (n + 1) x1 =
  (bif decide (x1.Op < 0) then
   some true
  else
   some (decide (17 ≤ x1.Op))).bind fun v1 =>
  (bif v1 then
   some true
  else
   (b0b n x1.Op).bind fun v11 =>
   some ((x1.Args.length : Int) != v11)).bind fun v2 =>
  bif v2 then
   some false
  else
   bif x1.Op == 0 then
    (bif decide (0 ≤ x1.N) then
     some (decide (x1.N ≤ 1099511627776))
    else
     some false).bind fun v3 =>
    (bif v3 then
     some (x1.Name == [])
    else
     some false).bind fun v4 =>
    some v4
   else
    (bif x1.Op == 1 then
     some true
    else
     some (x1.Op == 4)).bind fun v5 =>
    bif v5 then
     (bif x1.N == 0 then
      (a5i n x1.Name).bind fun v7 =>
      some v7
     else
      some false).bind fun v6 =>
     some v6
    else
     (bif x1.N == 0 then
      some (x1.Name == [])
     else
      some false).bind fun v8 =>
     (bif v8 then
      (a2d n x1.Args (tariff_shaped_1 n)).bind fun v10 =>
      some (!v10)
     else
      some false).bind fun v9 =>
     some v9 := rfl
theorem b2t (n : Nat) (ax1 : Expr) : tariff_shaped_1 (n + 1) ax1 =
 (tariff_shaped n ax1).bind fun v1 =>
 some (!v1) := rfl
theorem b6x (n : Nat) : (∀ (x1 : Expr) (r : Bool) (_ : tariff_shaped n x1 = some r) {w : World} {F : Frz} (_ : Sat F w) {m : Option Addr} {o : Nat} {p : Nat} (_ : SlR rp_Expr F m o p x1.Args), Calls Tryz.prog 88 #[.agg #[.int .i64 x1.Op, .int .i64 x1.N, vs x1.Name, .slice m o p]] w fun e w' => ∃ v F' O', e = .returned v ∧ HS F w [] F' O' w' ∧ (v = .bool r ∧ O' = [])) ∧
  (∀ (ax1 : Expr) (r : Bool) (_ : tariff_shaped_1 n ax1 = some r) {w : World} {F : Frz} (_ : Sat F w) {m : Option Addr} {o : Nat} {p : Nat} (_ : SlR rp_Expr F m o p ax1.Args), Calls Tryz.prog 112 #[.agg #[.int .i64 ax1.Op, .int .i64 ax1.N, vs ax1.Name, .slice m o p]] w fun e w' => ∃ v F' O', e = .returned v ∧ HS F w [] F' O' w' ∧ (v = .bool r ∧ O' = [])) := by
 induction n with
 | zero =>
  refine ⟨?_, ?_⟩
  ·intro x1 r hm
   exact absurd (show (none : Option Bool) = some r from hm) (by simp)
  ·intro ax1 r hm
   exact absurd (show (none : Option Bool) = some r from hm) (by simp)
 | succ n ih =>
  refine ⟨?_, ?_⟩
  ·intro x1 r hm w F hs m o p R
   rw [b4d] at hm
   have h := HS.init hs
   refine a1a 62 Tryz.func88 Y Y Y (a0g (a0a (a2z Y Y Y Y h ?_)))
   intro b1 gc t
   refine a0b Y Y Y (a0e (a0c (a0g (a0g (a3n (by kernel_rfl) (by kernel_rfl) t (a1e Y Y Y Y (fun _ _ _ _ => a0f fa24_0 Y Y Y Yn) (a1e Y Y Y Y (fun _ _ _ hq => a0n ag3 Y Y hq Y (i := 0) Y Y Yn) (a1e Y Y Y Y (fun _ _ _ _ => a0u Y Y Y Y Y Yn) (a1e Y Y Y Y (fun _ _ _ _ => a0d Y Y Y Yn) ?_)))))))))
   obtain ⟨v1, u, hm⟩ := Yb hm
   refine c4x 4 (fun a => Has 62 a [(1, .pointer (some ⟨b1, 0, none⟩)), (10, .bool v1)]) ?_ ?_
   ·intro a g4
    refine b3m g4 (a1e Y Y Y Y (fun _ _ _ _ => a0d Y Y Y Yn) ?_)
    obtain ⟨v2, q, hm⟩ := Yb hm
    refine c4x 8 (fun a => Has 62 a [(1, .pointer (some ⟨b1, 0, none⟩)), (19, .bool v2)]) ?_ ?_
    ·intro a g5
     refine b3m g5 (b0z ?_)
     rintro x ⟨g2, g3, g⟩
     refine a0c ?_
     rcases a0h hm with ⟨T, hm⟩ | ⟨T, hm⟩
     ·refine a0r 19 rfl T ?_
      refine a0x Y (a0g (a0a (a0b Y Y Y (a0e (a0c (a1c (a0j (a1n Y Y ?_))))))))
      obtain rfl := Yo hm
      exact ⟨_, _, _, Y, g.Yp [] Y Y, Y, Y⟩
     ·refine a0r 19 rfl T ?_
      refine a0p Y (a1b (a0c (a0g (a0g (a0a (a0f fa24_0 Y Y Y (a0n ag3 Y Y g Y (i := 0) Y Y (a0e (a0c (a1j (a0g (a0a (a0u Y Y Y Y Y (a0b Y Y Y (a0e (a0c ?_))))))))))))))))
      rcases a0h hm with ⟨U, hm⟩ | ⟨U, hm⟩
      ·refine a0r 22 rfl U ?_
       refine a0x Y (a0g (a0a (a0f fa24_1 Y Y Y (a0n ag3 Y Y g Y (i := 0) Y Y (a0u Y Y Y Y Y (a0d Y Y Y ?_))))))
       obtain ⟨v3, y, hm⟩ := Yb hm
       refine a2g 4 (fun a w' => x = w' ∧ Has 62 a [(1, .pointer (some ⟨b1, 0, none⟩)), (31, .bool v3)]) ?_ ?_
       ·rintro a gk ⟨rfl, g6⟩
        refine a1d g6 (a0d Y Y Y ?_)
        obtain ⟨v4, z, hm⟩ := Yb hm
        refine a2g 4 (fun a w' => x = w' ∧ Has 62 a [(36, .bool v4)]) ?_ ?_
        ·rintro a gl ⟨rfl, g7⟩
         refine a1d g7 (a0b Y Y Y (a0e (a0c (a1c (a0t (a0j (a1n Y Y ?_)))))))
         obtain rfl := Yo hm
         exact ⟨_, _, _, Y, g.Yp [] Y Y, Y, Y⟩
        ·clear hm
         rcases a0h z with ⟨V, z⟩ | ⟨V, z⟩
         ·refine a1k 32 rfl V ?_
          refine a0f fa24_2 Y Y Y (a0n ag9 Y Y g Y (i := 0) Y Y (b4m Y Y Y Y Y (a0s Y Y Y Y (a0e (a0k (fun a ha => ?_))))))
          cases z
          exact ⟨Y, ha.cut (l := [36]) Y⟩
         ·refine a1k 32 rfl V ?_
          refine a0y Y (by decide) Y (a0y Y (by decide) Y (a0y Y (by decide) Y (a0m Y Y Y Y (a0e (a0k (fun a ha => ?_))))))
          cases z
          exact ⟨Y, ha.cut (l := [36]) Y⟩
       ·clear hm
        rcases a0h y with ⟨Z, y⟩ | ⟨Z, y⟩
        ·refine a1k 27 rfl Z ?_
         refine a0f fa24_1 Y Y Y (a0n ag3 Y Y g Y (i := 0) Y Y (a0u Y Y Y Y Y (a0s Y Y Y Y (a0e (a0k (fun a ha => ?_))))))
         cases y
         exact ⟨Y, ha.cut (l := [1, 31]) Y⟩
        ·refine a1k 27 rfl Z ?_
         refine a0y Y (by decide) Y (a0y Y (by decide) Y (a0y Y (by decide) Y (a0m Y Y Y Y (a0e (a0k (fun a ha => ?_))))))
         cases y
         exact ⟨Y, ha.cut (l := [1, 31]) Y⟩
      ·refine a0r 22 rfl U ?_
       refine a0p Y (a0g (a0g (a0a (a0u Y Y Y Y Y (a0b Y Y Y (a0e (a0c ?_)))))))
       obtain ⟨v5, G, hm⟩ := Yb hm
       refine a6f (fun a w' => x = w' ∧ Has 62 a [(1, .pointer (some ⟨b1, 0, none⟩)), (37, .bool v5)]) ?_ ?_
       ·rintro a gm ⟨rfl, g8⟩
        refine a1l g8 ?_
        rcases a0h hm with ⟨H, hm⟩ | ⟨H, hm⟩
        ·refine a0r 37 rfl H ?_
         refine a0x Y (a0g (a0a (a0f fa24_1 Y Y Y (a0n ag3 Y Y g Y (i := 0) Y Y (a0u Y Y Y Y Y (a0d Y Y Y ?_))))))
         obtain ⟨v6, j, hm⟩ := Yb hm
         refine a2g 4 (fun a w' => x = w' ∧ Has 62 a [(47, .bool v6)]) ?_ ?_
         ·rintro a gn ⟨rfl, g9⟩
          refine a1d g9 (a0b Y Y Y (a0e (a0c (a1c (a0t (a0j (a1n Y Y ?_)))))))
          obtain rfl := Yo hm
          exact ⟨_, _, _, Y, g.Yp [] Y Y, Y, Y⟩
         ·clear hm
          rcases a0h j with ⟨I, j⟩ | ⟨I, j⟩
          ·refine a1k 43 rfl I ?_
           refine a0f fa24_2 Y Y Y (a0n ag9 Y Y g Y (i := 0) Y Y ?_)
           obtain ⟨v7, g0, j⟩ := Yb j
           refine a2t ent54 Y Y Y Y (b1e _ _ _ g0) (a0s Y Y Y Y (a0e (a0k (fun a ha => ?_))))
           cases j
           exact ⟨Y, ha.cut (l := [47]) Y⟩
          ·refine a1k 43 rfl I ?_
           refine a0y Y (by decide) Y (a0y Y (by decide) Y (a0y Y (by decide) Y (a0m Y Y Y Y (a0e (a0k (fun a ha => ?_))))))
           cases j
           exact ⟨Y, ha.cut (l := [47]) Y⟩
        ·refine a0r 37 rfl H ?_
         refine a0p Y (a1b (a1o (a0c (a0g (a0a (a0f fa24_1 Y Y Y (a0n ag3 Y Y g Y (i := 0) Y Y (a0u Y Y Y Y Y (a0d Y Y Y ?_)))))))))
         obtain ⟨v8, s, hm⟩ := Yb hm
         refine a2g 4 (fun a w' => x = w' ∧ Has 62 a [(1, .pointer (some ⟨b1, 0, none⟩)), (55, .bool v8)]) ?_ ?_
         ·rintro a go ⟨rfl, ga⟩
          refine a1d ga (a0d Y Y Y ?_)
          obtain ⟨v9, k, hm⟩ := Yb hm
          refine a2g 5 (fun a w' => ∃ (g1 : Frz), Frz.le g2 g1 ∧ HS F w [] g1 [.box b1 24 [.int .i64 x1.Op, .int .i64 x1.N, vs x1.Name, .slice m o p]] w' ∧ Has 62 a [(61, .bool v9)]) ?_ ?_
          ·rintro a gi ⟨g1, gp, gd, gb⟩
           refine a1d gb (a0b Y Y Y (a0e (a0c (a1c (a1n Y Y ?_)))))
           obtain rfl := Yo hm
           exact ⟨_, _, _, Y, gd.Yp [] Y Y, Y, Y⟩
          ·clear hm
           rcases a0h k with ⟨J, k⟩ | ⟨J, k⟩
           ·refine a1k 56 rfl J ?_
            refine a0f fa24_3 Y Y Y (a0n ag22 Y Y g Y (i := 0) Y Y ?_)
            obtain ⟨v10, ge, k⟩ := Yb k
            refine a0i ent111 Y Y Y Y g (a7h _ _ _ _ ge g.sat (R.mono g3) (show GFn Tryz.prog _ (.func (.func 112) #[] #[]) (fun F l v => ∃ (q0 : Expr) (a0_0 : Option Addr) (n0_0 : Nat) (c0_0 : Nat) (b : Bool), l = [.agg #[.int .i64 q0.Op, .int .i64 q0.N, vs q0.Name, .slice a0_0 n0_0 c0_0]] ∧ SlR rp_Expr F a0_0 n0_0 c0_0 q0.Args ∧ v = some (.bool b) ∧ (tariff_shaped_1 n) q0 = some b) from ⟨112, #[], Y, ent112, fun F' hF' args r w hsat h => by
                               obtain ⟨q0, a0_0, n0_0, c0_0, b, rfl, hs0_0, hv, hb⟩ := h
                               obtain rfl := Yo hv
                               exact (ih.2 q0 _ hb hsat hs0_0).mono (by rintro _ _ ⟨v, F2, O', h1, h2, rfl, rfl⟩; exact ⟨_, F2, _, h1, h2, rfl, rfl⟩)⟩)) ?_
            rintro _ gq _ gj gf gg ⟨rfl, rfl⟩
            refine a4c Y Y Y (a0s Y Y Y Y (a0e (a0k (fun a ha => ?_))))
            cases k
            exact ⟨_, gf, gg.Yp [0] Y Y, ha.cut (l := [61]) Y⟩
           ·refine a1k 56 rfl J ?_
            refine a0y Y (by decide) Y (a0y Y (by decide) Y (a0y Y (by decide) Y (a0y Y (by decide) Y (a0m Y Y Y Y (a0e (a0k (fun a ha => ?_)))))))
            cases k
            exact ⟨_, Yf, g.Yp [0] Y Y, ha.cut (l := [61]) Y⟩
         ·clear hm
          rcases a0h s with ⟨K, s⟩ | ⟨K, s⟩
          ·refine a1k 51 rfl K ?_
           refine a0f fa24_2 Y Y Y (a0n ag9 Y Y g Y (i := 0) Y Y (b4m Y Y Y Y Y (a0s Y Y Y Y (a0e (a0k (fun a ha => ?_))))))
           cases s
           exact ⟨Y, ha.cut (l := [1, 55]) Y⟩
          ·refine a1k 51 rfl K ?_
           refine a0y Y (by decide) Y (a0y Y (by decide) Y (a0y Y (by decide) Y (a0m Y Y Y Y (a0e (a0k (fun a ha => ?_))))))
           cases s
           exact ⟨Y, ha.cut (l := [1, 55]) Y⟩
       ·clear hm
        rcases a0h G with ⟨L, G⟩ | ⟨L, G⟩
        ·refine a0r 37 rfl L ?_
         refine a0x Y (a1b (a0k (fun a ha => ?_)))
         cases G
         exact ⟨Y, ha.cut (l := [1, 37]) Y⟩
        ·refine a0r 37 rfl L ?_
         refine a0p Y (a0a (a0u Y Y Y Y Y (a0b Y Y Y (a0e (a0k (fun a ha => ?_))))))
         cases G
         exact ⟨Y, ha.cut (l := [1, 37]) Y⟩
    ·clear hm
     rcases a0h q with ⟨M, q⟩ | ⟨M, q⟩
     ·refine b6i 11 rfl M ?_
      refine a3q Y Y Y (a3q Y Y Y (a3q Y Y Y (a3q Y Y Y (a3q Y Y Y (a3q Y Y Y (a3q Y Y Y (a1e Y Y Y Y (fun _ _ _ _ => a0s Y Y Y Y Yn) (b6a (fun a ha => ?_)))))))))
      cases q
      exact ha.cut (l := [1, 19]) Y
     ·refine b6i 11 rfl M ?_
      refine a1e Y Y Y Y (fun _ _ _ _ => a0f fa24_3 Y Y Y Yn) (a1e Y Y Y Y (fun _ _ _ hq => a0n ag22 Y Y hq Y (i := 0) Y Y Yn) (a1e Y Y Y Y (fun _ _ _ _ => a1y R.len u22 Y Y Y Yn) (a1e Y Y Y Y (fun _ _ _ _ => a0f fa24_0 Y Y Y Yn) (a1e Y Y Y Y (fun _ _ _ hq => a0n ag3 Y Y hq Y (i := 0) Y Y Yn) ?_))))
      obtain ⟨v11, gh, q⟩ := Yb q
      refine b1x ent110 Y Y Y Y (fun _ _ hleq hq => c0s _ _ _ gh) (a1e Y Y Y Y (fun _ _ _ _ => a0u Y Y Y Y Y Yn) (a1e Y Y Y Y (fun _ _ _ _ => a0m Y Y Y Y Yn) (b6a (fun a ha => ?_))))
      cases q
      exact ha.cut (l := [1, 19]) Y
   ·clear hm
    rcases a0h u with ⟨Q, u⟩ | ⟨Q, u⟩
    ·refine b6i 6 rfl Q ?_
     refine a3q Y Y Y (a3q Y Y Y (a3q Y Y Y (a1e Y Y Y Y (fun _ _ _ _ => a0s Y Y Y Y Yn) (b6a (fun a ha => ?_)))))
     cases u
     exact ha.cut (l := [1, 10]) Y
    ·refine b6i 6 rfl Q ?_
     refine a1e Y Y Y Y (fun _ _ _ _ => a0f fa24_0 Y Y Y Yn) (a1e Y Y Y Y (fun _ _ _ hq => a0n ag3 Y Y hq Y (i := 0) Y Y Yn) (a1e Y Y Y Y (fun _ _ _ _ => a0u Y Y Y Y Y Yn) (a1e Y Y Y Y (fun _ _ _ _ => a0m Y Y Y Y Yn) (b6a (fun a ha => ?_)))))
     cases u
     exact ha.cut (l := [1, 10]) Y
  ·intro ax1 r hm w F hs m o p R
   rw [b2t] at hm
   have h := HS.init hs
   refine a1a 6 Tryz.func112 Y Y Y (a0g (a0a (a2z Y Y Y Y h ?_)))
   intro b1 gc t
   refine a0b Y Y Y (a0e (a0c (a0g (a0a (a0q ag24 sz24 Y Y t Y (i := 0) Y Y ?_)))))
   obtain ⟨v1, g0, hm⟩ := Yb hm
   refine a0i ent88 Y Y Y Y t (ih.1 _ _ g0 t.sat R) ?_
   rintro _ g2 _ gr g3 g ⟨rfl, rfl⟩
   refine a4c Y Y Y (a0b Y Y Y (a0e (a0c (a1c (a1n Y Y ?_)))))
   obtain rfl := Yo hm
   exact ⟨_, _, _, Y, g.Yp [] Y Y, Y, Y⟩
theorem b7u (n : Nat) (x1 : Expr) (r : Bool) (hm : tariff_shaped n x1 = some r) {w : World} {F : Frz} (hs : Sat F w) {g : Option Addr} {h : Nat} {i : Nat} (j : SlR rp_Expr F g h i x1.Args) :
  Calls Tryz.prog 88 #[.agg #[.int .i64 x1.Op, .int .i64 x1.N, vs x1.Name, .slice g h i]] w fun e w' => ∃ v F' O', e = .returned v ∧ HS F w [] F' O' w' ∧ (v = .bool r ∧ O' = []) :=
 (b6x n).1 x1 r hm hs j
theorem ze3 : b9o Tryz.prog 3 (.int .i64 0) := fun _ => by kernel_rfl
def b1h (n : Nat) (x1 : Expr) : Option Bool :=
 (tariff_sized n x1 10 100).bind fun v1 =>
 (bif v1.2 then
  (tariff_shaped n x1).bind fun v3 =>
  some v3
 else
  some false).bind fun v2 =>
 some v2
theorem c0r (n : Nat) (x1 : Expr) (r : Bool) (hm : b1h n x1 = some r) {w : World} {F : Frz} (hs : Sat F w) {m : Option Addr} {o : Nat} {p : Nat} (t : SlR rp_Expr F m o p x1.Args) :
  Calls Tryz.prog 55 #[.agg #[.int .i64 x1.Op, .int .i64 x1.N, vs x1.Name, .slice m o p]] w fun e w' => ∃ v F' O', e = .returned v ∧ HS F w [] F' O' w' ∧ (v = .bool r ∧ O' = []) := by
 unfold b1h at hm
 have h := HS.init hs
 refine a1a 10 Tryz.func55 Y Y Y (a0g (a0a (a2z Y Y Y Y h ?_)))
 intro b1 M x
 refine a0b Y Y Y (a0e (a0c (a0g (a0a (a1h ze3 Y Y Y x ?_)))))
 intro b2 Q y
 refine a0o sz3 Y y Y Y Y Y (i := 0) Y Y Y Y ?_
 intro R j
 refine a0e (a0c (a0g (a0a (a0q ag24 sz24 Y Y j Y (i := 1) Y Y ?_))))
 obtain ⟨v1, z, hm⟩ := Yb hm
 refine a2n ent32 Y Y Y Y j (i := 0) Y (b3u _ _ _ _ _ z j.sat t (j.get (i := 0) Y) (j.lendable (i := 0) Y)) ?_
 rintro _ G _ _ T H k ⟨rfl, rfl, rfl⟩
 refine a0d Y Y Y ?_
 obtain ⟨v2, g, hm⟩ := Yb hm
 refine a2g 3 (fun a w' => ∃ (q : Frz), Frz.le G q ∧ HS F w [] q [.box b2 3 [.int .i64 v1.1], .box b1 24 [.int .i64 x1.Op, .int .i64 x1.N, vs x1.Name, .slice m o p]] w' ∧ Has 10 a [(9, .bool v2)]) ?_ ?_
 rintro a U ⟨q, V, I, u⟩
 refine a1d u (a0b Y Y Y (a0e (a0c (a1c (a1n Y Y ?_)))))
 obtain rfl := Yo hm
 exact ⟨_, _, _, Y, I.Yp [] Y Y, Y, Y⟩
 clear hm
 rcases a0h g with ⟨s, g⟩ | ⟨s, g⟩
 refine a1k 6 Y s (a0q ag24 sz24 Y Y k Y (i := 1) Y Y ?_)
 obtain ⟨v3, J, g⟩ := Yb g
 refine a0i ent88 Y Y Y Y k (b7u _ _ _ J k.sat (t.mono H)) ?_
 rintro _ Z _ g0 K L ⟨rfl, rfl⟩
 refine a0s Y Y Y Y (a0e (a0k (fun a ha => ?_)))
 cases g
 exact ⟨_, K, L.Yp [0, 1] Y Y, ha.cut (l := [9]) Y⟩
 refine a1k 6 Y s (a0y Y (by decide) Y (a0y Y (by decide) Y (a0m Y Y Y Y (a0e (a0k (fun a ha => ?_))))))
 cases g
 exact ⟨_, Yf, k.Yp [0, 1] Y Y, ha.cut (l := [9]) Y⟩
structure Tariff where
 Name : Bs
 Fee : Expr
 Cap : Int
 deriving Inhabited
def rp_Tariff : Rp Tariff where
 k := 6
 R := fun F cs x => ∃ (a4 : Option Addr) (n4 : Nat) (c4 : Nat), cs = [vs x.Name, .int .i64 x.Fee.Op, .int .i64 x.Fee.N, vs x.Fee.Name, .slice a4 n4 c4, .int .i64 x.Cap] ∧ SlR rp_Expr F a4 n4 c4 x.Fee.Args
 len := by rintro F cs x ⟨a4, n4, c4, h, _⟩; simp [h]
 mono := by rintro F F' cs x hF ⟨a4, n4, c4, h, h0⟩; exact ⟨a4, n4, c4, h, h0.mono hF⟩
 one := by rintro F cs x ⟨a4, n4, c4, h, _⟩ u hu; subst h; simp at hu; rcases hu with rfl | rfl | rfl | rfl | rfl | rfl <;> rfl
theorem fa26_0 : a4v Tryz.prog 26 0 0 := fun _ _ _ => by kernel_rfl
theorem fa26_2 : a4v Tryz.prog 26 2 5 := fun _ _ _ => by kernel_rfl
theorem fa26_1 : a4v Tryz.prog 26 1 1 := fun _ _ _ => by kernel_rfl
theorem ent55 : Ent Tryz.prog 55 := fun _ _ => by kernel_rfl
def a6h (n : Nat) (t1 : Tariff) : Option Bool :=
 (a5i n t1.Name).bind fun v1 =>
 (bif v1 then
  (b1h n t1.Fee).bind fun v5 =>
  some v5
 else
  some false).bind fun v2 =>
 (bif v2 then
  some (decide ((-1) ≤ t1.Cap))
 else
  some false).bind fun v3 =>
 (bif v3 then
  some (decide (t1.Cap ≤ 1099511627776))
 else
  some false).bind fun v4 =>
 some v4
theorem b1y (n : Nat) (t1 : Tariff) (r : Bool) (hm : a6h n t1 = some r) {w : World} {F : Frz} (hs : Sat F w) {o : Option Addr} {p : Nat} {q : Nat} (J : SlR rp_Expr F o p q t1.Fee.Args) :
  Calls Tryz.prog 24 #[.agg #[vs t1.Name, .int .i64 t1.Fee.Op, .int .i64 t1.Fee.N, vs t1.Fee.Name, .slice o p q, .int .i64 t1.Cap]] w fun e w' => ∃ v F' O', e = .returned v ∧ HS F w [] F' O' w' ∧ (v = .bool r ∧ O' = []) := by
 unfold a6h at hm
 have h := HS.init hs
 refine a1a 21 Tryz.func24 Y Y Y (a0g (a0a (a2z Y Y Y Y h ?_)))
 intro b1 R j
 refine a0b Y Y Y (a0e (a0c (a0g (a0a (a0f fa26_0 Y Y Y (a0n ag9 Y Y j Y (i := 0) Y Y ?_))))))
 obtain ⟨v1, K, hm⟩ := Yb hm
 refine a2t ent54 Y Y Y Y (b1e _ _ _ K) (a0d Y Y Y ?_)
 obtain ⟨v2, g, hm⟩ := Yb hm
 refine a2g 4 (fun a w' => ∃ (s : Frz), Frz.le F s ∧ HS F w [] s [.box b1 26 [vs t1.Name, .int .i64 t1.Fee.Op, .int .i64 t1.Fee.N, vs t1.Fee.Name, .slice o p q, .int .i64 t1.Cap]] w' ∧ Has 21 a [(1, .pointer (some ⟨b1, 0, none⟩)), (10, .bool v2)]) ?_ ?_
 rintro a z ⟨s, T, t, G⟩
 refine a1d G (a0d Y Y Y ?_)
 obtain ⟨v3, k, hm⟩ := Yb hm
 refine a2g 4 (fun a w' => z = w' ∧ Has 21 a [(1, .pointer (some ⟨b1, 0, none⟩)), (15, .bool v3)]) ?_ ?_
 rintro a U ⟨rfl, H⟩
 refine a1d H (a0d Y Y Y ?_)
 obtain ⟨v4, m, hm⟩ := Yb hm
 refine a2g 4 (fun a w' => z = w' ∧ Has 21 a [(20, .bool v4)]) ?_ ?_
 rintro a V ⟨rfl, I⟩
 refine a1d I (a0b Y Y Y (a0e (a0c (a1c (a1n Y Y ?_)))))
 obtain rfl := Yo hm
 exact ⟨_, _, _, Y, t.Yp [] Y Y, Y, Y⟩
 clear hm
 rcases a0h m with ⟨u, m⟩ | ⟨u, m⟩
 refine a1k 16 Y u (a0f fa26_2 Y Y Y (a0n ag3 Y Y t Y (i := 0) Y Y (a0u Y Y Y Y Y (a0s Y Y Y Y (a0e (a0k (fun a ha => ?_)))))))
 cases m
 exact ⟨Y, ha.cut (l := [20]) Y⟩
 refine a1k 16 Y u (a0y Y (by decide) Y (a0y Y (by decide) Y (a0y Y (by decide) Y (a0m Y Y Y Y (a0e (a0k (fun a ha => ?_)))))))
 cases m
 exact ⟨Y, ha.cut (l := [20]) Y⟩
 clear hm
 rcases a0h k with ⟨x, k⟩ | ⟨x, k⟩
 refine a1k 11 Y x (a0f fa26_2 Y Y Y (a0n ag3 Y Y t Y (i := 0) Y Y (a0u Y Y Y Y Y (a0s Y Y Y Y (a0e (a0k (fun a ha => ?_)))))))
 cases k
 exact ⟨Y, ha.cut (l := [1, 15]) Y⟩
 refine a1k 11 Y x (a0y Y (by decide) Y (a0y Y (by decide) Y (a0y Y (by decide) Y (a0m Y Y Y Y (a0e (a0k (fun a ha => ?_)))))))
 cases k
 exact ⟨Y, ha.cut (l := [1, 15]) Y⟩
 clear hm
 rcases a0h g with ⟨y, g⟩ | ⟨y, g⟩
 refine a1k 6 Y y (a0f fa26_1 Y Y Y (a2p (cs' := [.int .i64 t1.Fee.Op, .int .i64 t1.Fee.N, vs t1.Fee.Name, .slice o p q]) ag24 sz24 Y Y j Y (i := 0) Y Y Y ?_))
 obtain ⟨v5, L, g⟩ := Yb g
 refine a0i ent55 Y Y Y Y j (c0r _ _ _ L j.sat J) ?_
 rintro _ Z _ g0 M Q ⟨rfl, rfl⟩
 refine a0s Y Y Y Y (a0e (a0k (fun a ha => ?_)))
 cases g
 exact ⟨_, M, Q.Yp [0] Y Y, ha.cut (l := [1, 10]) Y⟩
 refine a1k 6 Y y (a0y Y (by decide) Y (a0y Y (by decide) Y (a0y Y (by decide) Y (a0m Y Y Y Y (a0e (a0k (fun a ha => ?_)))))))
 cases g
 exact ⟨_, Yf, j.Yp [0] Y Y, ha.cut (l := [1, 10]) Y⟩
theorem ent42 : Ent Tryz.prog 42 := fun _ _ => by kernel_rfl
theorem ag26 : a9h Tryz.prog 26 true := fun _ => by kernel_rfl
theorem sz26 : a4i Tryz.prog 26 6 := fun _ => by kernel_rfl
theorem ent24 : Ent Tryz.prog 24 := fun _ _ => by kernel_rfl
def b0o (n : Nat) (t1 : Tariff) (names1 : (List Bs)) : Option Int :=
 (b2b n names1).bind fun v1 =>
 bif !v1 then
  some 1
 else
  (a6h n t1).bind fun v2 =>
  bif !v2 then
   some 2
  else
   (tariff_typed n t1.Fee names1).bind fun v3 =>
   (bif v3.2 == 0 then
    some (v3.1 == 0)
   else
    some false).bind fun v4 =>
   bif v4 then
    some 13
   else
    some v3.2
theorem c0l (n : Nat) (t1 : Tariff) (names1 : (List Bs)) (r : Int) (hm : b0o n t1 names1 = some r) {w : World} {F : Frz} (hs : Sat F w) {m x : Option Addr} {o p y z : Nat} (G : SlR rp_Expr F m o p t1.Fee.Args) (H : SlR Rp.str F x y z names1) :
  Calls Tryz.prog 20 #[.agg #[vs t1.Name, .int .i64 t1.Fee.Op, .int .i64 t1.Fee.N, vs t1.Fee.Name, .slice m o p, .int .i64 t1.Cap], .slice x y z] w fun e w' => ∃ v F' O', e = .returned v ∧ HS F w [] F' O' w' ∧ (v = .int .i64 r ∧ O' = []) := by
 unfold b0o at hm
 have h := HS.init hs
 refine a1a 29 Tryz.func20 Y Y Y (a0g (a0a (a2z Y Y Y Y h ?_)))
 intro b1 T g
 refine a0b Y Y Y (a0e (a0c (a0g (a1j (a0g (a0a (a0d Y Y Y ?_)))))))
 obtain ⟨v1, L, hm⟩ := Yb hm
 refine a2t ent42 Y Y Y Y (c0p _ _ _ L g.sat H) (a4c Y Y Y (a0b Y Y Y (a0e (a0c ?_))))
 rcases a0h hm with ⟨q, hm⟩ | ⟨q, hm⟩
 refine a0r 7 Y q (a0x Y (a0g (a0a (a0b Y Y Y (a0e (a0c (a1c (a0t (a0j (a1n Y Y ?_))))))))))
 obtain rfl := Yo hm
 exact ⟨_, _, _, Y, g.Yp [] Y Y, Y, Y⟩
 refine a0r 7 Y q (a0p Y (a0g (a0a (a0q ag26 sz26 Y Y g Y (i := 0) Y Y ?_))))
 obtain ⟨v2, M, hm⟩ := Yb hm
 refine a0i ent24 Y Y Y Y g (b1y _ _ _ M g.sat G) ?_
 rintro _ U _ V I k ⟨rfl, rfl⟩
 refine a4c Y Y Y (a0b Y Y Y (a0e (a0c ?_)))
 rcases a0h hm with ⟨s, hm⟩ | ⟨s, hm⟩
 refine a0r 11 Y s (a0x Y (a0g (a0a (a0b Y Y Y (a0e (a0c (a1c (a0t (a0j (a1n Y Y ?_))))))))))
 obtain rfl := Yo hm
 exact ⟨_, _, _, Y, k.Yp [] Y Y, Y, Y⟩
 refine a0r 11 Y s (a0p Y (a1b (a1o (a0c (a0g (a0a (a0f fa26_1 Y Y Y (a2p (cs' := [.int .i64 t1.Fee.Op, .int .i64 t1.Fee.N, vs t1.Fee.Name, .slice m o p]) ag24 sz24 Y Y k Y (i := 0) Y Y Y (a0d Y Y Y ?_)))))))))
 obtain ⟨v3, Q, hm⟩ := Yb hm
 refine a0i ent43 Y Y Y Y k (c0o _ _ _ _ Q k.sat (G.mono I) (H.mono I)) ?_
 rintro _ Z _ R g0 J ⟨rfl, rfl⟩
 refine a0d Y Y Y (a0l Y Y Y Y (a0l Y Y Y Y (a0b Y Y Y (a0b Y Y Y (a0e (a0c (a0g (a0g (a0a (a0d Y Y Y (a0u Y Y Y Y Y (a0d Y Y Y ?_))))))))))))
 obtain ⟨v4, j, hm⟩ := Yb hm
 refine a2g 3 (fun a w' => R = w' ∧ Has 29 a [(6, .int .i64 v3.2), (27, .bool v4)]) ?_ ?_
 rintro a g1 ⟨rfl, K⟩
 refine a1d K (a0e (a0c ?_))
 rcases a0h hm with ⟨t, hm⟩ | ⟨t, hm⟩
 refine a0r 27 Y t (a0x Y (a0g (a0a (a0b Y Y Y (a0e (a0c (a1c (a0j (a1n Y Y ?_)))))))))
 obtain rfl := Yo hm
 exact ⟨_, _, _, Y, J.Yp [] Y Y, Y, Y⟩
 refine a0r 27 Y t (a0p Y (a1b (a0c (a0g (a0a (a0d Y Y Y (a0b Y Y Y (a0e (a0c (a1c (a1n Y Y ?_)))))))))))
 obtain rfl := Yo hm
 exact ⟨_, _, _, Y, J.Yp [] Y Y, Y, Y⟩
 clear hm
 rcases a0h j with ⟨u, j⟩ | ⟨u, j⟩
 refine a1k 24 Y u (a0d Y Y Y (a0u Y Y Y Y Y (a0s Y Y Y Y (a0e (a0k (fun a ha => ?_))))))
 cases j
 exact ⟨Y, ha.cut (l := [6, 27]) Y⟩
 refine a1k 24 Y u (a0y Y (by decide) Y (a0y Y (by decide) Y (a0m Y Y Y Y (a0e (a0k (fun a ha => ?_))))))
 cases j
 exact ⟨Y, ha.cut (l := [6, 27]) Y⟩
end Go.Proofs.YtknpjecpcmajiaaGreatDoor.M

