/-
  THE MIRRORS of what strings.Trim calls at a set of ASCII bytes. Printed by gen.py.
-/
import Derived.Test.YtaanocaobllohaaGreatDoorRows
import Derived.Test.YtaanocaobllohaaGreatDoorExtB
namespace Go.Proofs.YtaanocaobllohaaGreatDoor.MT
open Go Go.RowKit Rt M
theorem u9 : Tryz.prog.underlying 9 = some .string := by kernel_rfl
theorem ent129 : Ent Tryz.prog 129 := fun _ _ => by kernel_rfl
def strings_trimLeftASCII_L1 (n : Nat) (asx1 : Rt.Bs) (kont1 : Bs → Option Bs) : Nat → Bs → Option Bs
 | 0, _ => none
 | mx1 + 1, s2 =>
  bif decide (0 < (s2.length : Int)) then
   (sidx s2 0).bind fun c1 =>
   (asciiSet_contains n asx1 c1).bind fun v1 =>
   bif !v1 then
    kont1 s2
   else
    (ssl s2 1 s2.length).bind fun t1 =>
    strings_trimLeftASCII_L1 n asx1 kont1 mx1 t1
  else
   kont1 s2
theorem b0p (n : Nat) (asx1 : Rt.Bs) (kont1 : Bs → Option Bs) (mx1 : Nat) (s2 : Bs) : strings_trimLeftASCII_L1 n asx1 kont1 (mx1 + 1) s2 =
  bif decide (0 < (s2.length : Int)) then
   (sidx s2 0).bind fun c1 =>
   (asciiSet_contains n asx1 c1).bind fun v1 =>
   bif !v1 then
    kont1 s2
   else
    (ssl s2 1 s2.length).bind fun t1 =>
    strings_trimLeftASCII_L1 n asx1 kont1 mx1 t1
  else
   kont1 s2 := rfl
def strings_trimLeftASCII (n : Nat) (s1 : Bs) (asx1 : Rt.Bs) : Option Bs :=
 strings_trimLeftASCII_L1 n asx1 (fun (s3 : Bs) =>
  some s3) n s1
set_option maxHeartbeats 1000000 in
set_option maxRecDepth 1000000 in
theorem strings_trimLeftASCII_ok (n : Nat) (s1 : Bs) (asx1 : Rt.Bs) (r : Bs) (hm : strings_trimLeftASCII n s1 asx1 = some r) {w : World} {F : Frz} (hs : Sat F w) {basx1 : Nat} (hoasx1 : AsciiAt F basx1 asx1) :
  Calls Tryz.prog 111 #[vs s1, .pointer (some ⟨basx1, 0, none⟩)] w fun e w' => e = .returned (vs r) ∧ w' = w := by
 unfold strings_trimLeftASCII at hm
 have h := HS.init hs
 refine a0x (args := [vs s1, .pointer (some ⟨basx1, 0, none⟩)]) 16 Tryz.func111 rfl rfl rfl ?_
 refine a0f (a0a (a0b rfl rfl rfl (a0c (a0d (a0f (a1i ?_))))))
 intro a hax3
 obtain ⟨kont1, hkont1⟩ : ∃ kont1 : Bs → Option Bs, kont1 = (fun (s3 : Bs) =>
       some s3) := ⟨_, rfl⟩
 replace hm : (fun m (s : Bs) => strings_trimLeftASCII_L1 n asx1 kont1 m s) n s1 = some r := by rw [hkont1]; exact hm
 refine a5u (id := 0) (fun m (s : Bs) => strings_trimLeftASCII_L1 n asx1 kont1 m s) (fun (y : Bs) => kont1 y) r (fun (s : Bs) a w' => w = w' ∧ Has 16 a [(0, vs s), (1, .pointer (some ⟨basx1, 0, none⟩))]) (fun (y : Bs) a w' => w = w' ∧ Has 16 a [(0, vs y)]) (fun _ => rfl) ?_ ?_ hm ⟨rfl, hax3.cut (l := [0, 1]) rfl⟩
 ·clear hm; rintro s3 a wx1 hm ⟨rfl, hax1⟩
  rw [hkont1] at hm
  replace hm := hm
  refine a2d (e := .exit 0) hax1 ?_
  refine a1j (a0d (a0f (a0a (a0e rfl rfl rfl (a0b rfl rfl rfl (a0c (a0d (a1d ?_))))))))
  refine a1p rfl rfl ?_
  obtain rfl := Option.some.inj hm
  exact ⟨rfl, rfl⟩
 clear hm hkont1; intro hk1 mx1 K ihx1
 rintro s2 a wx2 hm ⟨rfl, hax2⟩
 simp only [b0p] at hm
 refine a1l hax2 ?_
 refine a0f (a0f (a0a (a0e rfl rfl rfl ?_)))
 refine a8k u9 rfl rfl rfl ?_
 refine a0v rfl rfl rfl rfl rfl ?_
 refine a0c (a0d ?_)
 rcases a0i hm with ⟨hb1, hm⟩ | ⟨hb1, hm⟩
 ·refine a0u 7 rfl hb1 ?_
  refine a0z rfl (a1b (a0d (a1i (a0f (a0f (a0a (a0e rfl rfl rfl (a0e rfl rfl rfl ?_))))))))
  obtain ⟨c1, hc1, hm⟩ := bind_some hm
  refine b3y u9 rfl rfl rfl rfl hc1 ?_
  obtain ⟨v1, hv1, hm⟩ := bind_some hm
  refine a4e ent129 rfl rfl rfl rfl (a9f _ _ _ _ hv1 h.sat hoasx1) ?_
  refine a2x rfl rfl rfl (a0c (a0d ?_))
  rcases a0i hm with ⟨hb2, hm⟩ | ⟨hb2, hm⟩
  ·refine a0u 12 rfl hb2 ?_
   refine a0z rfl (a3l (a0q ?_))
   refine b5y (by decide) ?_
   refine a0q ?_
   refine fun a ha => hk1 s2 a _ hm ?_
   exact ⟨rfl, ha.cut (l := [0]) rfl⟩
  refine a0u 12 rfl hb2 ?_
  refine a0s rfl (a1b (a0d (a0a (a0e rfl rfl rfl ?_))))
  obtain ⟨t1, hc2, hm⟩ := bind_some hm
  refine b7b u9 rfl rfl rfl rfl hc2 ?_
  refine a0b rfl rfl rfl (a0c (a2a ?_))
  refine a0p (fun a ha => ihx1 t1 a _ hm ?_)
  exact ⟨rfl, ha.cut (l := [0, 1]) rfl⟩
 refine a0u 7 rfl hb1 ?_
 refine a0s rfl (a3l (a0q (a0q ?_)))
 refine fun a ha => hk1 s2 a _ hm ?_
 exact ⟨rfl, ha.cut (l := [0]) rfl⟩
def strings_trimRightASCII_L1 (n : Nat) (asx1 : Rt.Bs) (kont1 : Bs → Option Bs) : Nat → Bs → Option Bs
 | 0, _ => none
 | mx1 + 1, s2 =>
  bif decide (0 < (s2.length : Int)) then
   (sidx s2 (isub .i64 (s2.length : Int) 1)).bind fun c1 =>
   (asciiSet_contains n asx1 c1).bind fun v1 =>
   bif !v1 then
    kont1 s2
   else
    (ssl s2 0 (isub .i64 (s2.length : Int) 1)).bind fun t1 =>
    strings_trimRightASCII_L1 n asx1 kont1 mx1 t1
  else
   kont1 s2
theorem b0k (n : Nat) (asx1 : Rt.Bs) (kont1 : Bs → Option Bs) (mx1 : Nat) (s2 : Bs) : strings_trimRightASCII_L1 n asx1 kont1 (mx1 + 1) s2 =
  bif decide (0 < (s2.length : Int)) then
   (sidx s2 (isub .i64 (s2.length : Int) 1)).bind fun c1 =>
   (asciiSet_contains n asx1 c1).bind fun v1 =>
   bif !v1 then
    kont1 s2
   else
    (ssl s2 0 (isub .i64 (s2.length : Int) 1)).bind fun t1 =>
    strings_trimRightASCII_L1 n asx1 kont1 mx1 t1
  else
   kont1 s2 := rfl
def strings_trimRightASCII (n : Nat) (s1 : Bs) (asx1 : Rt.Bs) : Option Bs :=
 strings_trimRightASCII_L1 n asx1 (fun (s3 : Bs) =>
  some s3) n s1
set_option maxHeartbeats 1000000 in
set_option maxRecDepth 1000000 in
theorem strings_trimRightASCII_ok (n : Nat) (s1 : Bs) (asx1 : Rt.Bs) (r : Bs) (hm : strings_trimRightASCII n s1 asx1 = some r) {w : World} {F : Frz} (hs : Sat F w) {basx1 : Nat} (hoasx1 : AsciiAt F basx1 asx1) :
  Calls Tryz.prog 112 #[vs s1, .pointer (some ⟨basx1, 0, none⟩)] w fun e w' => e = .returned (vs r) ∧ w' = w := by
 unfold strings_trimRightASCII at hm
 have h := HS.init hs
 refine a0x (args := [vs s1, .pointer (some ⟨basx1, 0, none⟩)]) 22 Tryz.func112 rfl rfl rfl ?_
 refine a0f (a0a (a0b rfl rfl rfl (a0c (a0d (a0f (a1i ?_))))))
 intro a hax3
 obtain ⟨kont1, hkont1⟩ : ∃ kont1 : Bs → Option Bs, kont1 = (fun (s3 : Bs) =>
       some s3) := ⟨_, rfl⟩
 replace hm : (fun m (s : Bs) => strings_trimRightASCII_L1 n asx1 kont1 m s) n s1 = some r := by rw [hkont1]; exact hm
 refine a5u (id := 0) (fun m (s : Bs) => strings_trimRightASCII_L1 n asx1 kont1 m s) (fun (y : Bs) => kont1 y) r (fun (s : Bs) a w' => w = w' ∧ Has 22 a [(0, vs s), (1, .pointer (some ⟨basx1, 0, none⟩))]) (fun (y : Bs) a w' => w = w' ∧ Has 22 a [(0, vs y)]) (fun _ => rfl) ?_ ?_ hm ⟨rfl, hax3.cut (l := [0, 1]) rfl⟩
 ·clear hm; rintro s3 a wx1 hm ⟨rfl, hax1⟩
  rw [hkont1] at hm
  replace hm := hm
  refine a2d (e := .exit 0) hax1 ?_
  refine a1j (a0d (a0f (a0a (a0e rfl rfl rfl (a0b rfl rfl rfl (a0c (a0d (a1d ?_))))))))
  refine a1p rfl rfl ?_
  obtain rfl := Option.some.inj hm
  exact ⟨rfl, rfl⟩
 clear hm hkont1; intro hk1 mx1 K ihx1
 rintro s2 a wx2 hm ⟨rfl, hax2⟩
 simp only [b0k] at hm
 refine a1l hax2 ?_
 refine a0f (a0f (a0a (a0e rfl rfl rfl ?_)))
 refine a8k u9 rfl rfl rfl ?_
 refine a0v rfl rfl rfl rfl rfl ?_
 refine a0c (a0d ?_)
 rcases a0i hm with ⟨hb1, hm⟩ | ⟨hb1, hm⟩
 ·refine a0u 7 rfl hb1 ?_
  refine a0z rfl (a1b (a0d (a1i (a0f (a0f (a0a (a0e rfl rfl rfl (a0e rfl rfl rfl (a0e rfl rfl rfl ?_)))))))))
  refine a8k u9 rfl rfl rfl ?_
  refine a0v rfl rfl rfl rfl rfl ?_
  obtain ⟨c1, hc1, hm⟩ := bind_some hm
  refine b3y u9 rfl rfl rfl rfl hc1 ?_
  obtain ⟨v1, hv1, hm⟩ := bind_some hm
  refine a4e ent129 rfl rfl rfl rfl (a9f _ _ _ _ hv1 h.sat hoasx1) ?_
  refine a2x rfl rfl rfl (a0c (a0d ?_))
  rcases a0i hm with ⟨hb2, hm⟩ | ⟨hb2, hm⟩
  ·refine a0u 15 rfl hb2 ?_
   refine a0z rfl (a3l (a0q ?_))
   refine b5y (by decide) ?_
   refine a0q ?_
   refine fun a ha => hk1 s2 a _ hm ?_
   exact ⟨rfl, ha.cut (l := [0]) rfl⟩
  refine a0u 15 rfl hb2 ?_
  refine a0s rfl (a1b (a0d (a0a (a0e rfl rfl rfl (a0e rfl rfl rfl ?_)))))
  refine a8k u9 rfl rfl rfl ?_
  refine a0v rfl rfl rfl rfl rfl ?_
  obtain ⟨t1, hc2, hm⟩ := bind_some hm
  refine b9w u9 rfl rfl rfl rfl hc2 ?_
  refine a0b rfl rfl rfl (a0c (a2a ?_))
  refine a0p (fun a ha => ihx1 t1 a _ hm ?_)
  exact ⟨rfl, ha.cut (l := [0, 1]) rfl⟩
 refine a0u 7 rfl hb1 ?_
 refine a0s rfl (a3l (a0q (a0q ?_)))
 refine fun a ha => hk1 s2 a _ hm ?_
 exact ⟨rfl, ha.cut (l := [0]) rfl⟩
end Go.Proofs.YtaanocaobllohaaGreatDoor.MT
