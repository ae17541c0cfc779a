/- Several texts in one, for FeePairs.said: what the theorem leans on. -/
import Derived.Test.YtknpjecpcmajiaaRows
import Derived.KernelRfl
import Derived.Test.YtknpjecpcmajiaaPp4
/-
  FROM AN ARGUMENT's READING TO WHAT THE MIRRORS TAKE, for each type of a parameter; the listed tables; the start for the witness. Printed by wrap5.py.
-/
namespace Go.Proofs.Ytknpjecpcmajiaa.Wrap
open Go Go.ChangeShapes Go.WideShapes Go.ChangeAt Go.RowKit Rt
theorem c4n (W : World) : b1w Try.prog W 9 Rp.str (fun s => s.length ≤ maxLen) := c4b Try.underlying9
theorem cells9 : Try.prog.cellsOf 9 = 1 := by kernel_rfl
theorem b6s (W : World) : b1w Try.prog W 3 (Rp.int .i64) (fun z => IntKind.i64.min ≤ z ∧ z ≤ IntKind.i64.max) := c3k Try.underlying3
theorem cells3 : Try.prog.cellsOf 3 = 1 := by kernel_rfl
theorem cells22 : Try.prog.cellsOf 22 = 1 := by kernel_rfl
theorem cells24 : Try.prog.cellsOf 24 = 4 := by kernel_rfl
inductive WfX : M.Expr → Prop
  | mk {o n : Int} {s : Rt.Bs} {l : List M.Expr} : (IntKind.i64.min ≤ o ∧ o ≤ IntKind.i64.max) → (IntKind.i64.min ≤ n ∧ n ≤ IntKind.i64.max) → s.length ≤ maxLen → l.length ≤ maxLen → (∀ y, y ∈ l → WfX y) → WfX ⟨o, n, s, l⟩
def ok24 (x : M.Expr) : Prop := WfX x
set_option maxRecDepth 100000 in
theorem c6c (W : World) {H : Type} (enc : TypeId × Value → H) : ∀ (fuel : Nat) (cs : List Value) (x : DataW H × List MemPlace), DataW.trod enc Try.prog W 0 (fun _ => true) true fuel 24 cs = some x → ∃ y, M.rp_Expr.R (all W) cs y ∧ WfX y := by
  intro fuel
  induction fuel using Nat.strongRecOn with
  | ind fuel ih =>
    intro cs x h
    obtain ⟨xs, n, hfu, _, hl, hn, hf⟩ := DataW.trod_struct Try.underlying24 h
    obtain ⟨y0, r0, o0⟩ := a7h hn hf (i := 0) rfl (b6s W)
    obtain ⟨y1, r1, o1⟩ := a7h hn hf (i := 1) rfl (b6s W)
    obtain ⟨y2, r2, o2⟩ := a7h hn hf (i := 2) rfl (c4n W)
    have h3 : DataW.trod enc Try.prog W 0 (fun _ => true) true n 22 ((cs.drop 3).take (Try.prog.cellsOf 22)) = xs[3]? := hf 3 _ rfl
    have h3l : 3 < xs.length := by rw [hn]; decide
    rw [List.getElem?_eq_getElem h3l] at h3
    obtain ⟨l, ⟨a, m, c, e3', s3⟩, o3, o4⟩ := c6v Try.underlying22 (r := M.rp_Expr) (ok := WfX) (by rw [cells24]; rfl) (by decide) h3 (fun j cs' x' hj hx => ih j (by omega) cs' x' hx)
    have e0 : (cs.drop 0).take (Try.prog.cellsOf 3) = [.int .i64 y0] := r0
    have e1 : (cs.drop 1).take (Try.prog.cellsOf 3) = [.int .i64 y1] := r1
    have e2 : (cs.drop 2).take (Try.prog.cellsOf 9) = [vs y2] := r2
    have e3 : (cs.drop 3).take (Try.prog.cellsOf 22) = [.slice a m c] := e3'
    rw [cells3] at e0 e1
    rw [cells9] at e2
    rw [cells22] at e3
    rw [cells24] at hl
    refine ⟨⟨y0, y1, y2, l⟩, M.expr_iff.2 ⟨a, m, c, ?_, s3⟩, WfX.mk o0 o1 o2 o3 o4⟩
    show cs = _
    have hd : cs.drop 4 = [] := List.drop_of_length_le (by omega)
    have h0 : cs = cs.drop 0 := (List.drop_zero).symm
    rw [h0]
    rw [show cs.drop 0 = (cs.drop 0).take 1 ++ cs.drop 1 from a6i cs 0 1, e0]
    rw [show cs.drop 1 = (cs.drop 1).take 1 ++ cs.drop 2 from a6i cs 1 1, e1]
    rw [show cs.drop 2 = (cs.drop 2).take 1 ++ cs.drop 3 from a6i cs 2 1, e2]
    rw [show cs.drop 3 = (cs.drop 3).take 1 ++ cs.drop 4 from a6i cs 3 1, e3]
    rw [hd]
    rfl
theorem c8y (W : World) : b1w Try.prog W 24 M.rp_Expr ok24 := fun enc fuel cs x h => c6c W enc fuel cs x h
theorem cells26 : Try.prog.cellsOf 26 = 6 := by kernel_rfl
def ok26 (x : M.Tariff) : Prop := x.Name.length ≤ maxLen ∧ ok24 x.Fee ∧ (IntKind.i64.min ≤ x.Cap ∧ x.Cap ≤ IntKind.i64.max)
set_option maxRecDepth 100000 in
theorem c4p (W : World) : b1w Try.prog W 26 M.rp_Tariff ok26 := by
  intro H enc fuel cs x h
  obtain ⟨xs, n, _, _, hl, hn, hf⟩ := DataW.trod_struct Try.underlying26 h
  obtain ⟨y0, r0, o0⟩ := a7h hn hf (i := 0) rfl (c4n W)
  have e0' := r0
  have e0 : (cs.drop 0).take (Try.prog.cellsOf 9) = [vs y0] := e0'
  rw [cells9] at e0
  obtain ⟨y1, r1, o1⟩ := a7h hn hf (i := 1) rfl (c8y W)
  obtain ⟨a1_3, n1_3, c1_3, e1', s1_3⟩ := (M.expr_iff.1 r1)
  have e1 : (cs.drop 1).take (Try.prog.cellsOf 24) = [.int .i64 y1.Op, .int .i64 y1.N, vs y1.Name, .slice a1_3 n1_3 c1_3] := e1'
  rw [cells24] at e1
  obtain ⟨y2, r2, o2⟩ := a7h hn hf (i := 2) rfl (b6s W)
  have e2' := r2
  have e2 : (cs.drop 5).take (Try.prog.cellsOf 3) = [.int .i64 y2] := e2'
  rw [cells3] at e2
  rw [cells26] at hl
  refine ⟨⟨y0, y1, y2⟩, ⟨a1_3, n1_3, c1_3, ?_, s1_3⟩, o0, o1, o2⟩
  show cs = _
  have hd : cs.drop 6 = [] := List.drop_of_length_le (by omega)
  have h0 : cs = cs.drop 0 := (List.drop_zero).symm
  rw [h0]
  rw [show cs.drop 0 = (cs.drop 0).take 1 ++ cs.drop 1 from a6i cs 0 1, e0]
  rw [show cs.drop 1 = (cs.drop 1).take 4 ++ cs.drop 5 from a6i cs 1 4, e1]
  rw [show cs.drop 5 = (cs.drop 5).take 1 ++ cs.drop 6 from a6i cs 5 1, e2]
  rw [hd]
  rfl
def ok27 (l : List Bs) : Prop := l.length ≤ maxLen ∧ ∀ x ∈ l, x.length ≤ maxLen
theorem c9g (W : World) : b1w Try.prog W 27 (Rp.sl Rp.str) ok27 := b3k Try.underlying27 (r := Rp.str) (by rw [cells9]; rfl) (by decide) (c4n W)
def ok28 (l : List Int) : Prop := l.length ≤ maxLen ∧ ∀ x ∈ l, (IntKind.i64.min ≤ x ∧ x ≤ IntKind.i64.max)
theorem c3u (W : World) : b1w Try.prog W 28 (Rp.sl (Rp.int .i64)) ok28 := b3k Try.underlying28 (r := (Rp.int .i64)) (by rw [cells3]; rfl) (by decide) (b6s W)
theorem cells28 : Try.prog.cellsOf 28 = 1 := by kernel_rfl
theorem cells30 : Try.prog.cellsOf 30 = 3 := by kernel_rfl
def ok30 (x : M.Facts) : Prop := ok28 x.Lifts ∧ (IntKind.i64.min ≤ x.Persons ∧ x.Persons ≤ IntKind.i64.max) ∧ (IntKind.i64.min ≤ x.Flats ∧ x.Flats ≤ IntKind.i64.max)
set_option maxRecDepth 100000 in
theorem c9e (W : World) : b1w Try.prog W 30 M.rp_Facts ok30 := by
  intro H enc fuel cs x h
  obtain ⟨xs, n, _, _, hl, hn, hf⟩ := DataW.trod_struct Try.underlying30 h
  obtain ⟨y0, r0, o0⟩ := a7h hn hf (i := 0) rfl (c3u W)
  obtain ⟨a0_0, n0_0, c0_0, e0', s0_0⟩ := r0
  have e0 : (cs.drop 0).take (Try.prog.cellsOf 28) = [.slice a0_0 n0_0 c0_0] := e0'
  rw [cells28] at e0
  obtain ⟨y1, r1, o1⟩ := a7h hn hf (i := 1) rfl (b6s W)
  have e1' := r1
  have e1 : (cs.drop 1).take (Try.prog.cellsOf 3) = [.int .i64 y1] := e1'
  rw [cells3] at e1
  obtain ⟨y2, r2, o2⟩ := a7h hn hf (i := 2) rfl (b6s W)
  have e2' := r2
  have e2 : (cs.drop 2).take (Try.prog.cellsOf 3) = [.int .i64 y2] := e2'
  rw [cells3] at e2
  rw [cells30] at hl
  refine ⟨⟨y0, y1, y2⟩, ⟨a0_0, n0_0, c0_0, ?_, s0_0⟩, o0, o1, o2⟩
  show cs = _
  have hd : cs.drop 3 = [] := List.drop_of_length_le (by omega)
  have h0 : cs = cs.drop 0 := (List.drop_zero).symm
  rw [h0]
  rw [show cs.drop 0 = (cs.drop 0).take 1 ++ cs.drop 1 from a6i cs 0 1, e0]
  rw [show cs.drop 1 = (cs.drop 1).take 1 ++ cs.drop 2 from a6i cs 1 1, e1]
  rw [show cs.drop 2 = (cs.drop 2).take 1 ++ cs.drop 3 from a6i cs 2 1, e2]
  rw [hd]
  rfl
theorem cells35 : Try.prog.cellsOf 35 = 2 := by kernel_rfl
def ok35 (x : M.Big) : Prop := (IntKind.i64.min ≤ x.Sign ∧ x.Sign ≤ IntKind.i64.max) ∧ ok28 x.Digits
set_option maxRecDepth 100000 in
theorem c3z (W : World) : b1w Try.prog W 35 M.rp_Big ok35 := by
  intro H enc fuel cs x h
  obtain ⟨xs, n, _, _, hl, hn, hf⟩ := DataW.trod_struct Try.underlying35 h
  obtain ⟨y0, r0, o0⟩ := a7h hn hf (i := 0) rfl (b6s W)
  have e0' := r0
  have e0 : (cs.drop 0).take (Try.prog.cellsOf 3) = [.int .i64 y0] := e0'
  rw [cells3] at e0
  obtain ⟨y1, r1, o1⟩ := a7h hn hf (i := 1) rfl (c3u W)
  obtain ⟨a1_0, n1_0, c1_0, e1', s1_0⟩ := r1
  have e1 : (cs.drop 1).take (Try.prog.cellsOf 28) = [.slice a1_0 n1_0 c1_0] := e1'
  rw [cells28] at e1
  rw [cells35] at hl
  refine ⟨⟨y0, y1⟩, ⟨a1_0, n1_0, c1_0, ?_, s1_0⟩, o0, o1⟩
  show cs = _
  have hd : cs.drop 2 = [] := List.drop_of_length_le (by omega)
  have h0 : cs = cs.drop 0 := (List.drop_zero).symm
  rw [h0]
  rw [show cs.drop 0 = (cs.drop 0).take 1 ++ cs.drop 1 from a6i cs 0 1, e0]
  rw [show cs.drop 1 = (cs.drop 1).take 1 ++ cs.drop 2 from a6i cs 1 1, e1]
  rw [hd]
  rfl
theorem cells37 : Try.prog.cellsOf 37 = 4 := by kernel_rfl
def ok37 (x : M.Frac) : Prop := ok35 x.P ∧ ok35 x.Q
set_option maxRecDepth 100000 in
theorem c9k (W : World) : b1w Try.prog W 37 M.rp_Frac ok37 := by
  intro H enc fuel cs x h
  obtain ⟨xs, n, _, _, hl, hn, hf⟩ := DataW.trod_struct Try.underlying37 h
  obtain ⟨y0, r0, o0⟩ := a7h hn hf (i := 0) rfl (c3z W)
  obtain ⟨a0_1, n0_1, c0_1, e0', s0_1⟩ := r0
  have e0 : (cs.drop 0).take (Try.prog.cellsOf 35) = [.int .i64 y0.Sign, .slice a0_1 n0_1 c0_1] := e0'
  rw [cells35] at e0
  obtain ⟨y1, r1, o1⟩ := a7h hn hf (i := 1) rfl (c3z W)
  obtain ⟨a1_1, n1_1, c1_1, e1', s1_1⟩ := r1
  have e1 : (cs.drop 2).take (Try.prog.cellsOf 35) = [.int .i64 y1.Sign, .slice a1_1 n1_1 c1_1] := e1'
  rw [cells35] at e1
  rw [cells37] at hl
  refine ⟨⟨y0, y1⟩, ⟨a0_1, n0_1, c0_1, a1_1, n1_1, c1_1, ?_, s0_1, s1_1⟩, o0, o1⟩
  show cs = _
  have hd : cs.drop 4 = [] := List.drop_of_length_le (by omega)
  have h0 : cs = cs.drop 0 := (List.drop_zero).symm
  rw [h0]
  rw [show cs.drop 0 = (cs.drop 0).take 2 ++ cs.drop 2 from a6i cs 0 2, e0]
  rw [show cs.drop 2 = (cs.drop 2).take 2 ++ cs.drop 4 from a6i cs 2 2, e1]
  rw [hd]
  rfl
def ok31 (l : List M.Frac) : Prop := l.length ≤ maxLen ∧ ∀ x ∈ l, ok37 x
theorem c9b (W : World) : b1w Try.prog W 31 (Rp.sl M.rp_Frac) ok31 := b3k Try.underlying31 (r := M.rp_Frac) (by rw [cells37]; rfl) (by decide) (c9k W)
def tabs : List (String × DataW Unit) := []
noncomputable def b7h (os : Os) : World :=
  { World.holding Try.prog os ⟨#[], #[], []⟩ with heap := (World.holding Try.prog os ⟨#[], #[], []⟩).heap }
theorem c6q (os : Os) (args : Array Value) : laidMet Try.prog tabs ((b7h os).forCall (fun _ _ => 0) ⟨#[], args, []⟩).memory :=
  laidMet_of_run' 8 (by kernel_rfl) (by kernel_rfl)
end Go.Proofs.Ytknpjecpcmajiaa.Wrap

/-
  THE MIRRORS of the fee's functions, of the tariff's, the fractions' and the big integers', of the references and the laws, and that each call returns what its mirror says. Printed by gen.py.
-/
namespace Go.Proofs.Ytknpjecpcmajiaa.M
open Go Go.RowKit Rt
theorem ent12 : Ent Try.prog 12 := fun _ _ => by kernel_rfl
theorem ent10 : Ent Try.prog 10 := fun _ _ => by kernel_rfl
theorem ent9 : Ent Try.prog 9 := fun _ _ => by kernel_rfl
theorem ent18 : Ent Try.prog 18 := fun _ _ => by kernel_rfl
theorem ent19 : Ent Try.prog 19 := fun _ _ => by kernel_rfl
theorem ent13 : Ent Try.prog 13 := fun _ _ => by kernel_rfl
theorem ent11 : Ent Try.prog 11 := fun _ _ => by kernel_rfl
def a9w (n : Nat)  : Option Bool :=
 (b1d n 12345 2).bind fun v1 =>
 (b1d n 2469 400).bind fun v2 =>
 (a6q n 100).bind fun v3 =>
 ((a6u n 1000).bind fun v37 =>
 (a5v n (⟨4, 0, [112, 97, 112, 101, 114], []⟩ : Expr) v37).bind fun v38 =>
 (a4k n 8 v38).bind fun v39 =>
 (a8s n v39 [v1.1, v3]).bind fun v40 =>
 some (v40.1.P.Sign, v40.1.P.Digits, v40.1.Q.Sign, v40.1.Q.Digits, v40.2)).bind fun (f1, f2, f3, f4, ex1) =>
 ((a6u n 1000).bind fun v32 =>
 (a5v n v32 (⟨2, 0, [], []⟩ : Expr)).bind fun v33 =>
 (a4k n 7 v33).bind fun v34 =>
 (a5v n (⟨4, 0, [112, 97, 112, 101, 114], []⟩ : Expr) v34).bind fun v35 =>
 (a4k n 9 v35).bind fun v36 =>
 some (v36.Op, v36.N, v36.Name, v36.Args)).bind fun (f5, f6, f7, f8) =>
 (a5v n (⟨f5, f6, f7, f8⟩ : Expr) (⟨1, 0, [112, 97, 112, 101, 114], []⟩ : Expr)).bind fun v4 =>
 (a4k n 5 v4).bind fun v5 =>
 (a8s n v5 [v1.1, v3]).bind fun v6 =>
 (a6u n 2).bind fun v7 =>
 (a5v n v7 (⟨4, 0, [103, 108, 97, 115, 115], []⟩ : Expr)).bind fun v8 =>
 (a4k n 6 v8).bind fun v9 =>
 ((a6u n 3).bind fun v27 =>
 (a5v n (⟨2, 0, [], []⟩ : Expr) v27).bind fun v28 =>
 (a4k n 12 v28).bind fun v29 =>
 (a6u n 1).bind fun v30 =>
 (a4k n 11 [v29, v30, v9]).bind fun v31 =>
 some (v31.Op, v31.N, v31.Name, v31.Args)).bind fun (f9, f10, f11, f12) =>
 (a8s n (⟨f9, f10, f11, f12⟩ : Expr) [v1.1, v3]).bind fun v10 =>
 (a9r n (⟨[97], (⟨f9, f10, f11, f12⟩ : Expr), 5⟩ : Tariff) [[112, 97, 112, 101, 114], [103, 108, 97, 115, 115]] (⟨[4, 0], 3, 1⟩ : Facts) [v1.1, v3]).bind fun v11 =>
 (a8s n (⟨4, 0, [116, 105, 110], []⟩ : Expr) [v1.1, v3]).bind fun v12 =>
 (bif ex1 != 0 then
  some true
 else
  some (v6.2 != 0)).bind fun v13 =>
 (bif v13 then
  some true
 else
  some (v10.2 != 0)).bind fun v14 =>
 (bif v14 then
  some true
 else
  some (v11.2 != 0)).bind fun v15 =>
 (bif v15 then
  some true
 else
  some (v12.2 != 11)).bind fun v16 =>
 bif v16 then
  some false
 else
  (a3y n (⟨(⟨f1, f2⟩ : Big), (⟨f3, f4⟩ : Big)⟩ : Frac) v2.1).bind fun v17 =>
  (bif v17 then
   (a6q n 3004).bind fun v25 =>
   (a3y n v6.1 v25).bind fun v26 =>
   some v26
  else
   some false).bind fun v18 =>
  (bif v18 then
   (a6q n (-98)).bind fun v23 =>
   (a3y n v10.1 v23).bind fun v24 =>
   some v24
  else
   some false).bind fun v19 =>
  (bif v19 then
   (a6q n 0).bind fun v21 =>
   (a3y n v11.1 v21).bind fun v22 =>
   some v22
  else
   some false).bind fun v20 =>
  some v20
set_option maxHeartbeats 1000000 in
set_option maxRecDepth 1000000 in
theorem b7v (n : Nat)  (r : Bool) (hm : a9w n  = some r) {w : World} {F : Frz} (hs : Sat F w)  :
  Calls Try.prog 5 #[] w fun e w' => ∃ v F' O', e = .returned v ∧ HS F w [] F' O' w' ∧ (v = .bool r ∧ O' = []) := by
 unfold a9w at hm
 have h := HS.init hs
 refine a1a 129 Try.func5 rfl rfl rfl ?_
 refine a0f (a0a (a0b rfl rfl rfl (a0c (a0d (a0f (a0a ?_))))))
 obtain ⟨v1, hv1, hm⟩ := bind_some hm
 refine a0i ent17 rfl rfl rfl rfl h (b3o _ _ _ _ hv1 h.sat) ?_
 rintro _ Fx1 _ wx1 hF1 hx1 ⟨as1, ns1, cs1, as2, ns2, cs2, rfl, rfl, hs1, hs2⟩
 refine a0e rfl rfl rfl (a0k rfl rfl rfl rfl (a0k rfl rfl rfl rfl ?_))
 refine a1c ze37 rfl rfl rfl hx1 ?_
 intro b1 wx2 hx2
 refine a0q sz37 rfl hx2 rfl rfl rfl rfl (i := 0) rfl rfl rfl rfl ?_
 intro wx3 hx3
 refine a0b rfl rfl rfl (a0c (a0d (a0f (a0a ?_))))
 obtain ⟨v2, hv2, hm⟩ := bind_some hm
 refine a0i ent17 rfl rfl rfl rfl hx3 (b3o _ _ _ _ hv2 hx3.sat) ?_
 rintro _ Fx2 _ wx4 hF2 hx4 ⟨as3, ns3, cs3, as4, ns4, cs4, rfl, rfl, hs3, hs4⟩
 refine a0e rfl rfl rfl (a0k rfl rfl rfl rfl (a0k rfl rfl rfl rfl ?_))
 refine a1c ze37 rfl rfl rfl hx4 ?_
 intro b2 wx5 hx5
 refine a0q sz37 rfl hx5 rfl rfl rfl rfl (i := 0) rfl rfl rfl rfl ?_
 intro wx6 hx6
 refine a0b rfl rfl rfl (a0c (a0d (a0f ?_)))
 refine a2g (SH Fx2 [.box b2 37 [.int .i64 v2.1.P.Sign, .slice as3 ns3 cs3, .int .i64 v2.1.Q.Sign, .slice as4 ns4 cs4], .box b1 37 [.int .i64 v1.1.P.Sign, .slice as1 ns1 cs1, .int .i64 v1.1.Q.Sign, .slice as2 ns2 cs2]]) 4 rfl (by kernel_rfl) hx6 ?_
 intro wx7 hx7
 refine d_tk 0 rfl (by kernel_rfl) rfl rfl rfl rfl (hx7.sh (Frz.refl _) [0, 1] (by decide) rfl) (fun _ _ _ _ hq => a0l ag37 sz37 rfl rfl hq rfl (i := 1) rfl rfl (a0c (qq rfl))) ?_
 refine a0w 1 rfl (by kernel_rfl) ?_
 obtain ⟨v3, hv3, hm⟩ := bind_some hm
 refine a0i ent12 rfl rfl rfl rfl hx7 (a6z _ _ _ hv3 hx7.sat) ?_
 rintro _ Fx3 _ wx8 hF3 hx8 ⟨as5, ns5, cs5, as6, ns6, cs6, rfl, rfl, hs5, hs6⟩
 refine a0r (hx8.sh hF3 [0, 1] (by decide) rfl) ?_
 refine a0w 2 rfl (by kernel_rfl) ?_
 refine a1q (e := 37) (cs := [.int .i64 v1.1.P.Sign, .slice as1 ns1 cs1, .int .i64 v1.1.Q.Sign, .slice as2 ns2 cs2, .int .i64 v3.P.Sign, .slice as5 ns5 cs5, .int .i64 v3.Q.Sign, .slice as6 ns6 cs6]) (q := 4) rfl rfl hx8 rfl (fun _ => by kernel_rfl) rfl rfl ?_
 intro b3 wx9 hx9
 refine a0r (hx9.sh hF3 [1, 2] (by decide) rfl) ?_
 refine d_tk 3 rfl (by kernel_rfl) rfl rfl rfl rfl (hx9.sh hF3 [1, 2] (by decide) rfl) (fun _ _ _ _ _ => a0b rfl rfl rfl (a0c (qq rfl))) ?_
 refine a2t (by kernel_rfl) ?_
 refine a0d (a0f (a0a ?_))
 refine a2c (v := .agg #[.int .i64 4, .int .i64 0, vs [112, 97, 112, 101, 114], .slice none 0 0]) rfl rfl rfl (fun _ => by kernel_rfl) ?_
 refine a1c ze24 rfl rfl rfl hx9 ?_
 intro b4 wx10 hx10
 refine a0q sz24 rfl hx10 rfl rfl rfl rfl (i := 0) rfl rfl rfl rfl ?_
 intro wx11 hx11
 refine a0c (a0d (a0f (a0a ?_)))
 refine a2c (v := .agg #[.int .i64 2, .int .i64 0, vs [], .slice none 0 0]) rfl rfl rfl (fun _ => by kernel_rfl) ?_
 refine a1c ze24 rfl rfl rfl hx11 ?_
 intro b5 wx12 hx12
 refine a0q sz24 rfl hx12 rfl rfl rfl rfl (i := 0) rfl rfl rfl rfl ?_
 intro wx13 hx13
 refine a0c (a0d ?_)
 obtain ⟨Fx4, hF4, hx14, hsx1⟩ := a1b hx13 (i := 2) rfl ((show RowN rp_Frac Fx3 2 [.int .i64 v1.1.P.Sign, .slice as1 ns1 cs1, .int .i64 v1.1.Q.Sign, .slice as2 ns2 cs2, .int .i64 v3.P.Sign, .slice as5 ns5 cs5, .int .i64 v3.Q.Sign, .slice as6 ns6 cs6] [v1.1, v3] from ⟨rfl, ⟨_, _, rfl, ⟨as1, ns1, cs1, as2, ns2, cs2, rfl, ((hs1.mono hF2).mono hF3), ((hs2.mono hF2).mono hF3)⟩, ⟨_, _, rfl, ⟨as5, ns5, cs5, as6, ns6, cs6, rfl, hs5, hs6⟩, (rfl : RowR rp_Frac _ [] [])⟩⟩⟩))
 obtain ⟨⟨f1, f2, f3, f4, ex1⟩, hb1, hm⟩ := bind_some hm
 refine c4a (fun a w' => ∃ (Fx5 : Frz) (b6 : Nat) (as7 : Option Addr) (ns7 : Nat) (cs7 : Nat) (as8 : Option Addr) (ns8 : Nat) (cs8 : Nat), Frz.le Fx4 Fx5 ∧ HS F w [] Fx5 [.box b6 37 [.int .i64 f1, .slice as7 ns7 cs7, .int .i64 f3, .slice as8 ns8 cs8], .box b5 24 [.int .i64 2, .int .i64 0, vs [], .slice none 0 0], .box b4 24 [.int .i64 4, .int .i64 0, vs [112, 97, 112, 101, 114], .slice none 0 0], .box b2 37 [.int .i64 v2.1.P.Sign, .slice as3 ns3 cs3, .int .i64 v2.1.Q.Sign, .slice as4 ns4 cs4], .box b1 37 [.int .i64 v1.1.P.Sign, .slice as1 ns1 cs1, .int .i64 v1.1.Q.Sign, .slice as2 ns2 cs2]] w' ∧ (SlR (Rp.int .i64) Fx5 as7 ns7 cs7 f2) ∧ (SlR (Rp.int .i64) Fx5 as8 ns8 cs8 f4) ∧ Has 129 a [(3, .pointer (some ⟨b2, 0, none⟩)), (5, .slice (some ⟨b3, 0, none⟩) 2 2), (6, .pointer (some ⟨b4, 0, none⟩)), (7, .pointer (some ⟨b5, 0, none⟩)), (8, .pointer (some ⟨b6, 0, none⟩)), (9, .int .i64 ex1)]) ?_ ?_
 ·rintro a wx14 ⟨Fx5, b6, as7, ns7, cs7, as8, ns8, cs8, hF5, hx15, hs7, hs8, hax1⟩
  refine a1m hax1 ?_
  obtain ⟨⟨f5, f6, f7, f8⟩, hb2, hm⟩ := bind_some hm
  refine c4a (fun a w' => ∃ (Fx6 : Frz) (b7 : Nat) (as9 : Option Addr) (ns9 : Nat) (cs9 : Nat), Frz.le Fx5 Fx6 ∧ HS F w [] Fx6 [.box b7 24 [.int .i64 f5, .int .i64 f6, vs f7, .slice as9 ns9 cs9], .box b6 37 [.int .i64 f1, .slice as7 ns7 cs7, .int .i64 f3, .slice as8 ns8 cs8], .box b5 24 [.int .i64 2, .int .i64 0, vs [], .slice none 0 0], .box b4 24 [.int .i64 4, .int .i64 0, vs [112, 97, 112, 101, 114], .slice none 0 0], .box b2 37 [.int .i64 v2.1.P.Sign, .slice as3 ns3 cs3, .int .i64 v2.1.Q.Sign, .slice as4 ns4 cs4], .box b1 37 [.int .i64 v1.1.P.Sign, .slice as1 ns1 cs1, .int .i64 v1.1.Q.Sign, .slice as2 ns2 cs2]] w' ∧ (SlR rp_Expr Fx6 as9 ns9 cs9 f8) ∧ Has 129 a [(3, .pointer (some ⟨b2, 0, none⟩)), (5, .slice (some ⟨b3, 0, none⟩) 2 2), (7, .pointer (some ⟨b5, 0, none⟩)), (8, .pointer (some ⟨b6, 0, none⟩)), (9, .int .i64 ex1), (10, .pointer (some ⟨b7, 0, none⟩))]) ?_ ?_
  ·rintro a wx15 ⟨Fx6, b7, as9, ns9, cs9, hF6, hx16, hs9, hax2⟩
   refine a1m hax2 ?_
   refine a0f (a0a ?_)
   refine a0l ag24 sz24 rfl rfl hx16 rfl (i := 0) rfl rfl ?_
   refine a2c (v := .agg #[.int .i64 1, .int .i64 0, vs [112, 97, 112, 101, 114], .slice none 0 0]) rfl rfl rfl (fun _ => by kernel_rfl) ?_
   obtain ⟨v4, hv4, hm⟩ := bind_some hm
   refine a0i ent10 rfl rfl rfl rfl hx16 (a2i _ _ _ _ hv4 hx16.sat hs9 (SlR.nil _ _)) ?_
   rintro _ Fx7 _ wx16 hF7 hx17 ⟨as10, ns10, cs10, xss10, rfl, rfl, hs10⟩
   obtain ⟨Fx8, hF8, hx18, hsx2⟩ := a1b hx17 (i := 0) rfl hs10
   obtain ⟨v5, hv5, hm⟩ := bind_some hm
   refine a0i ent9 rfl rfl rfl rfl hx18 (a1k _ _ _ _ hv5 hx18.sat hsx2) ?_
   rintro _ Fx9 _ wx17 hF9 hx19 ⟨as11, ns11, cs11, rfl, rfl, hs11⟩
   refine a0e rfl rfl rfl ?_
   have hG1 := (((hF5.trans hF6).trans hF7).trans hF8).trans hF9
   obtain ⟨v6, hv6, hm⟩ := bind_some hm
   refine a0i ent18 rfl rfl rfl rfl hx19 (a4y _ _ _ _ hv6 hx19.sat hs11 (hsx1.mono hG1)) ?_
   rintro _ Fx10 _ wx18 hF10 hx20 ⟨as12, ns12, cs12, as13, ns13, cs13, rfl, rfl, hs12, hs13⟩
   refine a0e rfl rfl rfl (a0k rfl rfl rfl rfl (a0k rfl rfl rfl rfl ?_))
   refine a1c ze37 rfl rfl rfl hx20 ?_
   intro b8 wx19 hx21
   refine a0q sz37 rfl hx21 rfl rfl rfl rfl (i := 0) rfl rfl rfl rfl ?_
   intro wx20 hx22
   refine a0b rfl rfl rfl (a0c (a0d (a0f (a0a ?_))))
   obtain ⟨v7, hv7, hm⟩ := bind_some hm
   refine a0i ent19 rfl rfl rfl rfl hx22 (a2y _ _ _ hv7 hx22.sat) ?_
   rintro _ Fx11 _ wx21 hF11 hx23 ⟨as14, ns14, cs14, rfl, rfl, hs14⟩
   refine a2c (v := .agg #[.int .i64 4, .int .i64 0, vs [103, 108, 97, 115, 115], .slice none 0 0]) rfl rfl rfl (fun _ => by kernel_rfl) ?_
   obtain ⟨v8, hv8, hm⟩ := bind_some hm
   refine a0i ent10 rfl rfl rfl rfl hx23 (a2i _ _ _ _ hv8 hx23.sat hs14 (SlR.nil _ _)) ?_
   rintro _ Fx12 _ wx22 hF12 hx24 ⟨as15, ns15, cs15, xss15, rfl, rfl, hs15⟩
   obtain ⟨Fx13, hF13, hx25, hsx3⟩ := a1b hx24 (i := 0) rfl hs15
   obtain ⟨v9, hv9, hm⟩ := bind_some hm
   refine a0i ent9 rfl rfl rfl rfl hx25 (a1k _ _ _ _ hv9 hx25.sat hsx3) ?_
   rintro _ Fx14 _ wx23 hF14 hx26 ⟨as16, ns16, cs16, rfl, rfl, hs16⟩
   refine a1c ze24 rfl rfl rfl hx26 ?_
   intro b9 wx24 hx27
   refine a0q sz24 rfl hx27 rfl rfl rfl rfl (i := 0) rfl rfl rfl rfl ?_
   intro wx25 hx28
   refine a0c (a0d ?_)
   obtain ⟨⟨f9, f10, f11, f12⟩, hb3, hm⟩ := bind_some hm
   refine c4a (fun a w' => ∃ (Fx15 : Frz) (b10 : Nat) (as17 : Option Addr) (ns17 : Nat) (cs17 : Nat), Frz.le Fx14 Fx15 ∧ HS F w [] Fx15 [.box b10 24 [.int .i64 f9, .int .i64 f10, vs f11, .slice as17 ns17 cs17], .box b9 24 [.int .i64 v9.Op, .int .i64 v9.N, vs v9.Name, .slice as16 ns16 cs16], .box b8 37 [.int .i64 v6.1.P.Sign, .slice as12 ns12 cs12, .int .i64 v6.1.Q.Sign, .slice as13 ns13 cs13], .box b7 24 [.int .i64 f5, .int .i64 f6, vs f7, .slice as9 ns9 cs9], .box b6 37 [.int .i64 f1, .slice as7 ns7 cs7, .int .i64 f3, .slice as8 ns8 cs8], .box b5 24 [.int .i64 2, .int .i64 0, vs [], .slice none 0 0], .box b4 24 [.int .i64 4, .int .i64 0, vs [112, 97, 112, 101, 114], .slice none 0 0], .box b2 37 [.int .i64 v2.1.P.Sign, .slice as3 ns3 cs3, .int .i64 v2.1.Q.Sign, .slice as4 ns4 cs4], .box b1 37 [.int .i64 v1.1.P.Sign, .slice as1 ns1 cs1, .int .i64 v1.1.Q.Sign, .slice as2 ns2 cs2]] w' ∧ (SlR rp_Expr Fx15 as17 ns17 cs17 f12) ∧ Has 129 a [(3, .pointer (some ⟨b2, 0, none⟩)), (5, .slice (some ⟨b3, 0, none⟩) 2 2), (8, .pointer (some ⟨b6, 0, none⟩)), (9, .int .i64 ex1), (11, .pointer (some ⟨b8, 0, none⟩)), (12, .int .i64 v6.2), (14, .pointer (some ⟨b10, 0, none⟩))]) ?_ ?_
   ·rintro a wx26 ⟨Fx15, b10, as17, ns17, cs17, hF15, hx29, hs17, hax3⟩
    refine a1m hax3 ?_
    refine a0f (a0a ?_)
    refine a0l ag24 sz24 rfl rfl hx29 rfl (i := 0) rfl rfl ?_
    refine a0e rfl rfl rfl ?_
    have hG2 := (((((hG1.trans hF10).trans hF11).trans hF12).trans hF13).trans hF14).trans hF15
    obtain ⟨v10, hv10, hm⟩ := bind_some hm
    refine a0i ent18 rfl rfl rfl rfl hx29 (a4y _ _ _ _ hv10 hx29.sat hs17 (hsx1.mono hG2)) ?_
    rintro _ Fx16 _ wx27 hF16 hx30 ⟨as18, ns18, cs18, as19, ns19, cs19, rfl, rfl, hs18, hs19⟩
    refine a0e rfl rfl rfl (a0k rfl rfl rfl rfl (a0k rfl rfl rfl rfl ?_))
    refine a1c ze37 rfl rfl rfl hx30 ?_
    intro b11 wx28 hx31
    refine a0q sz37 rfl hx31 rfl rfl rfl rfl (i := 0) rfl rfl rfl rfl ?_
    intro wx29 hx32
    refine a0b rfl rfl rfl (a0c (a0d (a0f (a0a ?_))))
    refine a0l ag24 sz24 rfl rfl hx32 rfl (i := 1) rfl rfl ?_
    refine a2c (v := .agg #[vs [97], .int .i64 f9, .int .i64 f10, vs f11, .slice as17 ns17 cs17, .int .i64 5]) rfl rfl rfl (fun _ => by kernel_rfl) ?_
    refine a1q (e := 9) (cs := [vs [112, 97, 112, 101, 114], vs [103, 108, 97, 115, 115]]) (q := 1) rfl rfl hx32 rfl (fun _ => by kernel_rfl) rfl rfl ?_
    intro b12 wx30 hx33
    refine a1q (e := 3) (cs := [.int .i64 4, .int .i64 0]) (q := 1) rfl rfl hx33 rfl (fun _ => by kernel_rfl) rfl rfl ?_
    intro b13 wx31 hx34
    obtain ⟨Fx17, hF17, hx35, hsx4⟩ := a1b hx34 (i := 0) rfl ((show RowN (Rp.int .i64) Fx16 2 [.int .i64 4, .int .i64 0] [4, 0] from ⟨rfl, ⟨_, _, rfl, rfl, ⟨_, _, rfl, rfl, (rfl : RowR (Rp.int .i64) _ [] [])⟩⟩⟩))
    refine a2c (v := .agg #[.slice (some ⟨b13, 0, none⟩) 2 2, .int .i64 3, .int .i64 1]) rfl rfl rfl (fun _ => by kernel_rfl) ?_
    refine a0e rfl rfl rfl ?_
    obtain ⟨Fx18, hF18, hx36, hsx5⟩ := a1b hx35 (i := 0) rfl ((show RowN Rp.str Fx16 2 [vs [112, 97, 112, 101, 114], vs [103, 108, 97, 115, 115]] [[112, 97, 112, 101, 114], [103, 108, 97, 115, 115]] from ⟨rfl, ⟨_, _, rfl, rfl, ⟨_, _, rfl, rfl, (rfl : RowR Rp.str _ [] [])⟩⟩⟩).mono hF17)
    obtain ⟨v11, hv11, hm⟩ := bind_some hm
    refine a0i ent13 rfl rfl rfl rfl hx36 (b4a _ _ _ _ _ _ hv11 hx36.sat (((hs17.mono hF16).mono hF17).mono hF18) hsx5 (hsx4.mono hF18) ((((hsx1.mono hG2).mono hF16).mono hF17).mono hF18)) ?_
    rintro _ Fx19 _ wx32 hF19 hx37 ⟨as20, ns20, cs20, as21, ns21, cs21, rfl, rfl, hs20, hs21⟩
    refine a0e rfl rfl rfl (a0k rfl rfl rfl rfl (a0k rfl rfl rfl rfl ?_))
    refine a1c ze37 rfl rfl rfl hx37 ?_
    intro b14 wx33 hx38
    refine a0q sz37 rfl hx38 rfl rfl rfl rfl (i := 0) rfl rfl rfl rfl ?_
    intro wx34 hx39
    refine a0b rfl rfl rfl (a0c (a0d (a0f (a0a ?_))))
    refine a2c (v := .agg #[.int .i64 4, .int .i64 0, vs [116, 105, 110], .slice none 0 0]) rfl rfl rfl (fun _ => by kernel_rfl) ?_
    refine a0e rfl rfl rfl ?_
    have hG3 := (((hG2.trans hF16).trans hF17).trans hF18).trans hF19
    obtain ⟨v12, hv12, hm⟩ := bind_some hm
    refine a0i ent18 rfl rfl rfl rfl hx39 (a4y _ _ _ _ hv12 hx39.sat (SlR.nil _ _) (hsx1.mono hG3)) ?_
    rintro _ Fx20 _ wx35 hF20 hx40 ⟨as22, ns22, cs22, as23, ns23, cs23, rfl, rfl, hs22, hs23⟩
    refine a0e rfl rfl rfl (a0k rfl rfl rfl rfl (a0k rfl rfl rfl rfl ?_))
    refine a1c ze37 rfl rfl rfl hx40 ?_
    intro b15 wx36 hx41
    refine a0q sz37 rfl hx41 rfl rfl rfl rfl (i := 0) rfl rfl rfl rfl ?_
    intro wx37 hx42
    refine a0b rfl rfl rfl (a0c (a0d (a0f (a0f (a0a (a0e rfl rfl rfl ?_))))))
    refine a0u rfl rfl rfl rfl rfl ?_
    refine a0e rfl rfl rfl ?_
    obtain ⟨v13, hb4, hm⟩ := bind_some hm
    refine a2r 3 (fun a w' => wx37 = w' ∧ Has 129 a [(3, .pointer (some ⟨b2, 0, none⟩)), (8, .pointer (some ⟨b6, 0, none⟩)), (11, .pointer (some ⟨b8, 0, none⟩)), (15, .pointer (some ⟨b11, 0, none⟩)), (16, .int .i64 v10.2), (17, .pointer (some ⟨b14, 0, none⟩)), (18, .int .i64 v11.2), (20, .int .i64 v12.2), (98, .bool v13)]) ?_ ?_
    ·rintro a wx38 ⟨rfl, hax4⟩
     refine a1f hax4 ?_
     refine a0e rfl rfl rfl ?_
     obtain ⟨v14, hb5, hm⟩ := bind_some hm
     refine a2r 3 (fun a w' => wx37 = w' ∧ Has 129 a [(3, .pointer (some ⟨b2, 0, none⟩)), (8, .pointer (some ⟨b6, 0, none⟩)), (11, .pointer (some ⟨b8, 0, none⟩)), (15, .pointer (some ⟨b11, 0, none⟩)), (17, .pointer (some ⟨b14, 0, none⟩)), (18, .int .i64 v11.2), (20, .int .i64 v12.2), (102, .bool v14)]) ?_ ?_
     ·rintro a wx39 ⟨rfl, hax5⟩
      refine a1f hax5 ?_
      refine a0e rfl rfl rfl ?_
      obtain ⟨v15, hb6, hm⟩ := bind_some hm
      refine a2r 3 (fun a w' => wx37 = w' ∧ Has 129 a [(3, .pointer (some ⟨b2, 0, none⟩)), (8, .pointer (some ⟨b6, 0, none⟩)), (11, .pointer (some ⟨b8, 0, none⟩)), (15, .pointer (some ⟨b11, 0, none⟩)), (17, .pointer (some ⟨b14, 0, none⟩)), (20, .int .i64 v12.2), (106, .bool v15)]) ?_ ?_
      ·rintro a wx40 ⟨rfl, hax6⟩
       refine a1f hax6 ?_
       refine a0e rfl rfl rfl ?_
       obtain ⟨v16, hb7, hm⟩ := bind_some hm
       refine a2r 3 (fun a w' => wx37 = w' ∧ Has 129 a [(3, .pointer (some ⟨b2, 0, none⟩)), (8, .pointer (some ⟨b6, 0, none⟩)), (11, .pointer (some ⟨b8, 0, none⟩)), (15, .pointer (some ⟨b11, 0, none⟩)), (17, .pointer (some ⟨b14, 0, none⟩)), (110, .bool v16)]) ?_ ?_
       ·rintro a wx41 ⟨rfl, hax7⟩
        refine a1f hax7 ?_
        refine a0c (a0d ?_)
        rcases a0h hm with ⟨hb8, hm⟩ | ⟨hb8, hm⟩
        ·refine a0t 110 rfl hb8 ?_
         refine a0z rfl (a0f (a0a (a0b rfl rfl rfl (a0c (a0d (a1d (a0j ?_)))))))
         refine a1j rfl rfl ?_
         obtain rfl := Option.some.inj hm
         exact ⟨_, _, _, rfl, hx42.pick [] (by decide) rfl, rfl, rfl⟩
        ·refine a0t 110 rfl hb8 ?_
         refine a0s rfl (a1e (a0d (a0f ?_)))
         refine a2g (SH Fx20 [.box b15 37 [.int .i64 v12.1.P.Sign, .slice as22 ns22 cs22, .int .i64 v12.1.Q.Sign, .slice as23 ns23 cs23], .box b14 37 [.int .i64 v11.1.P.Sign, .slice as20 ns20 cs20, .int .i64 v11.1.Q.Sign, .slice as21 ns21 cs21], .box b11 37 [.int .i64 v10.1.P.Sign, .slice as18 ns18 cs18, .int .i64 v10.1.Q.Sign, .slice as19 ns19 cs19], .box b10 24 [.int .i64 f9, .int .i64 f10, vs f11, .slice as17 ns17 cs17], .box b9 24 [.int .i64 v9.Op, .int .i64 v9.N, vs v9.Name, .slice as16 ns16 cs16], .box b8 37 [.int .i64 v6.1.P.Sign, .slice as12 ns12 cs12, .int .i64 v6.1.Q.Sign, .slice as13 ns13 cs13], .box b7 24 [.int .i64 f5, .int .i64 f6, vs f7, .slice as9 ns9 cs9], .box b6 37 [.int .i64 f1, .slice as7 ns7 cs7, .int .i64 f3, .slice as8 ns8 cs8], .box b5 24 [.int .i64 2, .int .i64 0, vs [], .slice none 0 0], .box b4 24 [.int .i64 4, .int .i64 0, vs [112, 97, 112, 101, 114], .slice none 0 0], .box b2 37 [.int .i64 v2.1.P.Sign, .slice as3 ns3 cs3, .int .i64 v2.1.Q.Sign, .slice as4 ns4 cs4], .box b1 37 [.int .i64 v1.1.P.Sign, .slice as1 ns1 cs1, .int .i64 v1.1.Q.Sign, .slice as2 ns2 cs2]]) 19 rfl (by kernel_rfl) hx42 ?_
         intro wx42 hx43
         refine d_tk 0 rfl (by kernel_rfl) rfl rfl rfl rfl (hx43.sh (Frz.refl _) [0, 1, 2, 3, 4, 5, 6, 7, 8, 9, 10, 11] (by decide) rfl) (fun _ _ _ _ hq => a0l ag37 sz37 rfl rfl hq rfl (i := 7) rfl rfl (a0c (qq rfl))) ?_
         refine d_tk 1 rfl (by kernel_rfl) rfl rfl rfl rfl (hx43.sh (Frz.refl _) [0, 1, 2, 3, 4, 5, 6, 7, 8, 9, 10, 11] (by decide) rfl) (fun _ _ _ _ hq => a0l ag37 sz37 rfl rfl hq rfl (i := 10) rfl rfl (a0c (qq rfl))) ?_
         refine a0w 2 rfl (by kernel_rfl) ?_
         have hG4 := (((((((((((((hF6.trans hF7).trans hF8).trans hF9).trans hF10).trans hF11).trans hF12).trans hF13).trans hF14).trans hF15).trans hF16).trans hF17).trans hF18).trans hF19).trans hF20
         have hG5 := ((((((((((((((((hF3.trans hF4).trans hF5).trans hF6).trans hF7).trans hF8).trans hF9).trans hF10).trans hF11).trans hF12).trans hF13).trans hF14).trans hF15).trans hF16).trans hF17).trans hF18).trans hF19).trans hF20
         obtain ⟨v17, hv13, hm⟩ := bind_some hm
         refine a0i ent11 rfl rfl rfl rfl hx43 (a4w _ _ _ _ hv13 hx43.sat (hs7.mono hG4) (hs8.mono hG4) (hs3.mono hG5) (hs4.mono hG5)) ?_
         rintro _ Fx21 _ wx43 hF21 hx44 ⟨rfl, rfl⟩
         refine a0r (hx44.sh hF21 [0, 1, 2, 3, 4, 5, 6, 7, 8, 9, 10, 11] (by decide) rfl) ?_
         refine d_tk 3 rfl (by kernel_rfl) rfl rfl rfl rfl (hx44.sh hF21 [0, 1, 2, 3, 4, 5, 6, 7, 8, 9, 10, 11] (by decide) rfl) (fun _ _ _ _ _ => a0e rfl rfl rfl (a0c (qq rfl))) ?_
         obtain ⟨v18, hb9, hm⟩ := bind_some hm
         refine b2y (fuel' := 11) (listed' := #[true, true, true, true, true, true, true, true, false, false, false, false, false, false, false, false, false, false, false]) (fun a w' => ∃ (Fx22 : Frz), Frz.le Fx21 Fx22 ∧ HS F w [] Fx22 [.box b15 37 [.int .i64 v12.1.P.Sign, .slice as22 ns22 cs22, .int .i64 v12.1.Q.Sign, .slice as23 ns23 cs23], .box b14 37 [.int .i64 v11.1.P.Sign, .slice as20 ns20 cs20, .int .i64 v11.1.Q.Sign, .slice as21 ns21 cs21], .box b11 37 [.int .i64 v10.1.P.Sign, .slice as18 ns18 cs18, .int .i64 v10.1.Q.Sign, .slice as19 ns19 cs19], .box b10 24 [.int .i64 f9, .int .i64 f10, vs f11, .slice as17 ns17 cs17], .box b9 24 [.int .i64 v9.Op, .int .i64 v9.N, vs v9.Name, .slice as16 ns16 cs16], .box b8 37 [.int .i64 v6.1.P.Sign, .slice as12 ns12 cs12, .int .i64 v6.1.Q.Sign, .slice as13 ns13 cs13], .box b7 24 [.int .i64 f5, .int .i64 f6, vs f7, .slice as9 ns9 cs9], .box b6 37 [.int .i64 f1, .slice as7 ns7 cs7, .int .i64 f3, .slice as8 ns8 cs8], .box b5 24 [.int .i64 2, .int .i64 0, vs [], .slice none 0 0], .box b4 24 [.int .i64 4, .int .i64 0, vs [112, 97, 112, 101, 114], .slice none 0 0], .box b2 37 [.int .i64 v2.1.P.Sign, .slice as3 ns3 cs3, .int .i64 v2.1.Q.Sign, .slice as4 ns4 cs4], .box b1 37 [.int .i64 v1.1.P.Sign, .slice as1 ns1 cs1, .int .i64 v1.1.Q.Sign, .slice as2 ns2 cs2]] w' ∧ Has 129 a [(15, .pointer (some ⟨b11, 0, none⟩)), (17, .pointer (some ⟨b14, 0, none⟩)), (118, .bool v18)]) ?_ (fun hK1 => ?_)
         ·rintro a wx44 ⟨Fx22, hF22, hx45, hax8⟩
          refine a5s hax8 ?_
          refine d_tk 8 rfl (by kernel_rfl) rfl rfl rfl rfl (hx45.sh (hF21.trans hF22) [0, 1, 2, 3, 4, 5, 6, 7, 8, 9, 10, 11] (by decide) rfl) (fun _ _ _ _ _ => a0e rfl rfl rfl (a0c (qq rfl))) ?_
          obtain ⟨v19, hb10, hm⟩ := bind_some hm
          refine b2y (fuel' := 6) (listed' := #[true, true, true, true, true, true, true, true, true, true, true, true, true, false, false, false, false, false, false]) (fun a w' => ∃ (Fx23 : Frz), Frz.le Fx22 Fx23 ∧ HS F w [] Fx23 [.box b15 37 [.int .i64 v12.1.P.Sign, .slice as22 ns22 cs22, .int .i64 v12.1.Q.Sign, .slice as23 ns23 cs23], .box b14 37 [.int .i64 v11.1.P.Sign, .slice as20 ns20 cs20, .int .i64 v11.1.Q.Sign, .slice as21 ns21 cs21], .box b11 37 [.int .i64 v10.1.P.Sign, .slice as18 ns18 cs18, .int .i64 v10.1.Q.Sign, .slice as19 ns19 cs19], .box b10 24 [.int .i64 f9, .int .i64 f10, vs f11, .slice as17 ns17 cs17], .box b9 24 [.int .i64 v9.Op, .int .i64 v9.N, vs v9.Name, .slice as16 ns16 cs16], .box b8 37 [.int .i64 v6.1.P.Sign, .slice as12 ns12 cs12, .int .i64 v6.1.Q.Sign, .slice as13 ns13 cs13], .box b7 24 [.int .i64 f5, .int .i64 f6, vs f7, .slice as9 ns9 cs9], .box b6 37 [.int .i64 f1, .slice as7 ns7 cs7, .int .i64 f3, .slice as8 ns8 cs8], .box b5 24 [.int .i64 2, .int .i64 0, vs [], .slice none 0 0], .box b4 24 [.int .i64 4, .int .i64 0, vs [112, 97, 112, 101, 114], .slice none 0 0], .box b2 37 [.int .i64 v2.1.P.Sign, .slice as3 ns3 cs3, .int .i64 v2.1.Q.Sign, .slice as4 ns4 cs4], .box b1 37 [.int .i64 v1.1.P.Sign, .slice as1 ns1 cs1, .int .i64 v1.1.Q.Sign, .slice as2 ns2 cs2]] w' ∧ Has 129 a [(17, .pointer (some ⟨b14, 0, none⟩)), (123, .bool v19)]) ?_ (fun hK2 => ?_)
          ·rintro a wx45 ⟨Fx23, hF23, hx46, hax9⟩
           refine a5s hax9 ?_
           refine d_tk 13 rfl (by kernel_rfl) rfl rfl rfl rfl (hx46.sh ((hF21.trans hF22).trans hF23) [0, 1, 2, 3, 4, 5, 6, 7, 8, 9, 10, 11] (by decide) rfl) (fun _ _ _ _ _ => a0e rfl rfl rfl (a0c (qq rfl))) ?_
           obtain ⟨v20, hb11, hm⟩ := bind_some hm
           refine b2y (fuel' := 1) (listed' := #[true, true, true, true, true, true, true, true, true, true, true, true, true, true, true, true, true, true, false]) (fun a w' => ∃ (Fx24 : Frz), Frz.le Fx23 Fx24 ∧ HS F w [] Fx24 [.box b15 37 [.int .i64 v12.1.P.Sign, .slice as22 ns22 cs22, .int .i64 v12.1.Q.Sign, .slice as23 ns23 cs23], .box b14 37 [.int .i64 v11.1.P.Sign, .slice as20 ns20 cs20, .int .i64 v11.1.Q.Sign, .slice as21 ns21 cs21], .box b11 37 [.int .i64 v10.1.P.Sign, .slice as18 ns18 cs18, .int .i64 v10.1.Q.Sign, .slice as19 ns19 cs19], .box b10 24 [.int .i64 f9, .int .i64 f10, vs f11, .slice as17 ns17 cs17], .box b9 24 [.int .i64 v9.Op, .int .i64 v9.N, vs v9.Name, .slice as16 ns16 cs16], .box b8 37 [.int .i64 v6.1.P.Sign, .slice as12 ns12 cs12, .int .i64 v6.1.Q.Sign, .slice as13 ns13 cs13], .box b7 24 [.int .i64 f5, .int .i64 f6, vs f7, .slice as9 ns9 cs9], .box b6 37 [.int .i64 f1, .slice as7 ns7 cs7, .int .i64 f3, .slice as8 ns8 cs8], .box b5 24 [.int .i64 2, .int .i64 0, vs [], .slice none 0 0], .box b4 24 [.int .i64 4, .int .i64 0, vs [112, 97, 112, 101, 114], .slice none 0 0], .box b2 37 [.int .i64 v2.1.P.Sign, .slice as3 ns3 cs3, .int .i64 v2.1.Q.Sign, .slice as4 ns4 cs4], .box b1 37 [.int .i64 v1.1.P.Sign, .slice as1 ns1 cs1, .int .i64 v1.1.Q.Sign, .slice as2 ns2 cs2]] w' ∧ Has 129 a [(128, .bool v20)]) ?_ (fun hK3 => ?_)
           ·rintro a wx46 ⟨Fx24, hF24, hx47, hax10⟩
            refine a5s hax10 ?_
            refine d_tk 18 rfl (by kernel_rfl) rfl rfl rfl rfl (hx47.sh (((hF21.trans hF22).trans hF23).trans hF24) [0, 1, 2, 3, 4, 5, 6, 7, 8, 9, 10, 11] (by decide) rfl) (fun _ _ _ _ _ => a0b rfl rfl rfl (a0c (qq rfl))) ?_
            refine a2t (by kernel_rfl) ?_
            refine a0d (a1d ?_)
            refine a1j rfl rfl ?_
            obtain rfl := Option.some.inj hm
            exact ⟨_, _, _, rfl, hx47.pick [] (by decide) rfl, rfl, rfl⟩
           ·clear hm
            rcases a0h hb11 with ⟨hb12, hb11⟩ | ⟨hb12, hb11⟩
            ·refine a7t 124 rfl hb12 ?_
             refine d_tk 14 rfl (by kernel_rfl) rfl rfl rfl rfl (hx46.sh ((hF21.trans hF22).trans hF23) [0, 1, 2, 3, 4, 5, 6, 7, 8, 9, 10, 11] (by decide) rfl) (fun _ _ _ _ hq => a0l ag37 sz37 rfl rfl hq rfl (i := 1) rfl rfl (a0c (qq rfl))) ?_
             refine a0w 15 rfl (by kernel_rfl) ?_
             obtain ⟨v21, hv14, hb11⟩ := bind_some hb11
             refine a0i ent12 rfl rfl rfl rfl hx46 (a6z _ _ _ hv14 hx46.sat) ?_
             rintro _ Fx25 _ wx47 hF25 hx48 ⟨as24, ns24, cs24, as25, ns25, cs25, rfl, rfl, hs24, hs25⟩
             refine a0r (hx48.sh (((hF21.trans hF22).trans hF23).trans hF25) [0, 1, 2, 3, 4, 5, 6, 7, 8, 9, 10, 11] (by decide) rfl) ?_
             refine a0w 16 rfl (by kernel_rfl) ?_
             have hG6 := (((hF20.trans hF21).trans hF22).trans hF23).trans hF25
             obtain ⟨v22, hv15, hb11⟩ := bind_some hb11
             refine a0i ent11 rfl rfl rfl rfl hx48 (a4w _ _ _ _ hv15 hx48.sat (hs20.mono hG6) (hs21.mono hG6) hs24 hs25) ?_
             rintro _ Fx26 _ wx48 hF26 hx49 ⟨rfl, rfl⟩
             refine a0r (hx49.sh ((((hF21.trans hF22).trans hF23).trans hF25).trans hF26) [0, 1, 2, 3, 4, 5, 6, 7, 8, 9, 10, 11] (by decide) rfl) ?_
             refine d_tk 17 rfl (by kernel_rfl) rfl rfl rfl rfl (hx49.sh ((((hF21.trans hF22).trans hF23).trans hF25).trans hF26) [0, 1, 2, 3, 4, 5, 6, 7, 8, 9, 10, 11] (by decide) rfl) (fun _ _ _ _ _ => a0n rfl rfl rfl rfl (a0c (qq rfl))) ?_
             refine a7r hK3 (by kernel_rfl) (fun a ha => ?_)
             cases hb11
             exact ⟨_, (hF25.trans hF26), hx49.pick [0, 1, 2, 3, 4, 5, 6, 7, 8, 9, 10, 11] (by decide) rfl, ha.cut (l := [128]) rfl⟩
            ·refine a7t 124 rfl hb12 ?_
             refine d_of 14 rfl (by kernel_rfl) rfl rfl rfl (hx46.sh ((hF21.trans hF22).trans hF23) [0, 1, 2, 3, 4, 5, 6, 7, 8, 9, 10, 11] (by decide) rfl) ?_
             refine d_of 15 rfl (by kernel_rfl) rfl rfl rfl (hx46.sh ((hF21.trans hF22).trans hF23) [0, 1, 2, 3, 4, 5, 6, 7, 8, 9, 10, 11] (by decide) rfl) ?_
             refine d_of 16 rfl (by kernel_rfl) rfl rfl rfl (hx46.sh ((hF21.trans hF22).trans hF23) [0, 1, 2, 3, 4, 5, 6, 7, 8, 9, 10, 11] (by decide) rfl) ?_
             refine d_tk 17 rfl (by kernel_rfl) rfl rfl rfl rfl (hx46.sh ((hF21.trans hF22).trans hF23) [0, 1, 2, 3, 4, 5, 6, 7, 8, 9, 10, 11] (by decide) rfl) (fun _ _ _ _ _ => a0m rfl rfl rfl rfl (a0c (qq rfl))) ?_
             refine a7r hK3 (by kernel_rfl) (fun a ha => ?_)
             cases hb11
             exact ⟨_, Frz.refl _, hx46.pick [0, 1, 2, 3, 4, 5, 6, 7, 8, 9, 10, 11] (by decide) rfl, ha.cut (l := [128]) rfl⟩
          ·clear hm
           rcases a0h hb10 with ⟨hb13, hb10⟩ | ⟨hb13, hb10⟩
           ·refine a7t 119 rfl hb13 ?_
            refine d_tk 9 rfl (by kernel_rfl) rfl rfl rfl rfl (hx45.sh (hF21.trans hF22) [0, 1, 2, 3, 4, 5, 6, 7, 8, 9, 10, 11] (by decide) rfl) (fun _ _ _ _ hq => a0l ag37 sz37 rfl rfl hq rfl (i := 2) rfl rfl (a0c (qq rfl))) ?_
            refine a0w 10 rfl (by kernel_rfl) ?_
            obtain ⟨v23, hv16, hb10⟩ := bind_some hb10
            refine a0i ent12 rfl rfl rfl rfl hx45 (a6z _ _ _ hv16 hx45.sat) ?_
            rintro _ Fx27 _ wx49 hF27 hx50 ⟨as26, ns26, cs26, as27, ns27, cs27, rfl, rfl, hs26, hs27⟩
            refine a0r (hx50.sh ((hF21.trans hF22).trans hF27) [0, 1, 2, 3, 4, 5, 6, 7, 8, 9, 10, 11] (by decide) rfl) ?_
            refine a0w 11 rfl (by kernel_rfl) ?_
            have hG7 := (((((hF17.trans hF18).trans hF19).trans hF20).trans hF21).trans hF22).trans hF27
            obtain ⟨v24, hv17, hb10⟩ := bind_some hb10
            refine a0i ent11 rfl rfl rfl rfl hx50 (a4w _ _ _ _ hv17 hx50.sat (hs18.mono hG7) (hs19.mono hG7) hs26 hs27) ?_
            rintro _ Fx28 _ wx50 hF28 hx51 ⟨rfl, rfl⟩
            refine a0r (hx51.sh (((hF21.trans hF22).trans hF27).trans hF28) [0, 1, 2, 3, 4, 5, 6, 7, 8, 9, 10, 11] (by decide) rfl) ?_
            refine d_tk 12 rfl (by kernel_rfl) rfl rfl rfl rfl (hx51.sh (((hF21.trans hF22).trans hF27).trans hF28) [0, 1, 2, 3, 4, 5, 6, 7, 8, 9, 10, 11] (by decide) rfl) (fun _ _ _ _ _ => a0n rfl rfl rfl rfl (a0c (qq rfl))) ?_
            refine a7r hK2 (by kernel_rfl) (fun a ha => ?_)
            cases hb10
            exact ⟨_, (hF27.trans hF28), hx51.pick [0, 1, 2, 3, 4, 5, 6, 7, 8, 9, 10, 11] (by decide) rfl, ha.cut (l := [17, 123]) rfl⟩
           ·refine a7t 119 rfl hb13 ?_
            refine d_of 9 rfl (by kernel_rfl) rfl rfl rfl (hx45.sh (hF21.trans hF22) [0, 1, 2, 3, 4, 5, 6, 7, 8, 9, 10, 11] (by decide) rfl) ?_
            refine d_of 10 rfl (by kernel_rfl) rfl rfl rfl (hx45.sh (hF21.trans hF22) [0, 1, 2, 3, 4, 5, 6, 7, 8, 9, 10, 11] (by decide) rfl) ?_
            refine d_of 11 rfl (by kernel_rfl) rfl rfl rfl (hx45.sh (hF21.trans hF22) [0, 1, 2, 3, 4, 5, 6, 7, 8, 9, 10, 11] (by decide) rfl) ?_
            refine d_tk 12 rfl (by kernel_rfl) rfl rfl rfl rfl (hx45.sh (hF21.trans hF22) [0, 1, 2, 3, 4, 5, 6, 7, 8, 9, 10, 11] (by decide) rfl) (fun _ _ _ _ _ => a0m rfl rfl rfl rfl (a0c (qq rfl))) ?_
            refine a7r hK2 (by kernel_rfl) (fun a ha => ?_)
            cases hb10
            exact ⟨_, Frz.refl _, hx45.pick [0, 1, 2, 3, 4, 5, 6, 7, 8, 9, 10, 11] (by decide) rfl, ha.cut (l := [17, 123]) rfl⟩
         ·clear hm
          rcases a0h hb9 with ⟨hb14, hb9⟩ | ⟨hb14, hb9⟩
          ·refine a7t 114 rfl hb14 ?_
           refine d_tk 4 rfl (by kernel_rfl) rfl rfl rfl rfl (hx44.sh hF21 [0, 1, 2, 3, 4, 5, 6, 7, 8, 9, 10, 11] (by decide) rfl) (fun _ _ _ _ hq => a0l ag37 sz37 rfl rfl hq rfl (i := 5) rfl rfl (a0c (qq rfl))) ?_
           refine a0w 5 rfl (by kernel_rfl) ?_
           obtain ⟨v25, hv18, hb9⟩ := bind_some hb9
           refine a0i ent12 rfl rfl rfl rfl hx44 (a6z _ _ _ hv18 hx44.sat) ?_
           rintro _ Fx29 _ wx51 hF29 hx52 ⟨as28, ns28, cs28, as29, ns29, cs29, rfl, rfl, hs28, hs29⟩
           refine a0r (hx52.sh (hF21.trans hF29) [0, 1, 2, 3, 4, 5, 6, 7, 8, 9, 10, 11] (by decide) rfl) ?_
           refine a0w 6 rfl (by kernel_rfl) ?_
           have hG8 := ((((((((((hF11.trans hF12).trans hF13).trans hF14).trans hF15).trans hF16).trans hF17).trans hF18).trans hF19).trans hF20).trans hF21).trans hF29
           obtain ⟨v26, hv19, hb9⟩ := bind_some hb9
           refine a0i ent11 rfl rfl rfl rfl hx52 (a4w _ _ _ _ hv19 hx52.sat (hs12.mono hG8) (hs13.mono hG8) hs28 hs29) ?_
           rintro _ Fx30 _ wx52 hF30 hx53 ⟨rfl, rfl⟩
           refine a0r (hx53.sh ((hF21.trans hF29).trans hF30) [0, 1, 2, 3, 4, 5, 6, 7, 8, 9, 10, 11] (by decide) rfl) ?_
           refine d_tk 7 rfl (by kernel_rfl) rfl rfl rfl rfl (hx53.sh ((hF21.trans hF29).trans hF30) [0, 1, 2, 3, 4, 5, 6, 7, 8, 9, 10, 11] (by decide) rfl) (fun _ _ _ _ _ => a0n rfl rfl rfl rfl (a0c (qq rfl))) ?_
           refine a7r hK1 (by kernel_rfl) (fun a ha => ?_)
           cases hb9
           exact ⟨_, (hF29.trans hF30), hx53.pick [0, 1, 2, 3, 4, 5, 6, 7, 8, 9, 10, 11] (by decide) rfl, ha.cut (l := [15, 17, 118]) rfl⟩
          ·refine a7t 114 rfl hb14 ?_
           refine d_of 4 rfl (by kernel_rfl) rfl rfl rfl (hx44.sh hF21 [0, 1, 2, 3, 4, 5, 6, 7, 8, 9, 10, 11] (by decide) rfl) ?_
           refine d_of 5 rfl (by kernel_rfl) rfl rfl rfl (hx44.sh hF21 [0, 1, 2, 3, 4, 5, 6, 7, 8, 9, 10, 11] (by decide) rfl) ?_
           refine d_of 6 rfl (by kernel_rfl) rfl rfl rfl (hx44.sh hF21 [0, 1, 2, 3, 4, 5, 6, 7, 8, 9, 10, 11] (by decide) rfl) ?_
           refine d_tk 7 rfl (by kernel_rfl) rfl rfl rfl rfl (hx44.sh hF21 [0, 1, 2, 3, 4, 5, 6, 7, 8, 9, 10, 11] (by decide) rfl) (fun _ _ _ _ _ => a0m rfl rfl rfl rfl (a0c (qq rfl))) ?_
           refine a7r hK1 (by kernel_rfl) (fun a ha => ?_)
           cases hb9
           exact ⟨_, Frz.refl _, hx44.pick [0, 1, 2, 3, 4, 5, 6, 7, 8, 9, 10, 11] (by decide) rfl, ha.cut (l := [15, 17, 118]) rfl⟩
       ·clear hm
        rcases a0h hb7 with ⟨hb15, hb7⟩ | ⟨hb15, hb7⟩
        ·refine a1i 107 rfl hb15 ?_
         refine a0y rfl (by decide) rfl (a0y rfl (by decide) rfl (a0n rfl rfl rfl rfl (a0c ?_)))
         refine a0o (fun a ha => ?_)
         cases hb7
         exact ⟨rfl, ha.cut (l := [3, 8, 11, 15, 17, 110]) rfl⟩
        ·refine a1i 107 rfl hb15 ?_
         refine a0e rfl rfl rfl ?_
         refine a0u rfl rfl rfl rfl rfl ?_
         refine a0m rfl rfl rfl rfl (a0c ?_)
         refine a0o (fun a ha => ?_)
         cases hb7
         exact ⟨rfl, ha.cut (l := [3, 8, 11, 15, 17, 110]) rfl⟩
      ·clear hm
       rcases a0h hb6 with ⟨hb16, hb6⟩ | ⟨hb16, hb6⟩
       ·refine a1i 103 rfl hb16 ?_
        refine a0y rfl (by decide) rfl (a0y rfl (by decide) rfl (a0n rfl rfl rfl rfl (a0c ?_)))
        refine a0o (fun a ha => ?_)
        cases hb6
        exact ⟨rfl, ha.cut (l := [3, 8, 11, 15, 17, 20, 106]) rfl⟩
       ·refine a1i 103 rfl hb16 ?_
        refine a0e rfl rfl rfl ?_
        refine a0u rfl rfl rfl rfl rfl ?_
        refine a0m rfl rfl rfl rfl (a0c ?_)
        refine a0o (fun a ha => ?_)
        cases hb6
        exact ⟨rfl, ha.cut (l := [3, 8, 11, 15, 17, 20, 106]) rfl⟩
     ·clear hm
      rcases a0h hb5 with ⟨hb17, hb5⟩ | ⟨hb17, hb5⟩
      ·refine a1i 99 rfl hb17 ?_
       refine a0y rfl (by decide) rfl (a0y rfl (by decide) rfl (a0n rfl rfl rfl rfl (a0c ?_)))
       refine a0o (fun a ha => ?_)
       cases hb5
       exact ⟨rfl, ha.cut (l := [3, 8, 11, 15, 17, 18, 20, 102]) rfl⟩
      ·refine a1i 99 rfl hb17 ?_
       refine a0e rfl rfl rfl ?_
       refine a0u rfl rfl rfl rfl rfl ?_
       refine a0m rfl rfl rfl rfl (a0c ?_)
       refine a0o (fun a ha => ?_)
       cases hb5
       exact ⟨rfl, ha.cut (l := [3, 8, 11, 15, 17, 18, 20, 102]) rfl⟩
    ·clear hm
     rcases a0h hb4 with ⟨hb18, hb4⟩ | ⟨hb18, hb4⟩
     ·refine a1i 95 rfl hb18 ?_
      refine a0y rfl (by decide) rfl (a0y rfl (by decide) rfl (a0n rfl rfl rfl rfl (a0c ?_)))
      refine a0o (fun a ha => ?_)
      cases hb4
      exact ⟨rfl, ha.cut (l := [3, 8, 11, 15, 16, 17, 18, 20, 98]) rfl⟩
     ·refine a1i 95 rfl hb18 ?_
      refine a0e rfl rfl rfl ?_
      refine a0u rfl rfl rfl rfl rfl ?_
      refine a0m rfl rfl rfl rfl (a0c ?_)
      refine a0o (fun a ha => ?_)
      cases hb4
      exact ⟨rfl, ha.cut (l := [3, 8, 11, 15, 16, 17, 18, 20, 98]) rfl⟩
   ·clear hm
    refine a2g (SH Fx14 [.box b9 24 [.int .i64 v9.Op, .int .i64 v9.N, vs v9.Name, .slice as16 ns16 cs16], .box b8 37 [.int .i64 v6.1.P.Sign, .slice as12 ns12 cs12, .int .i64 v6.1.Q.Sign, .slice as13 ns13 cs13], .box b7 24 [.int .i64 f5, .int .i64 f6, vs f7, .slice as9 ns9 cs9], .box b6 37 [.int .i64 f1, .slice as7 ns7 cs7, .int .i64 f3, .slice as8 ns8 cs8], .box b5 24 [.int .i64 2, .int .i64 0, vs [], .slice none 0 0], .box b4 24 [.int .i64 4, .int .i64 0, vs [112, 97, 112, 101, 114], .slice none 0 0], .box b2 37 [.int .i64 v2.1.P.Sign, .slice as3 ns3 cs3, .int .i64 v2.1.Q.Sign, .slice as4 ns4 cs4], .box b1 37 [.int .i64 v1.1.P.Sign, .slice as1 ns1 cs1, .int .i64 v1.1.Q.Sign, .slice as2 ns2 cs2]]) 10 rfl (by kernel_rfl) hx28 ?_
    intro wx53 hx54
    refine d_tk 0 rfl (by kernel_rfl) rfl rfl rfl rfl (hx54.sh (Frz.refl _) [0, 1, 2, 3, 4, 5, 6, 7] (by decide) rfl) (fun _ _ _ _ hq => a0l ag24 sz24 rfl rfl hq rfl (i := 4) rfl rfl (a0c (qq rfl))) ?_
    refine d_tk 5 rfl (by kernel_rfl) rfl rfl rfl rfl (hx54.sh (Frz.refl _) [0, 1, 2, 3, 4, 5, 6, 7] (by decide) rfl) (fun _ _ _ _ hq => a0l ag24 sz24 rfl rfl hq rfl (i := 0) rfl rfl (a0c (qq rfl))) ?_
    refine b0b 1 8 rfl rfl (by kernel_rfl) ?_ ?_
    ·obtain ⟨v27, hv20, hb3⟩ := bind_some hb3
     refine a0i ent19 rfl rfl rfl rfl hx54 (a2y _ _ _ hv20 hx54.sat) ?_
     rintro _ Fx31 _ wx54 hF31 hx55 ⟨as30, ns30, cs30, rfl, rfl, hs30⟩
     refine a0r (hx55.sh hF31 [0, 1, 2, 3, 4, 5, 6, 7] (by decide) rfl) ?_
     refine b0b 2 8 rfl rfl (by kernel_rfl) ?_ ?_
     ·obtain ⟨v28, hv21, hb3⟩ := bind_some hb3
      refine a0i ent10 rfl rfl rfl rfl hx55 (a2i _ _ _ _ hv21 hx55.sat (SlR.nil _ _) hs30) ?_
      rintro _ Fx32 _ wx55 hF32 hx56 ⟨as31, ns31, cs31, xss31, rfl, rfl, hs31⟩
      refine a0r (hx56.sh (hF31.trans hF32) [1, 2, 3, 4, 5, 6, 7, 8] (by decide) rfl) ?_
      refine b0b 3 8 rfl rfl (by kernel_rfl) ?_ ?_
      ·obtain ⟨Fx33, hF33, hx57, hsx6⟩ := a1b hx56 (i := 0) rfl hs31
       obtain ⟨v29, hv22, hb3⟩ := bind_some hb3
       refine a0i ent9 rfl rfl rfl rfl hx57 (a1k _ _ _ _ hv22 hx57.sat hsx6) ?_
       rintro _ Fx34 _ wx56 hF34 hx58 ⟨as32, ns32, cs32, rfl, rfl, hs32⟩
       refine a0r (hx58.sh (((hF31.trans hF32).trans hF33).trans hF34) [0, 1, 2, 3, 4, 5, 6, 7] (by decide) rfl) ?_
       refine b0b 4 8 rfl rfl (by kernel_rfl) ?_ ?_
       ·obtain ⟨v30, hv23, hb3⟩ := bind_some hb3
        refine a0i ent19 rfl rfl rfl rfl hx58 (a2y _ _ _ hv23 hx58.sat) ?_
        rintro _ Fx35 _ wx57 hF35 hx59 ⟨as33, ns33, cs33, rfl, rfl, hs33⟩
        refine a0r (hx59.sh ((((hF31.trans hF32).trans hF33).trans hF34).trans hF35) [0, 1, 2, 3, 4, 5, 6, 7] (by decide) rfl) ?_
        refine b0b 6 8 rfl rfl (by kernel_rfl) ?_ ?_
        ·refine a1q (e := 24) (cs := [.int .i64 v29.Op, .int .i64 v29.N, vs v29.Name, .slice as32 ns32 cs32, .int .i64 v30.Op, .int .i64 v30.N, vs v30.Name, .slice as33 ns33 cs33, .int .i64 v9.Op, .int .i64 v9.N, vs v9.Name, .slice as16 ns16 cs16]) (q := 4) rfl rfl hx59 rfl (fun _ => by kernel_rfl) rfl rfl ?_
         intro b16 wx58 hx60
         refine a0r (hx60.sh ((((hF31.trans hF32).trans hF33).trans hF34).trans hF35) [1, 2, 3, 4, 5, 6, 7, 8] (by decide) rfl) ?_
         refine b0b 7 8 rfl rfl (by kernel_rfl) ?_ ?_
         ·obtain ⟨Fx36, hF36, hx61, hsx7⟩ := a1b hx60 (i := 0) rfl ((show RowN rp_Expr Fx35 3 [.int .i64 v29.Op, .int .i64 v29.N, vs v29.Name, .slice as32 ns32 cs32, .int .i64 v30.Op, .int .i64 v30.N, vs v30.Name, .slice as33 ns33 cs33, .int .i64 v9.Op, .int .i64 v9.N, vs v9.Name, .slice as16 ns16 cs16] [v29, v30, v9] from ⟨rfl, ⟨_, _, rfl, (expr_iff.2 ⟨as32, ns32, cs32, rfl, (hs32.mono hF35)⟩), ⟨_, _, rfl, (expr_iff.2 ⟨as33, ns33, cs33, rfl, hs33⟩), ⟨_, _, rfl, (expr_iff.2 ⟨as16, ns16, cs16, rfl, (((((hs16.mono hF31).mono hF32).mono hF33).mono hF34).mono hF35)⟩), (rfl : RowR rp_Expr _ [] [])⟩⟩⟩⟩))
          obtain ⟨v31, hv24, hb3⟩ := bind_some hb3
          refine a0i ent9 rfl rfl rfl rfl hx61 (a1k _ _ _ _ hv24 hx61.sat hsx7) ?_
          rintro _ Fx37 _ wx59 hF37 hx62 ⟨as34, ns34, cs34, rfl, rfl, hs34⟩
          refine a0r (hx62.sh ((((((hF31.trans hF32).trans hF33).trans hF34).trans hF35).trans hF36).trans hF37) [0, 1, 2, 3, 4, 5, 6, 7] (by decide) rfl) ?_
          refine a0w 8 rfl (by kernel_rfl) ?_
          refine a1c ze24 rfl rfl rfl hx62 ?_
          intro b17 wx60 hx63
          refine a0r (hx63.sh ((((((hF31.trans hF32).trans hF33).trans hF34).trans hF35).trans hF36).trans hF37) [1, 2, 3, 4, 5, 6, 7, 8] (by decide) rfl) ?_
          refine a0w 9 rfl (by kernel_rfl) ?_
          refine a0q sz24 rfl hx63 rfl rfl rfl rfl (i := 0) rfl rfl rfl rfl ?_
          intro wx61 hx64
          refine a0r (hx64.sh ((((((hF31.trans hF32).trans hF33).trans hF34).trans hF35).trans hF36).trans hF37) [1, 2, 3, 4, 5, 6, 7, 8] (by decide) rfl) ?_
          refine a2t (by kernel_rfl) ?_
          refine a0o (fun a ha => ?_)
          cases hb3
          exact ⟨_, b17, as34, ns34, cs34, ((((((hF31.trans hF32).trans hF33).trans hF34).trans hF35).trans hF36).trans hF37), hx64.pick [0, 1, 2, 3, 4, 5, 6, 7, 8] (by decide) rfl, hs34, ha.cut (l := [3, 5, 8, 9, 11, 12, 14]) rfl⟩
         ·refine a1c ze24 rfl rfl rfl hx60 ?_
          intro b17 wx59 hx61
          refine a0r (hx61.sh ((((hF31.trans hF32).trans hF33).trans hF34).trans hF35) [2, 3, 4, 5, 6, 7, 8, 9] (by decide) rfl) ?_
          refine a0w 7 rfl (by kernel_rfl) ?_
          obtain ⟨Fx36, hF36, hx62, hsx7⟩ := a1b hx61 (i := 1) rfl ((show RowN rp_Expr Fx35 3 [.int .i64 v29.Op, .int .i64 v29.N, vs v29.Name, .slice as32 ns32 cs32, .int .i64 v30.Op, .int .i64 v30.N, vs v30.Name, .slice as33 ns33 cs33, .int .i64 v9.Op, .int .i64 v9.N, vs v9.Name, .slice as16 ns16 cs16] [v29, v30, v9] from ⟨rfl, ⟨_, _, rfl, (expr_iff.2 ⟨as32, ns32, cs32, rfl, (hs32.mono hF35)⟩), ⟨_, _, rfl, (expr_iff.2 ⟨as33, ns33, cs33, rfl, hs33⟩), ⟨_, _, rfl, (expr_iff.2 ⟨as16, ns16, cs16, rfl, (((((hs16.mono hF31).mono hF32).mono hF33).mono hF34).mono hF35)⟩), (rfl : RowR rp_Expr _ [] [])⟩⟩⟩⟩))
          obtain ⟨v31, hv24, hb3⟩ := bind_some hb3
          refine a0i ent9 rfl rfl rfl rfl hx62 (a1k _ _ _ _ hv24 hx62.sat hsx7) ?_
          rintro _ Fx37 _ wx60 hF37 hx63 ⟨as34, ns34, cs34, rfl, rfl, hs34⟩
          refine a0r (hx63.sh ((((((hF31.trans hF32).trans hF33).trans hF34).trans hF35).trans hF36).trans hF37) [1, 2, 3, 4, 5, 6, 7, 8] (by decide) rfl) ?_
          refine a0w 9 rfl (by kernel_rfl) ?_
          refine a0q sz24 rfl hx63 rfl rfl rfl rfl (i := 0) rfl rfl rfl rfl ?_
          intro wx61 hx64
          refine a0r (hx64.sh ((((((hF31.trans hF32).trans hF33).trans hF34).trans hF35).trans hF36).trans hF37) [1, 2, 3, 4, 5, 6, 7, 8] (by decide) rfl) ?_
          refine a2t (by kernel_rfl) ?_
          refine a0o (fun a ha => ?_)
          cases hb3
          exact ⟨_, b17, as34, ns34, cs34, ((((((hF31.trans hF32).trans hF33).trans hF34).trans hF35).trans hF36).trans hF37), hx64.pick [0, 1, 2, 3, 4, 5, 6, 7, 8] (by decide) rfl, hs34, ha.cut (l := [3, 5, 8, 9, 11, 12, 14]) rfl⟩
        ·refine a1c ze24 rfl rfl rfl hx59 ?_
         intro b16 wx58 hx60
         refine a0r (hx60.sh ((((hF31.trans hF32).trans hF33).trans hF34).trans hF35) [1, 2, 3, 4, 5, 6, 7, 8] (by decide) rfl) ?_
         refine a0w 6 rfl (by kernel_rfl) ?_
         refine a1q (e := 24) (cs := [.int .i64 v29.Op, .int .i64 v29.N, vs v29.Name, .slice as32 ns32 cs32, .int .i64 v30.Op, .int .i64 v30.N, vs v30.Name, .slice as33 ns33 cs33, .int .i64 v9.Op, .int .i64 v9.N, vs v9.Name, .slice as16 ns16 cs16]) (q := 4) rfl rfl hx60 rfl (fun _ => by kernel_rfl) rfl rfl ?_
         intro b17 wx59 hx61
         refine a0r (hx61.sh ((((hF31.trans hF32).trans hF33).trans hF34).trans hF35) [2, 3, 4, 5, 6, 7, 8, 9] (by decide) rfl) ?_
         refine a0w 7 rfl (by kernel_rfl) ?_
         obtain ⟨Fx36, hF36, hx62, hsx7⟩ := a1b hx61 (i := 0) rfl ((show RowN rp_Expr Fx35 3 [.int .i64 v29.Op, .int .i64 v29.N, vs v29.Name, .slice as32 ns32 cs32, .int .i64 v30.Op, .int .i64 v30.N, vs v30.Name, .slice as33 ns33 cs33, .int .i64 v9.Op, .int .i64 v9.N, vs v9.Name, .slice as16 ns16 cs16] [v29, v30, v9] from ⟨rfl, ⟨_, _, rfl, (expr_iff.2 ⟨as32, ns32, cs32, rfl, (hs32.mono hF35)⟩), ⟨_, _, rfl, (expr_iff.2 ⟨as33, ns33, cs33, rfl, hs33⟩), ⟨_, _, rfl, (expr_iff.2 ⟨as16, ns16, cs16, rfl, (((((hs16.mono hF31).mono hF32).mono hF33).mono hF34).mono hF35)⟩), (rfl : RowR rp_Expr _ [] [])⟩⟩⟩⟩))
         obtain ⟨v31, hv24, hb3⟩ := bind_some hb3
         refine a0i ent9 rfl rfl rfl rfl hx62 (a1k _ _ _ _ hv24 hx62.sat hsx7) ?_
         rintro _ Fx37 _ wx60 hF37 hx63 ⟨as34, ns34, cs34, rfl, rfl, hs34⟩
         refine a0r (hx63.sh ((((((hF31.trans hF32).trans hF33).trans hF34).trans hF35).trans hF36).trans hF37) [1, 2, 3, 4, 5, 6, 7, 8] (by decide) rfl) ?_
         refine a0w 9 rfl (by kernel_rfl) ?_
         refine a0q sz24 rfl hx63 rfl rfl rfl rfl (i := 0) rfl rfl rfl rfl ?_
         intro wx61 hx64
         refine a0r (hx64.sh ((((((hF31.trans hF32).trans hF33).trans hF34).trans hF35).trans hF36).trans hF37) [1, 2, 3, 4, 5, 6, 7, 8] (by decide) rfl) ?_
         refine a2t (by kernel_rfl) ?_
         refine a0o (fun a ha => ?_)
         cases hb3
         exact ⟨_, b16, as34, ns34, cs34, ((((((hF31.trans hF32).trans hF33).trans hF34).trans hF35).trans hF36).trans hF37), hx64.pick [0, 1, 2, 3, 4, 5, 6, 7, 8] (by decide) rfl, hs34, ha.cut (l := [3, 5, 8, 9, 11, 12, 14]) rfl⟩
       ·refine a1c ze24 rfl rfl rfl hx58 ?_
        intro b16 wx57 hx59
        refine a0r (hx59.sh (((hF31.trans hF32).trans hF33).trans hF34) [1, 2, 3, 4, 5, 6, 7, 8] (by decide) rfl) ?_
        refine a0w 4 rfl (by kernel_rfl) ?_
        obtain ⟨v30, hv23, hb3⟩ := bind_some hb3
        refine a0i ent19 rfl rfl rfl rfl hx59 (a2y _ _ _ hv23 hx59.sat) ?_
        rintro _ Fx35 _ wx58 hF35 hx60 ⟨as33, ns33, cs33, rfl, rfl, hs33⟩
        refine a0r (hx60.sh ((((hF31.trans hF32).trans hF33).trans hF34).trans hF35) [1, 2, 3, 4, 5, 6, 7, 8] (by decide) rfl) ?_
        refine a0w 6 rfl (by kernel_rfl) ?_
        refine a1q (e := 24) (cs := [.int .i64 v29.Op, .int .i64 v29.N, vs v29.Name, .slice as32 ns32 cs32, .int .i64 v30.Op, .int .i64 v30.N, vs v30.Name, .slice as33 ns33 cs33, .int .i64 v9.Op, .int .i64 v9.N, vs v9.Name, .slice as16 ns16 cs16]) (q := 4) rfl rfl hx60 rfl (fun _ => by kernel_rfl) rfl rfl ?_
        intro b17 wx59 hx61
        refine a0r (hx61.sh ((((hF31.trans hF32).trans hF33).trans hF34).trans hF35) [2, 3, 4, 5, 6, 7, 8, 9] (by decide) rfl) ?_
        refine a0w 7 rfl (by kernel_rfl) ?_
        obtain ⟨Fx36, hF36, hx62, hsx7⟩ := a1b hx61 (i := 0) rfl ((show RowN rp_Expr Fx35 3 [.int .i64 v29.Op, .int .i64 v29.N, vs v29.Name, .slice as32 ns32 cs32, .int .i64 v30.Op, .int .i64 v30.N, vs v30.Name, .slice as33 ns33 cs33, .int .i64 v9.Op, .int .i64 v9.N, vs v9.Name, .slice as16 ns16 cs16] [v29, v30, v9] from ⟨rfl, ⟨_, _, rfl, (expr_iff.2 ⟨as32, ns32, cs32, rfl, (hs32.mono hF35)⟩), ⟨_, _, rfl, (expr_iff.2 ⟨as33, ns33, cs33, rfl, hs33⟩), ⟨_, _, rfl, (expr_iff.2 ⟨as16, ns16, cs16, rfl, (((((hs16.mono hF31).mono hF32).mono hF33).mono hF34).mono hF35)⟩), (rfl : RowR rp_Expr _ [] [])⟩⟩⟩⟩))
        obtain ⟨v31, hv24, hb3⟩ := bind_some hb3
        refine a0i ent9 rfl rfl rfl rfl hx62 (a1k _ _ _ _ hv24 hx62.sat hsx7) ?_
        rintro _ Fx37 _ wx60 hF37 hx63 ⟨as34, ns34, cs34, rfl, rfl, hs34⟩
        refine a0r (hx63.sh ((((((hF31.trans hF32).trans hF33).trans hF34).trans hF35).trans hF36).trans hF37) [1, 2, 3, 4, 5, 6, 7, 8] (by decide) rfl) ?_
        refine a0w 9 rfl (by kernel_rfl) ?_
        refine a0q sz24 rfl hx63 rfl rfl rfl rfl (i := 0) rfl rfl rfl rfl ?_
        intro wx61 hx64
        refine a0r (hx64.sh ((((((hF31.trans hF32).trans hF33).trans hF34).trans hF35).trans hF36).trans hF37) [1, 2, 3, 4, 5, 6, 7, 8] (by decide) rfl) ?_
        refine a2t (by kernel_rfl) ?_
        refine a0o (fun a ha => ?_)
        cases hb3
        exact ⟨_, b16, as34, ns34, cs34, ((((((hF31.trans hF32).trans hF33).trans hF34).trans hF35).trans hF36).trans hF37), hx64.pick [0, 1, 2, 3, 4, 5, 6, 7, 8] (by decide) rfl, hs34, ha.cut (l := [3, 5, 8, 9, 11, 12, 14]) rfl⟩
      ·refine a1c ze24 rfl rfl rfl hx56 ?_
       intro b16 wx56 hx57
       refine a0r (hx57.sh (hF31.trans hF32) [2, 3, 4, 5, 6, 7, 8, 9] (by decide) rfl) ?_
       refine a0w 3 rfl (by kernel_rfl) ?_
       obtain ⟨Fx33, hF33, hx58, hsx6⟩ := a1b hx57 (i := 1) rfl hs31
       obtain ⟨v29, hv22, hb3⟩ := bind_some hb3
       refine a0i ent9 rfl rfl rfl rfl hx58 (a1k _ _ _ _ hv22 hx58.sat hsx6) ?_
       rintro _ Fx34 _ wx57 hF34 hx59 ⟨as32, ns32, cs32, rfl, rfl, hs32⟩
       refine a0r (hx59.sh (((hF31.trans hF32).trans hF33).trans hF34) [1, 2, 3, 4, 5, 6, 7, 8] (by decide) rfl) ?_
       refine a0w 4 rfl (by kernel_rfl) ?_
       obtain ⟨v30, hv23, hb3⟩ := bind_some hb3
       refine a0i ent19 rfl rfl rfl rfl hx59 (a2y _ _ _ hv23 hx59.sat) ?_
       rintro _ Fx35 _ wx58 hF35 hx60 ⟨as33, ns33, cs33, rfl, rfl, hs33⟩
       refine a0r (hx60.sh ((((hF31.trans hF32).trans hF33).trans hF34).trans hF35) [1, 2, 3, 4, 5, 6, 7, 8] (by decide) rfl) ?_
       refine a0w 6 rfl (by kernel_rfl) ?_
       refine a1q (e := 24) (cs := [.int .i64 v29.Op, .int .i64 v29.N, vs v29.Name, .slice as32 ns32 cs32, .int .i64 v30.Op, .int .i64 v30.N, vs v30.Name, .slice as33 ns33 cs33, .int .i64 v9.Op, .int .i64 v9.N, vs v9.Name, .slice as16 ns16 cs16]) (q := 4) rfl rfl hx60 rfl (fun _ => by kernel_rfl) rfl rfl ?_
       intro b17 wx59 hx61
       refine a0r (hx61.sh ((((hF31.trans hF32).trans hF33).trans hF34).trans hF35) [2, 3, 4, 5, 6, 7, 8, 9] (by decide) rfl) ?_
       refine a0w 7 rfl (by kernel_rfl) ?_
       obtain ⟨Fx36, hF36, hx62, hsx7⟩ := a1b hx61 (i := 0) rfl ((show RowN rp_Expr Fx35 3 [.int .i64 v29.Op, .int .i64 v29.N, vs v29.Name, .slice as32 ns32 cs32, .int .i64 v30.Op, .int .i64 v30.N, vs v30.Name, .slice as33 ns33 cs33, .int .i64 v9.Op, .int .i64 v9.N, vs v9.Name, .slice as16 ns16 cs16] [v29, v30, v9] from ⟨rfl, ⟨_, _, rfl, (expr_iff.2 ⟨as32, ns32, cs32, rfl, (hs32.mono hF35)⟩), ⟨_, _, rfl, (expr_iff.2 ⟨as33, ns33, cs33, rfl, hs33⟩), ⟨_, _, rfl, (expr_iff.2 ⟨as16, ns16, cs16, rfl, (((((hs16.mono hF31).mono hF32).mono hF33).mono hF34).mono hF35)⟩), (rfl : RowR rp_Expr _ [] [])⟩⟩⟩⟩))
       obtain ⟨v31, hv24, hb3⟩ := bind_some hb3
       refine a0i ent9 rfl rfl rfl rfl hx62 (a1k _ _ _ _ hv24 hx62.sat hsx7) ?_
       rintro _ Fx37 _ wx60 hF37 hx63 ⟨as34, ns34, cs34, rfl, rfl, hs34⟩
       refine a0r (hx63.sh ((((((hF31.trans hF32).trans hF33).trans hF34).trans hF35).trans hF36).trans hF37) [1, 2, 3, 4, 5, 6, 7, 8] (by decide) rfl) ?_
       refine a0w 9 rfl (by kernel_rfl) ?_
       refine a0q sz24 rfl hx63 rfl rfl rfl rfl (i := 0) rfl rfl rfl rfl ?_
       intro wx61 hx64
       refine a0r (hx64.sh ((((((hF31.trans hF32).trans hF33).trans hF34).trans hF35).trans hF36).trans hF37) [1, 2, 3, 4, 5, 6, 7, 8] (by decide) rfl) ?_
       refine a2t (by kernel_rfl) ?_
       refine a0o (fun a ha => ?_)
       cases hb3
       exact ⟨_, b16, as34, ns34, cs34, ((((((hF31.trans hF32).trans hF33).trans hF34).trans hF35).trans hF36).trans hF37), hx64.pick [0, 1, 2, 3, 4, 5, 6, 7, 8] (by decide) rfl, hs34, ha.cut (l := [3, 5, 8, 9, 11, 12, 14]) rfl⟩
     ·refine a1c ze24 rfl rfl rfl hx55 ?_
      intro b16 wx55 hx56
      refine a0r (hx56.sh hF31 [1, 2, 3, 4, 5, 6, 7, 8] (by decide) rfl) ?_
      refine a0w 2 rfl (by kernel_rfl) ?_
      obtain ⟨v28, hv21, hb3⟩ := bind_some hb3
      refine a0i ent10 rfl rfl rfl rfl hx56 (a2i _ _ _ _ hv21 hx56.sat (SlR.nil _ _) hs30) ?_
      rintro _ Fx32 _ wx56 hF32 hx57 ⟨as31, ns31, cs31, xss31, rfl, rfl, hs31⟩
      refine a0r (hx57.sh (hF31.trans hF32) [2, 3, 4, 5, 6, 7, 8, 9] (by decide) rfl) ?_
      refine a0w 3 rfl (by kernel_rfl) ?_
      obtain ⟨Fx33, hF33, hx58, hsx6⟩ := a1b hx57 (i := 0) rfl hs31
      obtain ⟨v29, hv22, hb3⟩ := bind_some hb3
      refine a0i ent9 rfl rfl rfl rfl hx58 (a1k _ _ _ _ hv22 hx58.sat hsx6) ?_
      rintro _ Fx34 _ wx57 hF34 hx59 ⟨as32, ns32, cs32, rfl, rfl, hs32⟩
      refine a0r (hx59.sh (((hF31.trans hF32).trans hF33).trans hF34) [1, 2, 3, 4, 5, 6, 7, 8] (by decide) rfl) ?_
      refine a0w 4 rfl (by kernel_rfl) ?_
      obtain ⟨v30, hv23, hb3⟩ := bind_some hb3
      refine a0i ent19 rfl rfl rfl rfl hx59 (a2y _ _ _ hv23 hx59.sat) ?_
      rintro _ Fx35 _ wx58 hF35 hx60 ⟨as33, ns33, cs33, rfl, rfl, hs33⟩
      refine a0r (hx60.sh ((((hF31.trans hF32).trans hF33).trans hF34).trans hF35) [1, 2, 3, 4, 5, 6, 7, 8] (by decide) rfl) ?_
      refine a0w 6 rfl (by kernel_rfl) ?_
      refine a1q (e := 24) (cs := [.int .i64 v29.Op, .int .i64 v29.N, vs v29.Name, .slice as32 ns32 cs32, .int .i64 v30.Op, .int .i64 v30.N, vs v30.Name, .slice as33 ns33 cs33, .int .i64 v9.Op, .int .i64 v9.N, vs v9.Name, .slice as16 ns16 cs16]) (q := 4) rfl rfl hx60 rfl (fun _ => by kernel_rfl) rfl rfl ?_
      intro b17 wx59 hx61
      refine a0r (hx61.sh ((((hF31.trans hF32).trans hF33).trans hF34).trans hF35) [2, 3, 4, 5, 6, 7, 8, 9] (by decide) rfl) ?_
      refine a0w 7 rfl (by kernel_rfl) ?_
      obtain ⟨Fx36, hF36, hx62, hsx7⟩ := a1b hx61 (i := 0) rfl ((show RowN rp_Expr Fx35 3 [.int .i64 v29.Op, .int .i64 v29.N, vs v29.Name, .slice as32 ns32 cs32, .int .i64 v30.Op, .int .i64 v30.N, vs v30.Name, .slice as33 ns33 cs33, .int .i64 v9.Op, .int .i64 v9.N, vs v9.Name, .slice as16 ns16 cs16] [v29, v30, v9] from ⟨rfl, ⟨_, _, rfl, (expr_iff.2 ⟨as32, ns32, cs32, rfl, (hs32.mono hF35)⟩), ⟨_, _, rfl, (expr_iff.2 ⟨as33, ns33, cs33, rfl, hs33⟩), ⟨_, _, rfl, (expr_iff.2 ⟨as16, ns16, cs16, rfl, (((((hs16.mono hF31).mono hF32).mono hF33).mono hF34).mono hF35)⟩), (rfl : RowR rp_Expr _ [] [])⟩⟩⟩⟩))
      obtain ⟨v31, hv24, hb3⟩ := bind_some hb3
      refine a0i ent9 rfl rfl rfl rfl hx62 (a1k _ _ _ _ hv24 hx62.sat hsx7) ?_
      rintro _ Fx37 _ wx60 hF37 hx63 ⟨as34, ns34, cs34, rfl, rfl, hs34⟩
      refine a0r (hx63.sh ((((((hF31.trans hF32).trans hF33).trans hF34).trans hF35).trans hF36).trans hF37) [1, 2, 3, 4, 5, 6, 7, 8] (by decide) rfl) ?_
      refine a0w 9 rfl (by kernel_rfl) ?_
      refine a0q sz24 rfl hx63 rfl rfl rfl rfl (i := 0) rfl rfl rfl rfl ?_
      intro wx61 hx64
      refine a0r (hx64.sh ((((((hF31.trans hF32).trans hF33).trans hF34).trans hF35).trans hF36).trans hF37) [1, 2, 3, 4, 5, 6, 7, 8] (by decide) rfl) ?_
      refine a2t (by kernel_rfl) ?_
      refine a0o (fun a ha => ?_)
      cases hb3
      exact ⟨_, b16, as34, ns34, cs34, ((((((hF31.trans hF32).trans hF33).trans hF34).trans hF35).trans hF36).trans hF37), hx64.pick [0, 1, 2, 3, 4, 5, 6, 7, 8] (by decide) rfl, hs34, ha.cut (l := [3, 5, 8, 9, 11, 12, 14]) rfl⟩
    ·refine a1c ze24 rfl rfl rfl hx54 ?_
     intro b16 wx54 hx55
     refine a0r (hx55.sh (Frz.refl _) [1, 2, 3, 4, 5, 6, 7, 8] (by decide) rfl) ?_
     refine a0w 1 rfl (by kernel_rfl) ?_
     obtain ⟨v27, hv20, hb3⟩ := bind_some hb3
     refine a0i ent19 rfl rfl rfl rfl hx55 (a2y _ _ _ hv20 hx55.sat) ?_
     rintro _ Fx31 _ wx55 hF31 hx56 ⟨as30, ns30, cs30, rfl, rfl, hs30⟩
     refine a0r (hx56.sh hF31 [1, 2, 3, 4, 5, 6, 7, 8] (by decide) rfl) ?_
     refine a0w 2 rfl (by kernel_rfl) ?_
     obtain ⟨v28, hv21, hb3⟩ := bind_some hb3
     refine a0i ent10 rfl rfl rfl rfl hx56 (a2i _ _ _ _ hv21 hx56.sat (SlR.nil _ _) hs30) ?_
     rintro _ Fx32 _ wx56 hF32 hx57 ⟨as31, ns31, cs31, xss31, rfl, rfl, hs31⟩
     refine a0r (hx57.sh (hF31.trans hF32) [2, 3, 4, 5, 6, 7, 8, 9] (by decide) rfl) ?_
     refine a0w 3 rfl (by kernel_rfl) ?_
     obtain ⟨Fx33, hF33, hx58, hsx6⟩ := a1b hx57 (i := 0) rfl hs31
     obtain ⟨v29, hv22, hb3⟩ := bind_some hb3
     refine a0i ent9 rfl rfl rfl rfl hx58 (a1k _ _ _ _ hv22 hx58.sat hsx6) ?_
     rintro _ Fx34 _ wx57 hF34 hx59 ⟨as32, ns32, cs32, rfl, rfl, hs32⟩
     refine a0r (hx59.sh (((hF31.trans hF32).trans hF33).trans hF34) [1, 2, 3, 4, 5, 6, 7, 8] (by decide) rfl) ?_
     refine a0w 4 rfl (by kernel_rfl) ?_
     obtain ⟨v30, hv23, hb3⟩ := bind_some hb3
     refine a0i ent19 rfl rfl rfl rfl hx59 (a2y _ _ _ hv23 hx59.sat) ?_
     rintro _ Fx35 _ wx58 hF35 hx60 ⟨as33, ns33, cs33, rfl, rfl, hs33⟩
     refine a0r (hx60.sh ((((hF31.trans hF32).trans hF33).trans hF34).trans hF35) [1, 2, 3, 4, 5, 6, 7, 8] (by decide) rfl) ?_
     refine a0w 6 rfl (by kernel_rfl) ?_
     refine a1q (e := 24) (cs := [.int .i64 v29.Op, .int .i64 v29.N, vs v29.Name, .slice as32 ns32 cs32, .int .i64 v30.Op, .int .i64 v30.N, vs v30.Name, .slice as33 ns33 cs33, .int .i64 v9.Op, .int .i64 v9.N, vs v9.Name, .slice as16 ns16 cs16]) (q := 4) rfl rfl hx60 rfl (fun _ => by kernel_rfl) rfl rfl ?_
     intro b17 wx59 hx61
     refine a0r (hx61.sh ((((hF31.trans hF32).trans hF33).trans hF34).trans hF35) [2, 3, 4, 5, 6, 7, 8, 9] (by decide) rfl) ?_
     refine a0w 7 rfl (by kernel_rfl) ?_
     obtain ⟨Fx36, hF36, hx62, hsx7⟩ := a1b hx61 (i := 0) rfl ((show RowN rp_Expr Fx35 3 [.int .i64 v29.Op, .int .i64 v29.N, vs v29.Name, .slice as32 ns32 cs32, .int .i64 v30.Op, .int .i64 v30.N, vs v30.Name, .slice as33 ns33 cs33, .int .i64 v9.Op, .int .i64 v9.N, vs v9.Name, .slice as16 ns16 cs16] [v29, v30, v9] from ⟨rfl, ⟨_, _, rfl, (expr_iff.2 ⟨as32, ns32, cs32, rfl, (hs32.mono hF35)⟩), ⟨_, _, rfl, (expr_iff.2 ⟨as33, ns33, cs33, rfl, hs33⟩), ⟨_, _, rfl, (expr_iff.2 ⟨as16, ns16, cs16, rfl, (((((hs16.mono hF31).mono hF32).mono hF33).mono hF34).mono hF35)⟩), (rfl : RowR rp_Expr _ [] [])⟩⟩⟩⟩))
     obtain ⟨v31, hv24, hb3⟩ := bind_some hb3
     refine a0i ent9 rfl rfl rfl rfl hx62 (a1k _ _ _ _ hv24 hx62.sat hsx7) ?_
     rintro _ Fx37 _ wx60 hF37 hx63 ⟨as34, ns34, cs34, rfl, rfl, hs34⟩
     refine a0r (hx63.sh ((((((hF31.trans hF32).trans hF33).trans hF34).trans hF35).trans hF36).trans hF37) [1, 2, 3, 4, 5, 6, 7, 8] (by decide) rfl) ?_
     refine a0w 9 rfl (by kernel_rfl) ?_
     refine a0q sz24 rfl hx63 rfl rfl rfl rfl (i := 0) rfl rfl rfl rfl ?_
     intro wx61 hx64
     refine a0r (hx64.sh ((((((hF31.trans hF32).trans hF33).trans hF34).trans hF35).trans hF36).trans hF37) [1, 2, 3, 4, 5, 6, 7, 8] (by decide) rfl) ?_
     refine a2t (by kernel_rfl) ?_
     refine a0o (fun a ha => ?_)
     cases hb3
     exact ⟨_, b16, as34, ns34, cs34, ((((((hF31.trans hF32).trans hF33).trans hF34).trans hF35).trans hF36).trans hF37), hx64.pick [0, 1, 2, 3, 4, 5, 6, 7, 8] (by decide) rfl, hs34, ha.cut (l := [3, 5, 8, 9, 11, 12, 14]) rfl⟩
  ·clear hm
   refine a2g (SH Fx5 [.box b6 37 [.int .i64 f1, .slice as7 ns7 cs7, .int .i64 f3, .slice as8 ns8 cs8], .box b5 24 [.int .i64 2, .int .i64 0, vs [], .slice none 0 0], .box b4 24 [.int .i64 4, .int .i64 0, vs [112, 97, 112, 101, 114], .slice none 0 0], .box b2 37 [.int .i64 v2.1.P.Sign, .slice as3 ns3 cs3, .int .i64 v2.1.Q.Sign, .slice as4 ns4 cs4], .box b1 37 [.int .i64 v1.1.P.Sign, .slice as1 ns1 cs1, .int .i64 v1.1.Q.Sign, .slice as2 ns2 cs2]]) 9 rfl (by kernel_rfl) hx15 ?_
   intro wx62 hx65
   refine d_tk 0 rfl (by kernel_rfl) rfl rfl rfl rfl (hx65.sh (Frz.refl _) [0, 1, 2, 3, 4] (by decide) rfl) (fun _ _ _ _ hq => a0l ag24 sz24 rfl rfl hq rfl (i := 2) rfl rfl (a0c (qq rfl))) ?_
   refine d_tk 2 rfl (by kernel_rfl) rfl rfl rfl rfl (hx65.sh (Frz.refl _) [0, 1, 2, 3, 4] (by decide) rfl) (fun _ _ _ _ hq => a0l ag24 sz24 rfl rfl hq rfl (i := 1) rfl rfl (a0c (qq rfl))) ?_
   refine b0b 1 7 rfl rfl (by kernel_rfl) ?_ ?_
   ·obtain ⟨v32, hv25, hb2⟩ := bind_some hb2
    refine a0i ent19 rfl rfl rfl rfl hx65 (a2y _ _ _ hv25 hx65.sat) ?_
    rintro _ Fx38 _ wx63 hF38 hx66 ⟨as35, ns35, cs35, rfl, rfl, hs35⟩
    refine a0r (hx66.sh hF38 [0, 1, 2, 3, 4] (by decide) rfl) ?_
    refine b0b 3 7 rfl rfl (by kernel_rfl) ?_ ?_
    ·obtain ⟨v33, hv26, hb2⟩ := bind_some hb2
     refine a0i ent10 rfl rfl rfl rfl hx66 (a2i _ _ _ _ hv26 hx66.sat hs35 (SlR.nil _ _)) ?_
     rintro _ Fx39 _ wx64 hF39 hx67 ⟨as36, ns36, cs36, xss36, rfl, rfl, hs36⟩
     refine a0r (hx67.sh (hF38.trans hF39) [1, 2, 3, 4, 5] (by decide) rfl) ?_
     refine b0b 4 7 rfl rfl (by kernel_rfl) ?_ ?_
     ·obtain ⟨Fx40, hF40, hx68, hsx8⟩ := a1b hx67 (i := 0) rfl hs36
      obtain ⟨v34, hv27, hb2⟩ := bind_some hb2
      refine a0i ent9 rfl rfl rfl rfl hx68 (a1k _ _ _ _ hv27 hx68.sat hsx8) ?_
      rintro _ Fx41 _ wx65 hF41 hx69 ⟨as37, ns37, cs37, rfl, rfl, hs37⟩
      refine a0r (hx69.sh (((hF38.trans hF39).trans hF40).trans hF41) [0, 1, 2, 3, 4] (by decide) rfl) ?_
      refine b0b 5 7 rfl rfl (by kernel_rfl) ?_ ?_
      ·obtain ⟨v35, hv28, hb2⟩ := bind_some hb2
       refine a0i ent10 rfl rfl rfl rfl hx69 (a2i _ _ _ _ hv28 hx69.sat (SlR.nil _ _) hs37) ?_
       rintro _ Fx42 _ wx66 hF42 hx70 ⟨as38, ns38, cs38, xss38, rfl, rfl, hs38⟩
       refine a0r (hx70.sh ((((hF38.trans hF39).trans hF40).trans hF41).trans hF42) [1, 2, 3, 4, 5] (by decide) rfl) ?_
       refine b0b 6 7 rfl rfl (by kernel_rfl) ?_ ?_
       ·obtain ⟨Fx43, hF43, hx71, hsx9⟩ := a1b hx70 (i := 0) rfl hs38
        obtain ⟨v36, hv29, hb2⟩ := bind_some hb2
        refine a0i ent9 rfl rfl rfl rfl hx71 (a1k _ _ _ _ hv29 hx71.sat hsx9) ?_
        rintro _ Fx44 _ wx67 hF44 hx72 ⟨as39, ns39, cs39, rfl, rfl, hs39⟩
        refine a0r (hx72.sh ((((((hF38.trans hF39).trans hF40).trans hF41).trans hF42).trans hF43).trans hF44) [0, 1, 2, 3, 4] (by decide) rfl) ?_
        refine a0w 7 rfl (by kernel_rfl) ?_
        refine a1c ze24 rfl rfl rfl hx72 ?_
        intro b18 wx68 hx73
        refine a0r (hx73.sh ((((((hF38.trans hF39).trans hF40).trans hF41).trans hF42).trans hF43).trans hF44) [1, 2, 3, 4, 5] (by decide) rfl) ?_
        refine a0w 8 rfl (by kernel_rfl) ?_
        refine a0q sz24 rfl hx73 rfl rfl rfl rfl (i := 0) rfl rfl rfl rfl ?_
        intro wx69 hx74
        refine a0r (hx74.sh ((((((hF38.trans hF39).trans hF40).trans hF41).trans hF42).trans hF43).trans hF44) [1, 2, 3, 4, 5] (by decide) rfl) ?_
        refine a2t (by kernel_rfl) ?_
        refine a0o (fun a ha => ?_)
        cases hb2
        exact ⟨_, b18, as39, ns39, cs39, ((((((hF38.trans hF39).trans hF40).trans hF41).trans hF42).trans hF43).trans hF44), hx74.pick [0, 1, 2, 3, 4, 5] (by decide) rfl, hs39, ha.cut (l := [3, 5, 7, 8, 9, 10]) rfl⟩
       ·refine a1c ze24 rfl rfl rfl hx70 ?_
        intro b18 wx67 hx71
        refine a0r (hx71.sh ((((hF38.trans hF39).trans hF40).trans hF41).trans hF42) [2, 3, 4, 5, 6] (by decide) rfl) ?_
        refine a0w 6 rfl (by kernel_rfl) ?_
        obtain ⟨Fx43, hF43, hx72, hsx9⟩ := a1b hx71 (i := 1) rfl hs38
        obtain ⟨v36, hv29, hb2⟩ := bind_some hb2
        refine a0i ent9 rfl rfl rfl rfl hx72 (a1k _ _ _ _ hv29 hx72.sat hsx9) ?_
        rintro _ Fx44 _ wx68 hF44 hx73 ⟨as39, ns39, cs39, rfl, rfl, hs39⟩
        refine a0r (hx73.sh ((((((hF38.trans hF39).trans hF40).trans hF41).trans hF42).trans hF43).trans hF44) [1, 2, 3, 4, 5] (by decide) rfl) ?_
        refine a0w 8 rfl (by kernel_rfl) ?_
        refine a0q sz24 rfl hx73 rfl rfl rfl rfl (i := 0) rfl rfl rfl rfl ?_
        intro wx69 hx74
        refine a0r (hx74.sh ((((((hF38.trans hF39).trans hF40).trans hF41).trans hF42).trans hF43).trans hF44) [1, 2, 3, 4, 5] (by decide) rfl) ?_
        refine a2t (by kernel_rfl) ?_
        refine a0o (fun a ha => ?_)
        cases hb2
        exact ⟨_, b18, as39, ns39, cs39, ((((((hF38.trans hF39).trans hF40).trans hF41).trans hF42).trans hF43).trans hF44), hx74.pick [0, 1, 2, 3, 4, 5] (by decide) rfl, hs39, ha.cut (l := [3, 5, 7, 8, 9, 10]) rfl⟩
      ·refine a1c ze24 rfl rfl rfl hx69 ?_
       intro b18 wx66 hx70
       refine a0r (hx70.sh (((hF38.trans hF39).trans hF40).trans hF41) [1, 2, 3, 4, 5] (by decide) rfl) ?_
       refine a0w 5 rfl (by kernel_rfl) ?_
       obtain ⟨v35, hv28, hb2⟩ := bind_some hb2
       refine a0i ent10 rfl rfl rfl rfl hx70 (a2i _ _ _ _ hv28 hx70.sat (SlR.nil _ _) hs37) ?_
       rintro _ Fx42 _ wx67 hF42 hx71 ⟨as38, ns38, cs38, xss38, rfl, rfl, hs38⟩
       refine a0r (hx71.sh ((((hF38.trans hF39).trans hF40).trans hF41).trans hF42) [2, 3, 4, 5, 6] (by decide) rfl) ?_
       refine a0w 6 rfl (by kernel_rfl) ?_
       obtain ⟨Fx43, hF43, hx72, hsx9⟩ := a1b hx71 (i := 0) rfl hs38
       obtain ⟨v36, hv29, hb2⟩ := bind_some hb2
       refine a0i ent9 rfl rfl rfl rfl hx72 (a1k _ _ _ _ hv29 hx72.sat hsx9) ?_
       rintro _ Fx44 _ wx68 hF44 hx73 ⟨as39, ns39, cs39, rfl, rfl, hs39⟩
       refine a0r (hx73.sh ((((((hF38.trans hF39).trans hF40).trans hF41).trans hF42).trans hF43).trans hF44) [1, 2, 3, 4, 5] (by decide) rfl) ?_
       refine a0w 8 rfl (by kernel_rfl) ?_
       refine a0q sz24 rfl hx73 rfl rfl rfl rfl (i := 0) rfl rfl rfl rfl ?_
       intro wx69 hx74
       refine a0r (hx74.sh ((((((hF38.trans hF39).trans hF40).trans hF41).trans hF42).trans hF43).trans hF44) [1, 2, 3, 4, 5] (by decide) rfl) ?_
       refine a2t (by kernel_rfl) ?_
       refine a0o (fun a ha => ?_)
       cases hb2
       exact ⟨_, b18, as39, ns39, cs39, ((((((hF38.trans hF39).trans hF40).trans hF41).trans hF42).trans hF43).trans hF44), hx74.pick [0, 1, 2, 3, 4, 5] (by decide) rfl, hs39, ha.cut (l := [3, 5, 7, 8, 9, 10]) rfl⟩
     ·refine a1c ze24 rfl rfl rfl hx67 ?_
      intro b18 wx65 hx68
      refine a0r (hx68.sh (hF38.trans hF39) [2, 3, 4, 5, 6] (by decide) rfl) ?_
      refine a0w 4 rfl (by kernel_rfl) ?_
      obtain ⟨Fx40, hF40, hx69, hsx8⟩ := a1b hx68 (i := 1) rfl hs36
      obtain ⟨v34, hv27, hb2⟩ := bind_some hb2
      refine a0i ent9 rfl rfl rfl rfl hx69 (a1k _ _ _ _ hv27 hx69.sat hsx8) ?_
      rintro _ Fx41 _ wx66 hF41 hx70 ⟨as37, ns37, cs37, rfl, rfl, hs37⟩
      refine a0r (hx70.sh (((hF38.trans hF39).trans hF40).trans hF41) [1, 2, 3, 4, 5] (by decide) rfl) ?_
      refine a0w 5 rfl (by kernel_rfl) ?_
      obtain ⟨v35, hv28, hb2⟩ := bind_some hb2
      refine a0i ent10 rfl rfl rfl rfl hx70 (a2i _ _ _ _ hv28 hx70.sat (SlR.nil _ _) hs37) ?_
      rintro _ Fx42 _ wx67 hF42 hx71 ⟨as38, ns38, cs38, xss38, rfl, rfl, hs38⟩
      refine a0r (hx71.sh ((((hF38.trans hF39).trans hF40).trans hF41).trans hF42) [2, 3, 4, 5, 6] (by decide) rfl) ?_
      refine a0w 6 rfl (by kernel_rfl) ?_
      obtain ⟨Fx43, hF43, hx72, hsx9⟩ := a1b hx71 (i := 0) rfl hs38
      obtain ⟨v36, hv29, hb2⟩ := bind_some hb2
      refine a0i ent9 rfl rfl rfl rfl hx72 (a1k _ _ _ _ hv29 hx72.sat hsx9) ?_
      rintro _ Fx44 _ wx68 hF44 hx73 ⟨as39, ns39, cs39, rfl, rfl, hs39⟩
      refine a0r (hx73.sh ((((((hF38.trans hF39).trans hF40).trans hF41).trans hF42).trans hF43).trans hF44) [1, 2, 3, 4, 5] (by decide) rfl) ?_
      refine a0w 8 rfl (by kernel_rfl) ?_
      refine a0q sz24 rfl hx73 rfl rfl rfl rfl (i := 0) rfl rfl rfl rfl ?_
      intro wx69 hx74
      refine a0r (hx74.sh ((((((hF38.trans hF39).trans hF40).trans hF41).trans hF42).trans hF43).trans hF44) [1, 2, 3, 4, 5] (by decide) rfl) ?_
      refine a2t (by kernel_rfl) ?_
      refine a0o (fun a ha => ?_)
      cases hb2
      exact ⟨_, b18, as39, ns39, cs39, ((((((hF38.trans hF39).trans hF40).trans hF41).trans hF42).trans hF43).trans hF44), hx74.pick [0, 1, 2, 3, 4, 5] (by decide) rfl, hs39, ha.cut (l := [3, 5, 7, 8, 9, 10]) rfl⟩
    ·refine a1c ze24 rfl rfl rfl hx66 ?_
     intro b18 wx64 hx67
     refine a0r (hx67.sh hF38 [1, 2, 3, 4, 5] (by decide) rfl) ?_
     refine a0w 3 rfl (by kernel_rfl) ?_
     obtain ⟨v33, hv26, hb2⟩ := bind_some hb2
     refine a0i ent10 rfl rfl rfl rfl hx67 (a2i _ _ _ _ hv26 hx67.sat hs35 (SlR.nil _ _)) ?_
     rintro _ Fx39 _ wx65 hF39 hx68 ⟨as36, ns36, cs36, xss36, rfl, rfl, hs36⟩
     refine a0r (hx68.sh (hF38.trans hF39) [2, 3, 4, 5, 6] (by decide) rfl) ?_
     refine a0w 4 rfl (by kernel_rfl) ?_
     obtain ⟨Fx40, hF40, hx69, hsx8⟩ := a1b hx68 (i := 0) rfl hs36
     obtain ⟨v34, hv27, hb2⟩ := bind_some hb2
     refine a0i ent9 rfl rfl rfl rfl hx69 (a1k _ _ _ _ hv27 hx69.sat hsx8) ?_
     rintro _ Fx41 _ wx66 hF41 hx70 ⟨as37, ns37, cs37, rfl, rfl, hs37⟩
     refine a0r (hx70.sh (((hF38.trans hF39).trans hF40).trans hF41) [1, 2, 3, 4, 5] (by decide) rfl) ?_
     refine a0w 5 rfl (by kernel_rfl) ?_
     obtain ⟨v35, hv28, hb2⟩ := bind_some hb2
     refine a0i ent10 rfl rfl rfl rfl hx70 (a2i _ _ _ _ hv28 hx70.sat (SlR.nil _ _) hs37) ?_
     rintro _ Fx42 _ wx67 hF42 hx71 ⟨as38, ns38, cs38, xss38, rfl, rfl, hs38⟩
     refine a0r (hx71.sh ((((hF38.trans hF39).trans hF40).trans hF41).trans hF42) [2, 3, 4, 5, 6] (by decide) rfl) ?_
     refine a0w 6 rfl (by kernel_rfl) ?_
     obtain ⟨Fx43, hF43, hx72, hsx9⟩ := a1b hx71 (i := 0) rfl hs38
     obtain ⟨v36, hv29, hb2⟩ := bind_some hb2
     refine a0i ent9 rfl rfl rfl rfl hx72 (a1k _ _ _ _ hv29 hx72.sat hsx9) ?_
     rintro _ Fx44 _ wx68 hF44 hx73 ⟨as39, ns39, cs39, rfl, rfl, hs39⟩
     refine a0r (hx73.sh ((((((hF38.trans hF39).trans hF40).trans hF41).trans hF42).trans hF43).trans hF44) [1, 2, 3, 4, 5] (by decide) rfl) ?_
     refine a0w 8 rfl (by kernel_rfl) ?_
     refine a0q sz24 rfl hx73 rfl rfl rfl rfl (i := 0) rfl rfl rfl rfl ?_
     intro wx69 hx74
     refine a0r (hx74.sh ((((((hF38.trans hF39).trans hF40).trans hF41).trans hF42).trans hF43).trans hF44) [1, 2, 3, 4, 5] (by decide) rfl) ?_
     refine a2t (by kernel_rfl) ?_
     refine a0o (fun a ha => ?_)
     cases hb2
     exact ⟨_, b18, as39, ns39, cs39, ((((((hF38.trans hF39).trans hF40).trans hF41).trans hF42).trans hF43).trans hF44), hx74.pick [0, 1, 2, 3, 4, 5] (by decide) rfl, hs39, ha.cut (l := [3, 5, 7, 8, 9, 10]) rfl⟩
   ·refine a1c ze24 rfl rfl rfl hx65 ?_
    intro b18 wx63 hx66
    refine a0r (hx66.sh (Frz.refl _) [1, 2, 3, 4, 5] (by decide) rfl) ?_
    refine a0w 1 rfl (by kernel_rfl) ?_
    obtain ⟨v32, hv25, hb2⟩ := bind_some hb2
    refine a0i ent19 rfl rfl rfl rfl hx66 (a2y _ _ _ hv25 hx66.sat) ?_
    rintro _ Fx38 _ wx64 hF38 hx67 ⟨as35, ns35, cs35, rfl, rfl, hs35⟩
    refine a0r (hx67.sh hF38 [1, 2, 3, 4, 5] (by decide) rfl) ?_
    refine a0w 3 rfl (by kernel_rfl) ?_
    obtain ⟨v33, hv26, hb2⟩ := bind_some hb2
    refine a0i ent10 rfl rfl rfl rfl hx67 (a2i _ _ _ _ hv26 hx67.sat hs35 (SlR.nil _ _)) ?_
    rintro _ Fx39 _ wx65 hF39 hx68 ⟨as36, ns36, cs36, xss36, rfl, rfl, hs36⟩
    refine a0r (hx68.sh (hF38.trans hF39) [2, 3, 4, 5, 6] (by decide) rfl) ?_
    refine a0w 4 rfl (by kernel_rfl) ?_
    obtain ⟨Fx40, hF40, hx69, hsx8⟩ := a1b hx68 (i := 0) rfl hs36
    obtain ⟨v34, hv27, hb2⟩ := bind_some hb2
    refine a0i ent9 rfl rfl rfl rfl hx69 (a1k _ _ _ _ hv27 hx69.sat hsx8) ?_
    rintro _ Fx41 _ wx66 hF41 hx70 ⟨as37, ns37, cs37, rfl, rfl, hs37⟩
    refine a0r (hx70.sh (((hF38.trans hF39).trans hF40).trans hF41) [1, 2, 3, 4, 5] (by decide) rfl) ?_
    refine a0w 5 rfl (by kernel_rfl) ?_
    obtain ⟨v35, hv28, hb2⟩ := bind_some hb2
    refine a0i ent10 rfl rfl rfl rfl hx70 (a2i _ _ _ _ hv28 hx70.sat (SlR.nil _ _) hs37) ?_
    rintro _ Fx42 _ wx67 hF42 hx71 ⟨as38, ns38, cs38, xss38, rfl, rfl, hs38⟩
    refine a0r (hx71.sh ((((hF38.trans hF39).trans hF40).trans hF41).trans hF42) [2, 3, 4, 5, 6] (by decide) rfl) ?_
    refine a0w 6 rfl (by kernel_rfl) ?_
    obtain ⟨Fx43, hF43, hx72, hsx9⟩ := a1b hx71 (i := 0) rfl hs38
    obtain ⟨v36, hv29, hb2⟩ := bind_some hb2
    refine a0i ent9 rfl rfl rfl rfl hx72 (a1k _ _ _ _ hv29 hx72.sat hsx9) ?_
    rintro _ Fx44 _ wx68 hF44 hx73 ⟨as39, ns39, cs39, rfl, rfl, hs39⟩
    refine a0r (hx73.sh ((((((hF38.trans hF39).trans hF40).trans hF41).trans hF42).trans hF43).trans hF44) [1, 2, 3, 4, 5] (by decide) rfl) ?_
    refine a0w 8 rfl (by kernel_rfl) ?_
    refine a0q sz24 rfl hx73 rfl rfl rfl rfl (i := 0) rfl rfl rfl rfl ?_
    intro wx69 hx74
    refine a0r (hx74.sh ((((((hF38.trans hF39).trans hF40).trans hF41).trans hF42).trans hF43).trans hF44) [1, 2, 3, 4, 5] (by decide) rfl) ?_
    refine a2t (by kernel_rfl) ?_
    refine a0o (fun a ha => ?_)
    cases hb2
    exact ⟨_, b18, as39, ns39, cs39, ((((((hF38.trans hF39).trans hF40).trans hF41).trans hF42).trans hF43).trans hF44), hx74.pick [0, 1, 2, 3, 4, 5] (by decide) rfl, hs39, ha.cut (l := [3, 5, 7, 8, 9, 10]) rfl⟩
 ·clear hm
  refine a2g (SH Fx4 [.box b5 24 [.int .i64 2, .int .i64 0, vs [], .slice none 0 0], .box b4 24 [.int .i64 4, .int .i64 0, vs [112, 97, 112, 101, 114], .slice none 0 0], .box b2 37 [.int .i64 v2.1.P.Sign, .slice as3 ns3 cs3, .int .i64 v2.1.Q.Sign, .slice as4 ns4 cs4], .box b1 37 [.int .i64 v1.1.P.Sign, .slice as1 ns1 cs1, .int .i64 v1.1.Q.Sign, .slice as2 ns2 cs2]]) 12 rfl (by kernel_rfl) hx14 ?_
  intro wx70 hx75
  refine d_tk 0 rfl (by kernel_rfl) rfl rfl rfl rfl (hx75.sh (Frz.refl _) [0, 1, 2, 3] (by decide) rfl) (fun _ _ _ _ hq => a0l ag24 sz24 rfl rfl hq rfl (i := 1) rfl rfl (a0c (qq rfl))) ?_
  refine d_tk 4 rfl (by kernel_rfl) rfl rfl rfl rfl (hx75.sh (Frz.refl _) [0, 1, 2, 3] (by decide) rfl) (fun _ _ _ _ _ => a0e rfl rfl rfl (a0c (qq rfl))) ?_
  refine b0b 1 9 rfl rfl (by kernel_rfl) ?_ ?_
  ·obtain ⟨v37, hv30, hb1⟩ := bind_some hb1
   refine a0i ent19 rfl rfl rfl rfl hx75 (a2y _ _ _ hv30 hx75.sat) ?_
   rintro _ Fx45 _ wx71 hF45 hx76 ⟨as40, ns40, cs40, rfl, rfl, hs40⟩
   refine a0r (hx76.sh hF45 [0, 1, 2, 3] (by decide) rfl) ?_
   refine b0b 2 9 rfl rfl (by kernel_rfl) ?_ ?_
   ·obtain ⟨v38, hv31, hb1⟩ := bind_some hb1
    refine a0i ent10 rfl rfl rfl rfl hx76 (a2i _ _ _ _ hv31 hx76.sat (SlR.nil _ _) hs40) ?_
    rintro _ Fx46 _ wx72 hF46 hx77 ⟨as41, ns41, cs41, xss41, rfl, rfl, hs41⟩
    refine a0r (hx77.sh (hF45.trans hF46) [1, 2, 3, 4] (by decide) rfl) ?_
    refine b0b 3 9 rfl rfl (by kernel_rfl) ?_ ?_
    ·obtain ⟨Fx47, hF47, hx78, hsx10⟩ := a1b hx77 (i := 0) rfl hs41
     obtain ⟨v39, hv32, hb1⟩ := bind_some hb1
     refine a0i ent9 rfl rfl rfl rfl hx78 (a1k _ _ _ _ hv32 hx78.sat hsx10) ?_
     rintro _ Fx48 _ wx73 hF48 hx79 ⟨as42, ns42, cs42, rfl, rfl, hs42⟩
     refine a0r (hx79.sh (((hF45.trans hF46).trans hF47).trans hF48) [0, 1, 2, 3] (by decide) rfl) ?_
     refine b0b 5 9 rfl rfl (by kernel_rfl) ?_ ?_
     ·have hG9 := ((hF45.trans hF46).trans hF47).trans hF48
      obtain ⟨v40, hv33, hb1⟩ := bind_some hb1
      refine a0i ent18 rfl rfl rfl rfl hx79 (a4y _ _ _ _ hv33 hx79.sat hs42 (hsx1.mono hG9)) ?_
      rintro _ Fx49 _ wx74 hF49 hx80 ⟨as43, ns43, cs43, as44, ns44, cs44, rfl, rfl, hs43, hs44⟩
      refine a0r (hx80.sh ((((hF45.trans hF46).trans hF47).trans hF48).trans hF49) [0, 1, 2, 3] (by decide) rfl) ?_
      refine d_tk 6 rfl (by kernel_rfl) rfl rfl rfl rfl (hx80.sh ((((hF45.trans hF46).trans hF47).trans hF48).trans hF49) [0, 1, 2, 3] (by decide) rfl) (fun _ _ _ _ _ => a0e rfl rfl rfl (a0c (qq rfl))) ?_
      refine d_tk 7 rfl (by kernel_rfl) rfl rfl rfl rfl (hx80.sh ((((hF45.trans hF46).trans hF47).trans hF48).trans hF49) [0, 1, 2, 3] (by decide) rfl) (fun _ _ _ _ _ => a0k rfl rfl rfl rfl (a0c (qq rfl))) ?_
      refine d_tk 8 rfl (by kernel_rfl) rfl rfl rfl rfl (hx80.sh ((((hF45.trans hF46).trans hF47).trans hF48).trans hF49) [0, 1, 2, 3] (by decide) rfl) (fun _ _ _ _ _ => a0k rfl rfl rfl rfl (a0c (qq rfl))) ?_
      refine a0w 9 rfl (by kernel_rfl) ?_
      refine a1c ze37 rfl rfl rfl hx80 ?_
      intro b19 wx75 hx81
      refine a0r (hx81.sh ((((hF45.trans hF46).trans hF47).trans hF48).trans hF49) [1, 2, 3, 4] (by decide) rfl) ?_
      refine a0w 10 rfl (by kernel_rfl) ?_
      refine a0q sz37 rfl hx81 rfl rfl rfl rfl (i := 0) rfl rfl rfl rfl ?_
      intro wx76 hx82
      refine a0r (hx82.sh ((((hF45.trans hF46).trans hF47).trans hF48).trans hF49) [1, 2, 3, 4] (by decide) rfl) ?_
      refine d_tk 11 rfl (by kernel_rfl) rfl rfl rfl rfl (hx82.sh ((((hF45.trans hF46).trans hF47).trans hF48).trans hF49) [1, 2, 3, 4] (by decide) rfl) (fun _ _ _ _ _ => a0b rfl rfl rfl (a0c (qq rfl))) ?_
      refine a2t (by kernel_rfl) ?_
      refine a0o (fun a ha => ?_)
      cases hb1
      exact ⟨_, b19, as43, ns43, cs43, as44, ns44, cs44, ((((hF45.trans hF46).trans hF47).trans hF48).trans hF49), hx82.pick [0, 1, 2, 3, 4] (by decide) rfl, hs43, hs44, ha.cut (l := [3, 5, 6, 7, 8, 9]) rfl⟩
     ·refine a1c ze37 rfl rfl rfl hx79 ?_
      intro b19 wx74 hx80
      refine a0r (hx80.sh (((hF45.trans hF46).trans hF47).trans hF48) [1, 2, 3, 4] (by decide) rfl) ?_
      refine a0w 5 rfl (by kernel_rfl) ?_
      have hG9 := ((hF45.trans hF46).trans hF47).trans hF48
      obtain ⟨v40, hv33, hb1⟩ := bind_some hb1
      refine a0i ent18 rfl rfl rfl rfl hx80 (a4y _ _ _ _ hv33 hx80.sat hs42 (hsx1.mono hG9)) ?_
      rintro _ Fx49 _ wx75 hF49 hx81 ⟨as43, ns43, cs43, as44, ns44, cs44, rfl, rfl, hs43, hs44⟩
      refine a0r (hx81.sh ((((hF45.trans hF46).trans hF47).trans hF48).trans hF49) [1, 2, 3, 4] (by decide) rfl) ?_
      refine d_tk 6 rfl (by kernel_rfl) rfl rfl rfl rfl (hx81.sh ((((hF45.trans hF46).trans hF47).trans hF48).trans hF49) [1, 2, 3, 4] (by decide) rfl) (fun _ _ _ _ _ => a0e rfl rfl rfl (a0c (qq rfl))) ?_
      refine d_tk 7 rfl (by kernel_rfl) rfl rfl rfl rfl (hx81.sh ((((hF45.trans hF46).trans hF47).trans hF48).trans hF49) [1, 2, 3, 4] (by decide) rfl) (fun _ _ _ _ _ => a0k rfl rfl rfl rfl (a0c (qq rfl))) ?_
      refine d_tk 8 rfl (by kernel_rfl) rfl rfl rfl rfl (hx81.sh ((((hF45.trans hF46).trans hF47).trans hF48).trans hF49) [1, 2, 3, 4] (by decide) rfl) (fun _ _ _ _ _ => a0k rfl rfl rfl rfl (a0c (qq rfl))) ?_
      refine a0w 10 rfl (by kernel_rfl) ?_
      refine a0q sz37 rfl hx81 rfl rfl rfl rfl (i := 0) rfl rfl rfl rfl ?_
      intro wx76 hx82
      refine a0r (hx82.sh ((((hF45.trans hF46).trans hF47).trans hF48).trans hF49) [1, 2, 3, 4] (by decide) rfl) ?_
      refine d_tk 11 rfl (by kernel_rfl) rfl rfl rfl rfl (hx82.sh ((((hF45.trans hF46).trans hF47).trans hF48).trans hF49) [1, 2, 3, 4] (by decide) rfl) (fun _ _ _ _ _ => a0b rfl rfl rfl (a0c (qq rfl))) ?_
      refine a2t (by kernel_rfl) ?_
      refine a0o (fun a ha => ?_)
      cases hb1
      exact ⟨_, b19, as43, ns43, cs43, as44, ns44, cs44, ((((hF45.trans hF46).trans hF47).trans hF48).trans hF49), hx82.pick [0, 1, 2, 3, 4] (by decide) rfl, hs43, hs44, ha.cut (l := [3, 5, 6, 7, 8, 9]) rfl⟩
    ·refine a1c ze37 rfl rfl rfl hx77 ?_
     intro b19 wx73 hx78
     refine a0r (hx78.sh (hF45.trans hF46) [2, 3, 4, 5] (by decide) rfl) ?_
     refine a0w 3 rfl (by kernel_rfl) ?_
     obtain ⟨Fx47, hF47, hx79, hsx10⟩ := a1b hx78 (i := 1) rfl hs41
     obtain ⟨v39, hv32, hb1⟩ := bind_some hb1
     refine a0i ent9 rfl rfl rfl rfl hx79 (a1k _ _ _ _ hv32 hx79.sat hsx10) ?_
     rintro _ Fx48 _ wx74 hF48 hx80 ⟨as42, ns42, cs42, rfl, rfl, hs42⟩
     refine a0r (hx80.sh (((hF45.trans hF46).trans hF47).trans hF48) [1, 2, 3, 4] (by decide) rfl) ?_
     refine a0w 5 rfl (by kernel_rfl) ?_
     have hG9 := ((hF45.trans hF46).trans hF47).trans hF48
     obtain ⟨v40, hv33, hb1⟩ := bind_some hb1
     refine a0i ent18 rfl rfl rfl rfl hx80 (a4y _ _ _ _ hv33 hx80.sat hs42 (hsx1.mono hG9)) ?_
     rintro _ Fx49 _ wx75 hF49 hx81 ⟨as43, ns43, cs43, as44, ns44, cs44, rfl, rfl, hs43, hs44⟩
     refine a0r (hx81.sh ((((hF45.trans hF46).trans hF47).trans hF48).trans hF49) [1, 2, 3, 4] (by decide) rfl) ?_
     refine d_tk 6 rfl (by kernel_rfl) rfl rfl rfl rfl (hx81.sh ((((hF45.trans hF46).trans hF47).trans hF48).trans hF49) [1, 2, 3, 4] (by decide) rfl) (fun _ _ _ _ _ => a0e rfl rfl rfl (a0c (qq rfl))) ?_
     refine d_tk 7 rfl (by kernel_rfl) rfl rfl rfl rfl (hx81.sh ((((hF45.trans hF46).trans hF47).trans hF48).trans hF49) [1, 2, 3, 4] (by decide) rfl) (fun _ _ _ _ _ => a0k rfl rfl rfl rfl (a0c (qq rfl))) ?_
     refine d_tk 8 rfl (by kernel_rfl) rfl rfl rfl rfl (hx81.sh ((((hF45.trans hF46).trans hF47).trans hF48).trans hF49) [1, 2, 3, 4] (by decide) rfl) (fun _ _ _ _ _ => a0k rfl rfl rfl rfl (a0c (qq rfl))) ?_
     refine a0w 10 rfl (by kernel_rfl) ?_
     refine a0q sz37 rfl hx81 rfl rfl rfl rfl (i := 0) rfl rfl rfl rfl ?_
     intro wx76 hx82
     refine a0r (hx82.sh ((((hF45.trans hF46).trans hF47).trans hF48).trans hF49) [1, 2, 3, 4] (by decide) rfl) ?_
     refine d_tk 11 rfl (by kernel_rfl) rfl rfl rfl rfl (hx82.sh ((((hF45.trans hF46).trans hF47).trans hF48).trans hF49) [1, 2, 3, 4] (by decide) rfl) (fun _ _ _ _ _ => a0b rfl rfl rfl (a0c (qq rfl))) ?_
     refine a2t (by kernel_rfl) ?_
     refine a0o (fun a ha => ?_)
     cases hb1
     exact ⟨_, b19, as43, ns43, cs43, as44, ns44, cs44, ((((hF45.trans hF46).trans hF47).trans hF48).trans hF49), hx82.pick [0, 1, 2, 3, 4] (by decide) rfl, hs43, hs44, ha.cut (l := [3, 5, 6, 7, 8, 9]) rfl⟩
   ·refine a1c ze37 rfl rfl rfl hx76 ?_
    intro b19 wx72 hx77
    refine a0r (hx77.sh hF45 [1, 2, 3, 4] (by decide) rfl) ?_
    refine a0w 2 rfl (by kernel_rfl) ?_
    obtain ⟨v38, hv31, hb1⟩ := bind_some hb1
    refine a0i ent10 rfl rfl rfl rfl hx77 (a2i _ _ _ _ hv31 hx77.sat (SlR.nil _ _) hs40) ?_
    rintro _ Fx46 _ wx73 hF46 hx78 ⟨as41, ns41, cs41, xss41, rfl, rfl, hs41⟩
    refine a0r (hx78.sh (hF45.trans hF46) [2, 3, 4, 5] (by decide) rfl) ?_
    refine a0w 3 rfl (by kernel_rfl) ?_
    obtain ⟨Fx47, hF47, hx79, hsx10⟩ := a1b hx78 (i := 0) rfl hs41
    obtain ⟨v39, hv32, hb1⟩ := bind_some hb1
    refine a0i ent9 rfl rfl rfl rfl hx79 (a1k _ _ _ _ hv32 hx79.sat hsx10) ?_
    rintro _ Fx48 _ wx74 hF48 hx80 ⟨as42, ns42, cs42, rfl, rfl, hs42⟩
    refine a0r (hx80.sh (((hF45.trans hF46).trans hF47).trans hF48) [1, 2, 3, 4] (by decide) rfl) ?_
    refine a0w 5 rfl (by kernel_rfl) ?_
    have hG9 := ((hF45.trans hF46).trans hF47).trans hF48
    obtain ⟨v40, hv33, hb1⟩ := bind_some hb1
    refine a0i ent18 rfl rfl rfl rfl hx80 (a4y _ _ _ _ hv33 hx80.sat hs42 (hsx1.mono hG9)) ?_
    rintro _ Fx49 _ wx75 hF49 hx81 ⟨as43, ns43, cs43, as44, ns44, cs44, rfl, rfl, hs43, hs44⟩
    refine a0r (hx81.sh ((((hF45.trans hF46).trans hF47).trans hF48).trans hF49) [1, 2, 3, 4] (by decide) rfl) ?_
    refine d_tk 6 rfl (by kernel_rfl) rfl rfl rfl rfl (hx81.sh ((((hF45.trans hF46).trans hF47).trans hF48).trans hF49) [1, 2, 3, 4] (by decide) rfl) (fun _ _ _ _ _ => a0e rfl rfl rfl (a0c (qq rfl))) ?_
    refine d_tk 7 rfl (by kernel_rfl) rfl rfl rfl rfl (hx81.sh ((((hF45.trans hF46).trans hF47).trans hF48).trans hF49) [1, 2, 3, 4] (by decide) rfl) (fun _ _ _ _ _ => a0k rfl rfl rfl rfl (a0c (qq rfl))) ?_
    refine d_tk 8 rfl (by kernel_rfl) rfl rfl rfl rfl (hx81.sh ((((hF45.trans hF46).trans hF47).trans hF48).trans hF49) [1, 2, 3, 4] (by decide) rfl) (fun _ _ _ _ _ => a0k rfl rfl rfl rfl (a0c (qq rfl))) ?_
    refine a0w 10 rfl (by kernel_rfl) ?_
    refine a0q sz37 rfl hx81 rfl rfl rfl rfl (i := 0) rfl rfl rfl rfl ?_
    intro wx76 hx82
    refine a0r (hx82.sh ((((hF45.trans hF46).trans hF47).trans hF48).trans hF49) [1, 2, 3, 4] (by decide) rfl) ?_
    refine d_tk 11 rfl (by kernel_rfl) rfl rfl rfl rfl (hx82.sh ((((hF45.trans hF46).trans hF47).trans hF48).trans hF49) [1, 2, 3, 4] (by decide) rfl) (fun _ _ _ _ _ => a0b rfl rfl rfl (a0c (qq rfl))) ?_
    refine a2t (by kernel_rfl) ?_
    refine a0o (fun a ha => ?_)
    cases hb1
    exact ⟨_, b19, as43, ns43, cs43, as44, ns44, cs44, ((((hF45.trans hF46).trans hF47).trans hF48).trans hF49), hx82.pick [0, 1, 2, 3, 4] (by decide) rfl, hs43, hs44, ha.cut (l := [3, 5, 6, 7, 8, 9]) rfl⟩
  ·refine a1c ze37 rfl rfl rfl hx75 ?_
   intro b19 wx71 hx76
   refine a0r (hx76.sh (Frz.refl _) [1, 2, 3, 4] (by decide) rfl) ?_
   refine a0w 1 rfl (by kernel_rfl) ?_
   obtain ⟨v37, hv30, hb1⟩ := bind_some hb1
   refine a0i ent19 rfl rfl rfl rfl hx76 (a2y _ _ _ hv30 hx76.sat) ?_
   rintro _ Fx45 _ wx72 hF45 hx77 ⟨as40, ns40, cs40, rfl, rfl, hs40⟩
   refine a0r (hx77.sh hF45 [1, 2, 3, 4] (by decide) rfl) ?_
   refine a0w 2 rfl (by kernel_rfl) ?_
   obtain ⟨v38, hv31, hb1⟩ := bind_some hb1
   refine a0i ent10 rfl rfl rfl rfl hx77 (a2i _ _ _ _ hv31 hx77.sat (SlR.nil _ _) hs40) ?_
   rintro _ Fx46 _ wx73 hF46 hx78 ⟨as41, ns41, cs41, xss41, rfl, rfl, hs41⟩
   refine a0r (hx78.sh (hF45.trans hF46) [2, 3, 4, 5] (by decide) rfl) ?_
   refine a0w 3 rfl (by kernel_rfl) ?_
   obtain ⟨Fx47, hF47, hx79, hsx10⟩ := a1b hx78 (i := 0) rfl hs41
   obtain ⟨v39, hv32, hb1⟩ := bind_some hb1
   refine a0i ent9 rfl rfl rfl rfl hx79 (a1k _ _ _ _ hv32 hx79.sat hsx10) ?_
   rintro _ Fx48 _ wx74 hF48 hx80 ⟨as42, ns42, cs42, rfl, rfl, hs42⟩
   refine a0r (hx80.sh (((hF45.trans hF46).trans hF47).trans hF48) [1, 2, 3, 4] (by decide) rfl) ?_
   refine a0w 5 rfl (by kernel_rfl) ?_
   have hG9 := ((hF45.trans hF46).trans hF47).trans hF48
   obtain ⟨v40, hv33, hb1⟩ := bind_some hb1
   refine a0i ent18 rfl rfl rfl rfl hx80 (a4y _ _ _ _ hv33 hx80.sat hs42 (hsx1.mono hG9)) ?_
   rintro _ Fx49 _ wx75 hF49 hx81 ⟨as43, ns43, cs43, as44, ns44, cs44, rfl, rfl, hs43, hs44⟩
   refine a0r (hx81.sh ((((hF45.trans hF46).trans hF47).trans hF48).trans hF49) [1, 2, 3, 4] (by decide) rfl) ?_
   refine d_tk 6 rfl (by kernel_rfl) rfl rfl rfl rfl (hx81.sh ((((hF45.trans hF46).trans hF47).trans hF48).trans hF49) [1, 2, 3, 4] (by decide) rfl) (fun _ _ _ _ _ => a0e rfl rfl rfl (a0c (qq rfl))) ?_
   refine d_tk 7 rfl (by kernel_rfl) rfl rfl rfl rfl (hx81.sh ((((hF45.trans hF46).trans hF47).trans hF48).trans hF49) [1, 2, 3, 4] (by decide) rfl) (fun _ _ _ _ _ => a0k rfl rfl rfl rfl (a0c (qq rfl))) ?_
   refine d_tk 8 rfl (by kernel_rfl) rfl rfl rfl rfl (hx81.sh ((((hF45.trans hF46).trans hF47).trans hF48).trans hF49) [1, 2, 3, 4] (by decide) rfl) (fun _ _ _ _ _ => a0k rfl rfl rfl rfl (a0c (qq rfl))) ?_
   refine a0w 10 rfl (by kernel_rfl) ?_
   refine a0q sz37 rfl hx81 rfl rfl rfl rfl (i := 0) rfl rfl rfl rfl ?_
   intro wx76 hx82
   refine a0r (hx82.sh ((((hF45.trans hF46).trans hF47).trans hF48).trans hF49) [1, 2, 3, 4] (by decide) rfl) ?_
   refine d_tk 11 rfl (by kernel_rfl) rfl rfl rfl rfl (hx82.sh ((((hF45.trans hF46).trans hF47).trans hF48).trans hF49) [1, 2, 3, 4] (by decide) rfl) (fun _ _ _ _ _ => a0b rfl rfl rfl (a0c (qq rfl))) ?_
   refine a2t (by kernel_rfl) ?_
   refine a0o (fun a ha => ?_)
   cases hb1
   exact ⟨_, b19, as43, ns43, cs43, as44, ns44, cs44, ((((hF45.trans hF46).trans hF47).trans hF48).trans hF49), hx82.pick [0, 1, 2, 3, 4] (by decide) rfl, hs43, hs44, ha.cut (l := [3, 5, 6, 7, 8, 9]) rfl⟩
end Go.Proofs.Ytknpjecpcmajiaa.M

/-
  THE MIRRORS of the fee's functions, of the tariff's, the fractions' and the big integers', of the references and the laws, and that each call returns what its mirror says. Printed by gen.py.
-/
namespace Go.Proofs.Ytknpjecpcmajiaa.M
open Go Go.RowKit Rt
theorem ent5 : Ent Try.prog 5 := fun _ _ => by kernel_rfl
theorem ent6 : Ent Try.prog 6 := fun _ _ => by kernel_rfl
theorem ze26 : b8c Try.prog 26 (.agg #[vs [], .int .i64 0, .int .i64 0, vs [], .slice none 0 0, .int .i64 0]) := fun _ => by kernel_rfl
def a8y (n : Nat) (t1 : Tariff) (other1 : Tariff) (names1 : (List Bs)) (f1 : Facts) (weights1 : (List Frac)) : Option Bool :=
 (a9w n).bind fun v1 =>
 (b0s n t1 names1 f1 weights1).bind fun v2 =>
 (bif !v2 then
  some true
 else
  (b0s n other1 names1 f1 weights1).bind fun v46 =>
  some (!v46)).bind fun v3 =>
 bif v3 then
  some v1
 else
  (a5f n t1 names1 f1 weights1).bind fun v4 =>
  (a5f n other1 names1 f1 weights1).bind fun v5 =>
  (bif v4.2 != 0 then
   some true
  else
   some (v5.2 != 0)).bind fun v6 =>
  bif v6 then
   some v1
  else
   (b1j n v4.1 v5.1).bind fun v7 =>
   (a5v n t1.Fee other1.Fee).bind fun v8 =>
   (a4k n 5 v8).bind fun v9 =>
   (a4k n 9 v9.Args).bind fun v10 =>
   (a4k n 10 v9.Args).bind fun v11 =>
   (a5v n v10 v11).bind fun v12 =>
   (a4k n 5 v12).bind fun v13 =>
   (a5v n t1.Fee t1.Fee).bind fun v14 =>
   (a4k n 6 v14).bind fun v15 =>
   (a5f n (⟨t1.Name, v9, t1.Cap⟩ : Tariff) names1 f1 weights1).bind fun v16 =>
   (a5f n (⟨t1.Name, v13, t1.Cap⟩ : Tariff) names1 f1 weights1).bind fun v17 =>
   (a5f n (⟨t1.Name, v15, t1.Cap⟩ : Tariff) names1 f1 weights1).bind fun v18 =>
   (bif v16.2 == 0 then
    (a3y n v16.1 v7.1).bind fun v45 =>
    some (!v45)
   else
    some false).bind fun v19 =>
   (bif v19 then
    some true
   else
    (bif v17.2 == 0 then
     (a3y n v17.1 v7.1).bind fun v44 =>
     some (!v44)
    else
     some false).bind fun v43 =>
    some v43).bind fun v20 =>
   (bif v20 then
    some true
   else
    (bif v18.2 == 0 then
     (a6q n 0).bind fun v41 =>
     (a3y n v18.1 v41).bind fun v42 =>
     some (!v42)
    else
     some false).bind fun v40 =>
    some v40).bind fun v21 =>
   bif v21 then
    some false
   else
    (a9r n t1 names1 f1 weights1).bind fun v22 =>
    (bif v22.2 != 0 then
     some true
    else
     (a8j n v22.1).bind fun v39 =>
     some (decide (v39 < 0))).bind fun v23 =>
    (bif v23 then
     some true
    else
     (bif t1.Cap != (-1) then
      (a6q n t1.Cap).bind fun v37 =>
      (a4z n v22.1 v37).bind fun v38 =>
      some (decide (0 < v38))
     else
      some false).bind fun v36 =>
     some v36).bind fun v24 =>
    bif v24 then
     some false
    else
     (a8j n v4.1).bind fun v25 =>
     bif decide (v25 < 0) then
      (bif v1 then
       (a8j n v22.1).bind fun v27 =>
       some (v27 == 0)
      else
       some false).bind fun v26 =>
      some v26
     else
      (bif v1 then
       (a3y n v22.1 v4.1).bind fun v29 =>
       (bif v29 then
        some true
       else
        (bif t1.Cap != (-1) then
         (a6q n t1.Cap).bind fun v34 =>
         (a3y n v22.1 v34).bind fun v35 =>
         some v35
        else
         some false).bind fun v31 =>
        (bif v31 then
         (a4z n v4.1 v22.1).bind fun v33 =>
         some (decide (0 < v33))
        else
         some false).bind fun v32 =>
        some v32).bind fun v30 =>
       some v30
      else
       some false).bind fun v28 =>
      some v28
set_option maxHeartbeats 1000000 in
set_option maxRecDepth 1000000 in
theorem law36_FeePairs_ok (n : Nat) (t1 : Tariff) (other1 : Tariff) (names1 : (List Bs)) (f1 : Facts) (weights1 : (List Frac)) (r : Bool) (hm : a8y n t1 other1 names1 f1 weights1 = some r) {w : World} {F : Frz} (hs : Sat F w) {as1 : Option Addr} {ns1 : Nat} {cs1 : Nat} {as2 : Option Addr} {ns2 : Nat} {cs2 : Nat} {as3 : Option Addr} {ns3 : Nat} {cs3 : Nat} {as4 : Option Addr} {ns4 : Nat} {cs4 : Nat} {as5 : Option Addr} {ns5 : Nat} {cs5 : Nat} (hs1 : SlR rp_Expr F as1 ns1 cs1 t1.Fee.Args) (hs2 : SlR rp_Expr F as2 ns2 cs2 other1.Fee.Args) (hs3 : SlR Rp.str F as3 ns3 cs3 names1) (hs4 : SlR (Rp.int .i64) F as4 ns4 cs4 f1.Lifts) (hs5 : SlR rp_Frac F as5 ns5 cs5 weights1) :
  Calls Try.prog 3 #[.agg #[vs t1.Name, .int .i64 t1.Fee.Op, .int .i64 t1.Fee.N, vs t1.Fee.Name, .slice as1 ns1 cs1, .int .i64 t1.Cap], .agg #[vs other1.Name, .int .i64 other1.Fee.Op, .int .i64 other1.Fee.N, vs other1.Fee.Name, .slice as2 ns2 cs2, .int .i64 other1.Cap], .slice as3 ns3 cs3, .agg #[.slice as4 ns4 cs4, .int .i64 f1.Persons, .int .i64 f1.Flats], .slice as5 ns5 cs5] w fun e w' => ∃ v F' O', e = .returned v ∧ HS F w [] F' O' w' ∧ (v = .bool r ∧ O' = []) := by
 unfold a8y at hm
 have h := HS.init hs
 refine a1a 215 Try.func3 rfl rfl rfl ?_
 refine a0f (a0a ?_)
 refine a2v rfl rfl rfl rfl h ?_
 intro b1 wx1 hx1
 refine a2v rfl rfl rfl rfl hx1 ?_
 intro b2 wx2 hx2
 refine a2v rfl rfl rfl rfl hx2 ?_
 intro b3 wx3 hx3
 refine a0b rfl rfl rfl (a0c (a0d (a0f (a0a ?_))))
 obtain ⟨v1, hv1, hm⟩ := bind_some hm
 refine a0i ent5 rfl rfl rfl rfl hx3 (b7v _ _ hv1 hx3.sat) ?_
 rintro _ Fx1 _ wx4 hF1 hx4 ⟨rfl, rfl⟩
 refine a0b rfl rfl rfl (a0c (a0d (a0f (a0f (a0a ?_)))))
 refine a0l ag26 sz26 rfl rfl hx4 rfl (i := 2) rfl rfl ?_
 refine a0e rfl rfl rfl ?_
 refine a0l ag30 sz30 rfl rfl hx4 rfl (i := 0) rfl rfl ?_
 refine a0e rfl rfl rfl ?_
 obtain ⟨v2, hv2, hm⟩ := bind_some hm
 refine a0i ent6 rfl rfl rfl rfl hx4 (b5d _ _ _ _ _ _ hv2 hx4.sat (hs1.mono hF1) (hs3.mono hF1) (hs4.mono hF1) (hs5.mono hF1)) ?_
 rintro _ Fx2 _ wx5 hF2 hx5 ⟨rfl, rfl⟩
 refine a3z rfl rfl rfl (a0e rfl rfl rfl ?_)
 obtain ⟨v3, hb1, hm⟩ := bind_some hm
 refine a2r 7 (fun a w' => ∃ (Fx3 : Frz), Frz.le Fx2 Fx3 ∧ HS F w [] Fx3 [.box b3 30 [.slice as4 ns4 cs4, .int .i64 f1.Persons, .int .i64 f1.Flats], .box b2 26 [vs other1.Name, .int .i64 other1.Fee.Op, .int .i64 other1.Fee.N, vs other1.Fee.Name, .slice as2 ns2 cs2, .int .i64 other1.Cap], .box b1 26 [vs t1.Name, .int .i64 t1.Fee.Op, .int .i64 t1.Fee.N, vs t1.Fee.Name, .slice as1 ns1 cs1, .int .i64 t1.Cap]] w' ∧ Has 215 a [(2, .slice as3 ns3 cs3), (4, .slice as5 ns5 cs5), (5, .pointer (some ⟨b1, 0, none⟩)), (6, .pointer (some ⟨b2, 0, none⟩)), (8, .pointer (some ⟨b3, 0, none⟩)), (11, .bool v1), (43, .bool v3)]) ?_ ?_
 ·rintro a wx6 ⟨Fx3, hF3, hx6, hax1⟩
  refine a1f hax1 ?_
  refine a0c (a0d ?_)
  rcases a0h hm with ⟨hb2, hm⟩ | ⟨hb2, hm⟩
  ·refine a0t 43 rfl hb2 ?_
   refine a0z rfl (a0f (a0a (a0e rfl rfl rfl (a0b rfl rfl rfl (a0c (a0d (a1d (a0j ?_))))))))
   refine a1j rfl rfl ?_
   obtain rfl := Option.some.inj hm
   exact ⟨_, _, _, rfl, hx6.pick [] (by decide) rfl, rfl, rfl⟩
  ·refine a0t 43 rfl hb2 ?_
   refine a0s rfl (a1e (a0d (a0f (a0a ?_))))
   refine a0l ag26 sz26 rfl rfl hx6 rfl (i := 2) rfl rfl ?_
   refine a0e rfl rfl rfl ?_
   refine a0l ag30 sz30 rfl rfl hx6 rfl (i := 0) rfl rfl ?_
   refine a0e rfl rfl rfl ?_
   obtain ⟨v4, hv3, hm⟩ := bind_some hm
   refine a0i ent7 rfl rfl rfl rfl hx6 (a6r _ _ _ _ _ _ hv3 hx6.sat (((hs1.mono hF1).mono hF2).mono hF3) (((hs3.mono hF1).mono hF2).mono hF3) (((hs4.mono hF1).mono hF2).mono hF3) (((hs5.mono hF1).mono hF2).mono hF3)) ?_
   rintro _ Fx4 _ wx7 hF4 hx7 ⟨as6, ns6, cs6, as7, ns7, cs7, rfl, rfl, hs6, hs7⟩
   refine a0e rfl rfl rfl (a0k rfl rfl rfl rfl (a0k rfl rfl rfl rfl ?_))
   refine a1c ze37 rfl rfl rfl hx7 ?_
   intro b4 wx8 hx8
   refine a0q sz37 rfl hx8 rfl rfl rfl rfl (i := 0) rfl rfl rfl rfl ?_
   intro wx9 hx9
   refine a0b rfl rfl rfl (a0c (a0d (a0f (a0a ?_))))
   refine a0l ag26 sz26 rfl rfl hx9 rfl (i := 2) rfl rfl ?_
   refine a0e rfl rfl rfl ?_
   refine a0l ag30 sz30 rfl rfl hx9 rfl (i := 1) rfl rfl ?_
   refine a0e rfl rfl rfl ?_
   have hG1 := ((hF1.trans hF2).trans hF3).trans hF4
   obtain ⟨v5, hv4, hm⟩ := bind_some hm
   refine a0i ent7 rfl rfl rfl rfl hx9 (a6r _ _ _ _ _ _ hv4 hx9.sat (hs2.mono hG1) (hs3.mono hG1) (hs4.mono hG1) (hs5.mono hG1)) ?_
   rintro _ Fx5 _ wx10 hF5 hx10 ⟨as8, ns8, cs8, as9, ns9, cs9, rfl, rfl, hs8, hs9⟩
   refine a0e rfl rfl rfl (a0k rfl rfl rfl rfl (a0k rfl rfl rfl rfl ?_))
   refine a1c ze37 rfl rfl rfl hx10 ?_
   intro b5 wx11 hx11
   refine a0q sz37 rfl hx11 rfl rfl rfl rfl (i := 0) rfl rfl rfl rfl ?_
   intro wx12 hx12
   refine a0b rfl rfl rfl (a0c (a0d (a0f (a0f (a0a (a0e rfl rfl rfl ?_))))))
   refine a0u rfl rfl rfl rfl rfl ?_
   refine a0e rfl rfl rfl ?_
   obtain ⟨v6, hb3, hm⟩ := bind_some hm
   refine a2r 3 (fun a w' => wx12 = w' ∧ Has 215 a [(2, .slice as3 ns3 cs3), (4, .slice as5 ns5 cs5), (5, .pointer (some ⟨b1, 0, none⟩)), (6, .pointer (some ⟨b2, 0, none⟩)), (8, .pointer (some ⟨b3, 0, none⟩)), (11, .bool v1), (12, .pointer (some ⟨b4, 0, none⟩)), (14, .pointer (some ⟨b5, 0, none⟩)), (66, .bool v6)]) ?_ ?_
   ·rintro a wx13 ⟨rfl, hax2⟩
    refine a1f hax2 ?_
    refine a0c (a0d ?_)
    rcases a0h hm with ⟨hb4, hm⟩ | ⟨hb4, hm⟩
    ·refine a0t 66 rfl hb4 ?_
     refine a0z rfl (a0f (a0a (a0e rfl rfl rfl (a0b rfl rfl rfl (a0c (a0d (a1d (a0j ?_))))))))
     refine a1j rfl rfl ?_
     obtain rfl := Option.some.inj hm
     exact ⟨_, _, _, rfl, hx12.pick [] (by decide) rfl, rfl, rfl⟩
    ·refine a0t 66 rfl hb4 ?_
     refine a0s rfl (a1e (a0d (a0f (a0a ?_))))
     refine a0l ag37 sz37 rfl rfl hx12 rfl (i := 1) rfl rfl ?_
     refine a0l ag37 sz37 rfl rfl hx12 rfl (i := 0) rfl rfl ?_
     obtain ⟨v7, hv5, hm⟩ := bind_some hm
     refine a0i ent8 rfl rfl rfl rfl hx12 (b3n _ _ _ _ hv5 hx12.sat (hs6.mono hF5) (hs7.mono hF5) hs8 hs9) ?_
     rintro _ Fx6 _ wx14 hF6 hx13 ⟨as10, ns10, cs10, as11, ns11, cs11, rfl, rfl, hs10, hs11⟩
     refine a0e rfl rfl rfl (a0k rfl rfl rfl rfl (a0k rfl rfl rfl rfl ?_))
     refine a1c ze37 rfl rfl rfl hx13 ?_
     intro b6 wx15 hx14
     refine a0q sz37 rfl hx14 rfl rfl rfl rfl (i := 0) rfl rfl rfl rfl ?_
     intro wx16 hx15
     refine a0b rfl rfl rfl (a0c (a0d (a0f (a0a ?_))))
     refine a0l ag26 sz26 rfl rfl hx15 rfl (i := 5) rfl rfl ?_
     refine a1c ze26 rfl rfl rfl hx15 ?_
     intro b7 wx17 hx16
     refine a0q sz26 rfl hx16 rfl rfl rfl rfl (i := 0) rfl rfl rfl rfl ?_
     intro wx18 hx17
     refine a0c (a0d (a0f (a0a ?_)))
     refine a0g fa26_1 rfl rfl rfl ?_
     refine a2l (cs' := [.int .i64 t1.Fee.Op, .int .i64 t1.Fee.N, vs t1.Fee.Name, .slice as1 ns1 cs1]) ag24 sz24 rfl rfl hx17 rfl (i := 6) rfl rfl rfl ?_
     refine a0g fa26_1 rfl rfl rfl ?_
     refine a2l (cs' := [.int .i64 other1.Fee.Op, .int .i64 other1.Fee.N, vs other1.Fee.Name, .slice as2 ns2 cs2]) ag24 sz24 rfl rfl hx17 rfl (i := 5) rfl rfl rfl ?_
     obtain ⟨v8, hv6, hm⟩ := bind_some hm
     refine a0i ent10 rfl rfl rfl rfl hx17 (a2i _ _ _ _ hv6 hx17.sat (((hs1.mono hG1).mono hF5).mono hF6) (((hs2.mono hG1).mono hF5).mono hF6)) ?_
     rintro _ Fx7 _ wx19 hF7 hx18 ⟨as12, ns12, cs12, xss12, rfl, rfl, hs12⟩
     obtain ⟨Fx8, hF8, hx19, hsx1⟩ := a1b hx18 (i := 0) rfl hs12
     obtain ⟨v9, hv7, hm⟩ := bind_some hm
     refine a0i ent9 rfl rfl rfl rfl hx19 (a1k _ _ _ _ hv7 hx19.sat hsx1) ?_
     rintro _ Fx9 _ wx20 hF9 hx20 ⟨as13, ns13, cs13, rfl, rfl, hs13⟩
     refine a0g fa26_1 rfl rfl rfl ?_
     refine a0q sz24 rfl hx20 rfl rfl rfl rfl (i := 0) rfl rfl rfl rfl ?_
     intro wx21 hx21
     refine a0c (a0d (a0f (a0a ?_)))
     refine a0l ag26 sz26 rfl rfl hx21 rfl (i := 6) rfl rfl ?_
     refine a1c ze26 rfl rfl rfl hx21 ?_
     intro b8 wx22 hx22
     refine a0q sz26 rfl hx22 rfl rfl rfl rfl (i := 0) rfl rfl rfl rfl ?_
     intro wx23 hx23
     refine a0c (a0d (a0f ?_))
     refine a2g (SH Fx9 [.box b7 26 [vs t1.Name, .int .i64 v9.Op, .int .i64 v9.N, vs v9.Name, .slice as13 ns13 cs13, .int .i64 t1.Cap], .box b6 37 [.int .i64 v7.1.P.Sign, .slice as10 ns10 cs10, .int .i64 v7.1.Q.Sign, .slice as11 ns11 cs11], .box b5 37 [.int .i64 v5.1.P.Sign, .slice as8 ns8 cs8, .int .i64 v5.1.Q.Sign, .slice as9 ns9 cs9], .box b4 37 [.int .i64 v4.1.P.Sign, .slice as6 ns6 cs6, .int .i64 v4.1.Q.Sign, .slice as7 ns7 cs7], .box b3 30 [.slice as4 ns4 cs4, .int .i64 f1.Persons, .int .i64 f1.Flats], .box b2 26 [vs other1.Name, .int .i64 other1.Fee.Op, .int .i64 other1.Fee.N, vs other1.Fee.Name, .slice as2 ns2 cs2, .int .i64 other1.Cap], .box b1 26 [vs t1.Name, .int .i64 t1.Fee.Op, .int .i64 t1.Fee.N, vs t1.Fee.Name, .slice as1 ns1 cs1, .int .i64 t1.Cap]]) 12 rfl (by kernel_rfl) hx23 ?_
     intro wx24 hx24
     refine d_tk 0 rfl (by kernel_rfl) rfl rfl rfl rfl (hx24.sh (Frz.refl _) [1, 2, 3, 4, 5, 6, 7] (by decide) rfl) (fun _ _ _ _ _ => a0g fa26_1 rfl rfl rfl (a0c (qq rfl))) ?_
     refine d_tk 1 rfl (by kernel_rfl) rfl rfl rfl rfl (hx24.sh (Frz.refl _) [1, 2, 3, 4, 5, 6, 7] (by decide) rfl) (fun _ _ _ _ _ => a0g fa24_3 rfl rfl rfl (a0c (qq rfl))) ?_
     refine d_tk 2 rfl (by kernel_rfl) rfl rfl rfl rfl (hx24.sh (Frz.refl _) [1, 2, 3, 4, 5, 6, 7] (by decide) rfl) (fun _ _ _ _ hq => a0p ag22 rfl rfl hq rfl (i := 0) rfl rfl (a0c (qq rfl))) ?_
     refine d_tk 4 rfl (by kernel_rfl) rfl rfl rfl rfl (hx24.sh (Frz.refl _) [1, 2, 3, 4, 5, 6, 7] (by decide) rfl) (fun _ _ _ _ _ => a0g fa26_1 rfl rfl rfl (a0c (qq rfl))) ?_
     refine d_tk 5 rfl (by kernel_rfl) rfl rfl rfl rfl (hx24.sh (Frz.refl _) [1, 2, 3, 4, 5, 6, 7] (by decide) rfl) (fun _ _ _ _ _ => a0g fa24_3 rfl rfl rfl (a0c (qq rfl))) ?_
     refine d_tk 6 rfl (by kernel_rfl) rfl rfl rfl rfl (hx24.sh (Frz.refl _) [1, 2, 3, 4, 5, 6, 7] (by decide) rfl) (fun _ _ _ _ hq => a0p ag22 rfl rfl hq rfl (i := 0) rfl rfl (a0c (qq rfl))) ?_
     refine a0w 3 rfl (by kernel_rfl) ?_
     obtain ⟨v10, hv8, hm⟩ := bind_some hm
     refine a0i ent9 rfl rfl rfl rfl hx24 (a1k _ _ _ _ hv8 hx24.sat hs13) ?_
     rintro _ Fx10 _ wx25 hF10 hx25 ⟨as14, ns14, cs14, rfl, rfl, hs14⟩
     refine a0r (hx25.sh hF10 [1, 2, 3, 4, 5, 6, 7] (by decide) rfl) ?_
     refine a0w 7 rfl (by kernel_rfl) ?_
     obtain ⟨v11, hv9, hm⟩ := bind_some hm
     refine a0i ent9 rfl rfl rfl rfl hx25 (a1k _ _ _ _ hv9 hx25.sat (hs13.mono hF10)) ?_
     rintro _ Fx11 _ wx26 hF11 hx26 ⟨as15, ns15, cs15, rfl, rfl, hs15⟩
     refine a0r (hx26.sh (hF10.trans hF11) [1, 2, 3, 4, 5, 6, 7] (by decide) rfl) ?_
     refine a0w 8 rfl (by kernel_rfl) ?_
     obtain ⟨v12, hv10, hm⟩ := bind_some hm
     refine a0i ent10 rfl rfl rfl rfl hx26 (a2i _ _ _ _ hv10 hx26.sat (hs14.mono hF11) hs15) ?_
     rintro _ Fx12 _ wx27 hF12 hx27 ⟨as16, ns16, cs16, xss16, rfl, rfl, hs16⟩
     refine a0r (hx27.sh ((hF10.trans hF11).trans hF12) [2, 3, 4, 5, 6, 7, 8] (by decide) rfl) ?_
     refine a0w 9 rfl (by kernel_rfl) ?_
     obtain ⟨Fx13, hF13, hx28, hsx2⟩ := a1b hx27 (i := 0) rfl hs16
     obtain ⟨v13, hv11, hm⟩ := bind_some hm
     refine a0i ent9 rfl rfl rfl rfl hx28 (a1k _ _ _ _ hv11 hx28.sat hsx2) ?_
     rintro _ Fx14 _ wx28 hF14 hx29 ⟨as17, ns17, cs17, rfl, rfl, hs17⟩
     refine a0r (hx29.sh ((((hF10.trans hF11).trans hF12).trans hF13).trans hF14) [1, 2, 3, 4, 5, 6, 7] (by decide) rfl) ?_
     refine d_tk 10 rfl (by kernel_rfl) rfl rfl rfl rfl (hx29.sh ((((hF10.trans hF11).trans hF12).trans hF13).trans hF14) [1, 2, 3, 4, 5, 6, 7] (by decide) rfl) (fun _ _ _ _ _ => a0g fa26_1 rfl rfl rfl (a0c (qq rfl))) ?_
     refine a0w 11 rfl (by kernel_rfl) ?_
     refine a0q sz24 rfl hx29 rfl rfl rfl rfl (i := 0) rfl rfl rfl rfl ?_
     intro wx29 hx30
     refine a0r (hx30.sh ((((hF10.trans hF11).trans hF12).trans hF13).trans hF14) [1, 2, 3, 4, 5, 6, 7] (by decide) rfl) ?_
     refine a2t (by kernel_rfl) ?_
     refine a0d (a0f (a0a ?_))
     refine a0l ag26 sz26 rfl rfl hx30 rfl (i := 7) rfl rfl ?_
     refine a1c ze26 rfl rfl rfl hx30 ?_
     intro b9 wx30 hx31
     refine a0q sz26 rfl hx31 rfl rfl rfl rfl (i := 0) rfl rfl rfl rfl ?_
     intro wx31 hx32
     refine a0c (a0d (a0f (a0a ?_)))
     refine a0g fa26_1 rfl rfl rfl ?_
     refine a2l (cs' := [.int .i64 t1.Fee.Op, .int .i64 t1.Fee.N, vs t1.Fee.Name, .slice as1 ns1 cs1]) ag24 sz24 rfl rfl hx32 rfl (i := 8) rfl rfl rfl ?_
     refine a0g fa26_1 rfl rfl rfl ?_
     refine a2l (cs' := [.int .i64 t1.Fee.Op, .int .i64 t1.Fee.N, vs t1.Fee.Name, .slice as1 ns1 cs1]) ag24 sz24 rfl rfl hx32 rfl (i := 8) rfl rfl rfl ?_
     have hG2 := (((((((((hG1.trans hF5).trans hF6).trans hF7).trans hF8).trans hF9).trans hF10).trans hF11).trans hF12).trans hF13).trans hF14
     obtain ⟨v14, hv12, hm⟩ := bind_some hm
     refine a0i ent10 rfl rfl rfl rfl hx32 (a2i _ _ _ _ hv12 hx32.sat (hs1.mono hG2) (hs1.mono hG2)) ?_
     rintro _ Fx15 _ wx32 hF15 hx33 ⟨as18, ns18, cs18, xss18, rfl, rfl, hs18⟩
     obtain ⟨Fx16, hF16, hx34, hsx3⟩ := a1b hx33 (i := 0) rfl hs18
     obtain ⟨v15, hv13, hm⟩ := bind_some hm
     refine a0i ent9 rfl rfl rfl rfl hx34 (a1k _ _ _ _ hv13 hx34.sat hsx3) ?_
     rintro _ Fx17 _ wx33 hF17 hx35 ⟨as19, ns19, cs19, rfl, rfl, hs19⟩
     refine a0g fa26_1 rfl rfl rfl ?_
     refine a0q sz24 rfl hx35 rfl rfl rfl rfl (i := 0) rfl rfl rfl rfl ?_
     intro wx34 hx36
     refine a0c (a0d (a0f (a0a ?_)))
     refine a0l ag26 sz26 rfl rfl hx36 rfl (i := 2) rfl rfl ?_
     refine a0e rfl rfl rfl ?_
     refine a0l ag30 sz30 rfl rfl hx36 rfl (i := 6) rfl rfl ?_
     refine a0e rfl rfl rfl ?_
     have hG3 := ((((((hF10.trans hF11).trans hF12).trans hF13).trans hF14).trans hF15).trans hF16).trans hF17
     obtain ⟨v16, hv14, hm⟩ := bind_some hm
     refine a0i ent7 rfl rfl rfl rfl hx36 (a6r _ _ _ _ _ _ hv14 hx36.sat (hs13.mono hG3) ((((hs3.mono hG2).mono hF15).mono hF16).mono hF17) ((((hs4.mono hG2).mono hF15).mono hF16).mono hF17) ((((hs5.mono hG2).mono hF15).mono hF16).mono hF17)) ?_
     rintro _ Fx18 _ wx35 hF18 hx37 ⟨as20, ns20, cs20, as21, ns21, cs21, rfl, rfl, hs20, hs21⟩
     refine a0e rfl rfl rfl (a0k rfl rfl rfl rfl (a0k rfl rfl rfl rfl ?_))
     refine a1c ze37 rfl rfl rfl hx37 ?_
     intro b10 wx36 hx38
     refine a0q sz37 rfl hx38 rfl rfl rfl rfl (i := 0) rfl rfl rfl rfl ?_
     intro wx37 hx39
     refine a0b rfl rfl rfl (a0c (a0d (a0f (a0a ?_))))
     refine a0l ag26 sz26 rfl rfl hx39 rfl (i := 2) rfl rfl ?_
     refine a0e rfl rfl rfl ?_
     refine a0l ag30 sz30 rfl rfl hx39 rfl (i := 7) rfl rfl ?_
     refine a0e rfl rfl rfl ?_
     have hG4 := ((hF15.trans hF16).trans hF17).trans hF18
     have hG5 := (((hG2.trans hF15).trans hF16).trans hF17).trans hF18
     obtain ⟨v17, hv15, hm⟩ := bind_some hm
     refine a0i ent7 rfl rfl rfl rfl hx39 (a6r _ _ _ _ _ _ hv15 hx39.sat (hs17.mono hG4) (hs3.mono hG5) (hs4.mono hG5) (hs5.mono hG5)) ?_
     rintro _ Fx19 _ wx38 hF19 hx40 ⟨as22, ns22, cs22, as23, ns23, cs23, rfl, rfl, hs22, hs23⟩
     refine a0e rfl rfl rfl (a0k rfl rfl rfl rfl (a0k rfl rfl rfl rfl ?_))
     refine a1c ze37 rfl rfl rfl hx40 ?_
     intro b11 wx39 hx41
     refine a0q sz37 rfl hx41 rfl rfl rfl rfl (i := 0) rfl rfl rfl rfl ?_
     intro wx40 hx42
     refine a0b rfl rfl rfl (a0c (a0d (a0f (a0a ?_))))
     refine a0l ag26 sz26 rfl rfl hx42 rfl (i := 2) rfl rfl ?_
     refine a0e rfl rfl rfl ?_
     refine a0l ag30 sz30 rfl rfl hx42 rfl (i := 8) rfl rfl ?_
     refine a0e rfl rfl rfl ?_
     obtain ⟨v18, hv16, hm⟩ := bind_some hm
     refine a0i ent7 rfl rfl rfl rfl hx42 (a6r _ _ _ _ _ _ hv16 hx42.sat ((hs19.mono hF18).mono hF19) ((hs3.mono hG5).mono hF19) ((hs4.mono hG5).mono hF19) ((hs5.mono hG5).mono hF19)) ?_
     rintro _ Fx20 _ wx41 hF20 hx43 ⟨as24, ns24, cs24, as25, ns25, cs25, rfl, rfl, hs24, hs25⟩
     refine a0e rfl rfl rfl (a0k rfl rfl rfl rfl (a0k rfl rfl rfl rfl ?_))
     refine a1c ze37 rfl rfl rfl hx43 ?_
     intro b12 wx42 hx44
     refine a0q sz37 rfl hx44 rfl rfl rfl rfl (i := 0) rfl rfl rfl rfl ?_
     intro wx43 hx45
     refine a0b rfl rfl rfl (a0c (a0d (a0f (a0f ?_))))
     refine a2g (SH Fx20 [.box b12 37 [.int .i64 v18.1.P.Sign, .slice as24 ns24 cs24, .int .i64 v18.1.Q.Sign, .slice as25 ns25 cs25], .box b11 37 [.int .i64 v17.1.P.Sign, .slice as22 ns22 cs22, .int .i64 v17.1.Q.Sign, .slice as23 ns23 cs23], .box b10 37 [.int .i64 v16.1.P.Sign, .slice as20 ns20 cs20, .int .i64 v16.1.Q.Sign, .slice as21 ns21 cs21], .box b9 26 [vs t1.Name, .int .i64 v15.Op, .int .i64 v15.N, vs v15.Name, .slice as19 ns19 cs19, .int .i64 t1.Cap], .box b8 26 [vs t1.Name, .int .i64 v13.Op, .int .i64 v13.N, vs v13.Name, .slice as17 ns17 cs17, .int .i64 t1.Cap], .box b7 26 [vs t1.Name, .int .i64 v9.Op, .int .i64 v9.N, vs v9.Name, .slice as13 ns13 cs13, .int .i64 t1.Cap], .box b6 37 [.int .i64 v7.1.P.Sign, .slice as10 ns10 cs10, .int .i64 v7.1.Q.Sign, .slice as11 ns11 cs11], .box b5 37 [.int .i64 v5.1.P.Sign, .slice as8 ns8 cs8, .int .i64 v5.1.Q.Sign, .slice as9 ns9 cs9], .box b4 37 [.int .i64 v4.1.P.Sign, .slice as6 ns6 cs6, .int .i64 v4.1.Q.Sign, .slice as7 ns7 cs7], .box b3 30 [.slice as4 ns4 cs4, .int .i64 f1.Persons, .int .i64 f1.Flats], .box b2 26 [vs other1.Name, .int .i64 other1.Fee.Op, .int .i64 other1.Fee.N, vs other1.Fee.Name, .slice as2 ns2 cs2, .int .i64 other1.Cap], .box b1 26 [vs t1.Name, .int .i64 t1.Fee.Op, .int .i64 t1.Fee.N, vs t1.Fee.Name, .slice as1 ns1 cs1, .int .i64 t1.Cap]]) 28 rfl (by kernel_rfl) hx45 ?_
     intro wx44 hx46
     refine d_tk 0 rfl (by kernel_rfl) rfl rfl rfl rfl (hx46.sh (Frz.refl _) [0, 1, 2, 3, 4, 5, 6, 7, 8, 9, 10, 11] (by decide) rfl) (fun _ _ _ _ _ => a0e rfl rfl rfl (a0c (qq rfl))) ?_
     refine d_tk 1 rfl (by kernel_rfl) rfl rfl rfl rfl (hx46.sh (Frz.refl _) [0, 1, 2, 3, 4, 5, 6, 7, 8, 9, 10, 11] (by decide) rfl) (fun _ _ _ _ _ => a0u rfl rfl rfl rfl rfl (a0c (qq rfl))) ?_
     refine d_tk 2 rfl (by kernel_rfl) rfl rfl rfl rfl (hx46.sh (Frz.refl _) [0, 1, 2, 3, 4, 5, 6, 7, 8, 9, 10, 11] (by decide) rfl) (fun _ _ _ _ _ => a0e rfl rfl rfl (a0c (qq rfl))) ?_
     obtain ⟨v19, hb5, hm⟩ := bind_some hm
     refine b2y (fuel' := 20) (listed' := #[true, true, true, true, true, true, true, true, false, false, false, false, false, false, false, false, false, false, false, false, false, false, false, false, false, false, false, false]) (fun a w' => ∃ (Fx21 : Frz), Frz.le Fx20 Fx21 ∧ HS F w [] Fx21 [.box b12 37 [.int .i64 v18.1.P.Sign, .slice as24 ns24 cs24, .int .i64 v18.1.Q.Sign, .slice as25 ns25 cs25], .box b11 37 [.int .i64 v17.1.P.Sign, .slice as22 ns22 cs22, .int .i64 v17.1.Q.Sign, .slice as23 ns23 cs23], .box b10 37 [.int .i64 v16.1.P.Sign, .slice as20 ns20 cs20, .int .i64 v16.1.Q.Sign, .slice as21 ns21 cs21], .box b9 26 [vs t1.Name, .int .i64 v15.Op, .int .i64 v15.N, vs v15.Name, .slice as19 ns19 cs19, .int .i64 t1.Cap], .box b8 26 [vs t1.Name, .int .i64 v13.Op, .int .i64 v13.N, vs v13.Name, .slice as17 ns17 cs17, .int .i64 t1.Cap], .box b7 26 [vs t1.Name, .int .i64 v9.Op, .int .i64 v9.N, vs v9.Name, .slice as13 ns13 cs13, .int .i64 t1.Cap], .box b6 37 [.int .i64 v7.1.P.Sign, .slice as10 ns10 cs10, .int .i64 v7.1.Q.Sign, .slice as11 ns11 cs11], .box b5 37 [.int .i64 v5.1.P.Sign, .slice as8 ns8 cs8, .int .i64 v5.1.Q.Sign, .slice as9 ns9 cs9], .box b4 37 [.int .i64 v4.1.P.Sign, .slice as6 ns6 cs6, .int .i64 v4.1.Q.Sign, .slice as7 ns7 cs7], .box b3 30 [.slice as4 ns4 cs4, .int .i64 f1.Persons, .int .i64 f1.Flats], .box b2 26 [vs other1.Name, .int .i64 other1.Fee.Op, .int .i64 other1.Fee.N, vs other1.Fee.Name, .slice as2 ns2 cs2, .int .i64 other1.Cap], .box b1 26 [vs t1.Name, .int .i64 t1.Fee.Op, .int .i64 t1.Fee.N, vs t1.Fee.Name, .slice as1 ns1 cs1, .int .i64 t1.Cap]] w' ∧ Has 215 a [(2, .slice as3 ns3 cs3), (4, .slice as5 ns5 cs5), (5, .pointer (some ⟨b1, 0, none⟩)), (8, .pointer (some ⟨b3, 0, none⟩)), (11, .bool v1), (12, .pointer (some ⟨b4, 0, none⟩)), (16, .pointer (some ⟨b6, 0, none⟩)), (23, .pointer (some ⟨b11, 0, none⟩)), (24, .int .i64 v17.2), (25, .pointer (some ⟨b12, 0, none⟩)), (26, .int .i64 v18.2), (133, .bool v19)]) ?_ (fun hK1 => ?_)
     ·rintro a wx45 ⟨Fx21, hF21, hx47, hax3⟩
      refine a5s hax3 ?_
      refine d_tk 8 rfl (by kernel_rfl) rfl rfl rfl rfl (hx47.sh hF21 [0, 1, 2, 3, 4, 5, 6, 7, 8, 9, 10, 11] (by decide) rfl) (fun _ _ _ _ _ => a0e rfl rfl rfl (a0c (qq rfl))) ?_
      obtain ⟨v20, hb6, hm⟩ := bind_some hm
      refine b2y (fuel' := 10) (listed' := #[true, true, true, true, true, true, true, true, true, true, true, true, true, true, true, true, true, true, false, false, false, false, false, false, false, false, false, false]) (fun a w' => ∃ (Fx22 : Frz), Frz.le Fx21 Fx22 ∧ HS F w [] Fx22 [.box b12 37 [.int .i64 v18.1.P.Sign, .slice as24 ns24 cs24, .int .i64 v18.1.Q.Sign, .slice as25 ns25 cs25], .box b11 37 [.int .i64 v17.1.P.Sign, .slice as22 ns22 cs22, .int .i64 v17.1.Q.Sign, .slice as23 ns23 cs23], .box b10 37 [.int .i64 v16.1.P.Sign, .slice as20 ns20 cs20, .int .i64 v16.1.Q.Sign, .slice as21 ns21 cs21], .box b9 26 [vs t1.Name, .int .i64 v15.Op, .int .i64 v15.N, vs v15.Name, .slice as19 ns19 cs19, .int .i64 t1.Cap], .box b8 26 [vs t1.Name, .int .i64 v13.Op, .int .i64 v13.N, vs v13.Name, .slice as17 ns17 cs17, .int .i64 t1.Cap], .box b7 26 [vs t1.Name, .int .i64 v9.Op, .int .i64 v9.N, vs v9.Name, .slice as13 ns13 cs13, .int .i64 t1.Cap], .box b6 37 [.int .i64 v7.1.P.Sign, .slice as10 ns10 cs10, .int .i64 v7.1.Q.Sign, .slice as11 ns11 cs11], .box b5 37 [.int .i64 v5.1.P.Sign, .slice as8 ns8 cs8, .int .i64 v5.1.Q.Sign, .slice as9 ns9 cs9], .box b4 37 [.int .i64 v4.1.P.Sign, .slice as6 ns6 cs6, .int .i64 v4.1.Q.Sign, .slice as7 ns7 cs7], .box b3 30 [.slice as4 ns4 cs4, .int .i64 f1.Persons, .int .i64 f1.Flats], .box b2 26 [vs other1.Name, .int .i64 other1.Fee.Op, .int .i64 other1.Fee.N, vs other1.Fee.Name, .slice as2 ns2 cs2, .int .i64 other1.Cap], .box b1 26 [vs t1.Name, .int .i64 t1.Fee.Op, .int .i64 t1.Fee.N, vs t1.Fee.Name, .slice as1 ns1 cs1, .int .i64 t1.Cap]] w' ∧ Has 215 a [(2, .slice as3 ns3 cs3), (4, .slice as5 ns5 cs5), (5, .pointer (some ⟨b1, 0, none⟩)), (8, .pointer (some ⟨b3, 0, none⟩)), (11, .bool v1), (12, .pointer (some ⟨b4, 0, none⟩)), (25, .pointer (some ⟨b12, 0, none⟩)), (26, .int .i64 v18.2), (143, .bool v20)]) ?_ (fun hK2 => ?_)
      ·rintro a wx46 ⟨Fx22, hF22, hx48, hax4⟩
       refine a5s hax4 ?_
       refine d_tk 18 rfl (by kernel_rfl) rfl rfl rfl rfl (hx48.sh (hF21.trans hF22) [0, 1, 2, 3, 4, 5, 6, 7, 8, 9, 10, 11] (by decide) rfl) (fun _ _ _ _ _ => a0e rfl rfl rfl (a0c (qq rfl))) ?_
       obtain ⟨v21, hb7, hm⟩ := bind_some hm
       refine b2y (fuel' := 0) (listed' := #[true, true, true, true, true, true, true, true, true, true, true, true, true, true, true, true, true, true, true, true, true, true, true, true, true, true, true, true]) (fun a w' => ∃ (Fx23 : Frz), Frz.le Fx22 Fx23 ∧ HS F w [] Fx23 [.box b12 37 [.int .i64 v18.1.P.Sign, .slice as24 ns24 cs24, .int .i64 v18.1.Q.Sign, .slice as25 ns25 cs25], .box b11 37 [.int .i64 v17.1.P.Sign, .slice as22 ns22 cs22, .int .i64 v17.1.Q.Sign, .slice as23 ns23 cs23], .box b10 37 [.int .i64 v16.1.P.Sign, .slice as20 ns20 cs20, .int .i64 v16.1.Q.Sign, .slice as21 ns21 cs21], .box b9 26 [vs t1.Name, .int .i64 v15.Op, .int .i64 v15.N, vs v15.Name, .slice as19 ns19 cs19, .int .i64 t1.Cap], .box b8 26 [vs t1.Name, .int .i64 v13.Op, .int .i64 v13.N, vs v13.Name, .slice as17 ns17 cs17, .int .i64 t1.Cap], .box b7 26 [vs t1.Name, .int .i64 v9.Op, .int .i64 v9.N, vs v9.Name, .slice as13 ns13 cs13, .int .i64 t1.Cap], .box b6 37 [.int .i64 v7.1.P.Sign, .slice as10 ns10 cs10, .int .i64 v7.1.Q.Sign, .slice as11 ns11 cs11], .box b5 37 [.int .i64 v5.1.P.Sign, .slice as8 ns8 cs8, .int .i64 v5.1.Q.Sign, .slice as9 ns9 cs9], .box b4 37 [.int .i64 v4.1.P.Sign, .slice as6 ns6 cs6, .int .i64 v4.1.Q.Sign, .slice as7 ns7 cs7], .box b3 30 [.slice as4 ns4 cs4, .int .i64 f1.Persons, .int .i64 f1.Flats], .box b2 26 [vs other1.Name, .int .i64 other1.Fee.Op, .int .i64 other1.Fee.N, vs other1.Fee.Name, .slice as2 ns2 cs2, .int .i64 other1.Cap], .box b1 26 [vs t1.Name, .int .i64 t1.Fee.Op, .int .i64 t1.Fee.N, vs t1.Fee.Name, .slice as1 ns1 cs1, .int .i64 t1.Cap]] w' ∧ Has 215 a [(2, .slice as3 ns3 cs3), (4, .slice as5 ns5 cs5), (5, .pointer (some ⟨b1, 0, none⟩)), (8, .pointer (some ⟨b3, 0, none⟩)), (11, .bool v1), (12, .pointer (some ⟨b4, 0, none⟩)), (153, .bool v21)]) ?_ (fun hK3 => ?_)
       ·rintro a wx47 ⟨Fx23, hF23, hx49, hax5⟩
        refine a5s hax5 ?_
        refine a2t (by kernel_rfl) ?_
        refine a0d ?_
        rcases a0h hm with ⟨hb8, hm⟩ | ⟨hb8, hm⟩
        ·refine a0t 153 rfl hb8 ?_
         refine a0z rfl (a0f (a0a (a0b rfl rfl rfl (a0c (a0d (a1d (a0j ?_)))))))
         refine a1j rfl rfl ?_
         obtain rfl := Option.some.inj hm
         exact ⟨_, _, _, rfl, hx49.pick [] (by decide) rfl, rfl, rfl⟩
        ·refine a0t 153 rfl hb8 ?_
         refine a0s rfl (a1e (a0d (a0f (a0a ?_))))
         refine a0l ag26 sz26 rfl rfl hx49 rfl (i := 11) rfl rfl ?_
         refine a0e rfl rfl rfl ?_
         refine a0l ag30 sz30 rfl rfl hx49 rfl (i := 9) rfl rfl ?_
         refine a0e rfl rfl rfl ?_
         have hG6 := ((((hG5.trans hF19).trans hF20).trans hF21).trans hF22).trans hF23
         obtain ⟨v22, hv17, hm⟩ := bind_some hm
         refine a0i ent13 rfl rfl rfl rfl hx49 (b4a _ _ _ _ _ _ hv17 hx49.sat (hs1.mono hG6) (hs3.mono hG6) (hs4.mono hG6) (hs5.mono hG6)) ?_
         rintro _ Fx24 _ wx48 hF24 hx50 ⟨as26, ns26, cs26, as27, ns27, cs27, rfl, rfl, hs26, hs27⟩
         refine a0e rfl rfl rfl (a0k rfl rfl rfl rfl (a0k rfl rfl rfl rfl ?_))
         refine a1c ze37 rfl rfl rfl hx50 ?_
         intro b13 wx49 hx51
         refine a0q sz37 rfl hx51 rfl rfl rfl rfl (i := 0) rfl rfl rfl rfl ?_
         intro wx50 hx52
         refine a0b rfl rfl rfl (a0c (a0d (a0f (a0f ?_))))
         refine a2g (SH Fx24 [.box b13 37 [.int .i64 v22.1.P.Sign, .slice as26 ns26 cs26, .int .i64 v22.1.Q.Sign, .slice as27 ns27 cs27], .box b12 37 [.int .i64 v18.1.P.Sign, .slice as24 ns24 cs24, .int .i64 v18.1.Q.Sign, .slice as25 ns25 cs25], .box b11 37 [.int .i64 v17.1.P.Sign, .slice as22 ns22 cs22, .int .i64 v17.1.Q.Sign, .slice as23 ns23 cs23], .box b10 37 [.int .i64 v16.1.P.Sign, .slice as20 ns20 cs20, .int .i64 v16.1.Q.Sign, .slice as21 ns21 cs21], .box b9 26 [vs t1.Name, .int .i64 v15.Op, .int .i64 v15.N, vs v15.Name, .slice as19 ns19 cs19, .int .i64 t1.Cap], .box b8 26 [vs t1.Name, .int .i64 v13.Op, .int .i64 v13.N, vs v13.Name, .slice as17 ns17 cs17, .int .i64 t1.Cap], .box b7 26 [vs t1.Name, .int .i64 v9.Op, .int .i64 v9.N, vs v9.Name, .slice as13 ns13 cs13, .int .i64 t1.Cap], .box b6 37 [.int .i64 v7.1.P.Sign, .slice as10 ns10 cs10, .int .i64 v7.1.Q.Sign, .slice as11 ns11 cs11], .box b5 37 [.int .i64 v5.1.P.Sign, .slice as8 ns8 cs8, .int .i64 v5.1.Q.Sign, .slice as9 ns9 cs9], .box b4 37 [.int .i64 v4.1.P.Sign, .slice as6 ns6 cs6, .int .i64 v4.1.Q.Sign, .slice as7 ns7 cs7], .box b3 30 [.slice as4 ns4 cs4, .int .i64 f1.Persons, .int .i64 f1.Flats], .box b2 26 [vs other1.Name, .int .i64 other1.Fee.Op, .int .i64 other1.Fee.N, vs other1.Fee.Name, .slice as2 ns2 cs2, .int .i64 other1.Cap], .box b1 26 [vs t1.Name, .int .i64 t1.Fee.Op, .int .i64 t1.Fee.N, vs t1.Fee.Name, .slice as1 ns1 cs1, .int .i64 t1.Cap]]) 20 rfl (by kernel_rfl) hx52 ?_
         intro wx51 hx53
         refine d_tk 0 rfl (by kernel_rfl) rfl rfl rfl rfl (hx53.sh (Frz.refl _) [0, 1, 2, 3, 4, 5, 6, 7, 8, 9, 10, 11, 12] (by decide) rfl) (fun _ _ _ _ _ => a0e rfl rfl rfl (a0c (qq rfl))) ?_
         refine d_tk 1 rfl (by kernel_rfl) rfl rfl rfl rfl (hx53.sh (Frz.refl _) [0, 1, 2, 3, 4, 5, 6, 7, 8, 9, 10, 11, 12] (by decide) rfl) (fun _ _ _ _ _ => a0u rfl rfl rfl rfl rfl (a0c (qq rfl))) ?_
         refine d_tk 2 rfl (by kernel_rfl) rfl rfl rfl rfl (hx53.sh (Frz.refl _) [0, 1, 2, 3, 4, 5, 6, 7, 8, 9, 10, 11, 12] (by decide) rfl) (fun _ _ _ _ _ => a0e rfl rfl rfl (a0c (qq rfl))) ?_
         obtain ⟨v23, hb9, hm⟩ := bind_some hm
         refine b2y (fuel' := 13) (listed' := #[true, true, true, true, true, true, true, false, false, false, false, false, false, false, false, false, false, false, false, false]) (fun a w' => ∃ (Fx25 : Frz), Frz.le Fx24 Fx25 ∧ HS F w [] Fx25 [.box b13 37 [.int .i64 v22.1.P.Sign, .slice as26 ns26 cs26, .int .i64 v22.1.Q.Sign, .slice as27 ns27 cs27], .box b12 37 [.int .i64 v18.1.P.Sign, .slice as24 ns24 cs24, .int .i64 v18.1.Q.Sign, .slice as25 ns25 cs25], .box b11 37 [.int .i64 v17.1.P.Sign, .slice as22 ns22 cs22, .int .i64 v17.1.Q.Sign, .slice as23 ns23 cs23], .box b10 37 [.int .i64 v16.1.P.Sign, .slice as20 ns20 cs20, .int .i64 v16.1.Q.Sign, .slice as21 ns21 cs21], .box b9 26 [vs t1.Name, .int .i64 v15.Op, .int .i64 v15.N, vs v15.Name, .slice as19 ns19 cs19, .int .i64 t1.Cap], .box b8 26 [vs t1.Name, .int .i64 v13.Op, .int .i64 v13.N, vs v13.Name, .slice as17 ns17 cs17, .int .i64 t1.Cap], .box b7 26 [vs t1.Name, .int .i64 v9.Op, .int .i64 v9.N, vs v9.Name, .slice as13 ns13 cs13, .int .i64 t1.Cap], .box b6 37 [.int .i64 v7.1.P.Sign, .slice as10 ns10 cs10, .int .i64 v7.1.Q.Sign, .slice as11 ns11 cs11], .box b5 37 [.int .i64 v5.1.P.Sign, .slice as8 ns8 cs8, .int .i64 v5.1.Q.Sign, .slice as9 ns9 cs9], .box b4 37 [.int .i64 v4.1.P.Sign, .slice as6 ns6 cs6, .int .i64 v4.1.Q.Sign, .slice as7 ns7 cs7], .box b3 30 [.slice as4 ns4 cs4, .int .i64 f1.Persons, .int .i64 f1.Flats], .box b2 26 [vs other1.Name, .int .i64 other1.Fee.Op, .int .i64 other1.Fee.N, vs other1.Fee.Name, .slice as2 ns2 cs2, .int .i64 other1.Cap], .box b1 26 [vs t1.Name, .int .i64 t1.Fee.Op, .int .i64 t1.Fee.N, vs t1.Fee.Name, .slice as1 ns1 cs1, .int .i64 t1.Cap]] w' ∧ Has 215 a [(5, .pointer (some ⟨b1, 0, none⟩)), (11, .bool v1), (12, .pointer (some ⟨b4, 0, none⟩)), (27, .pointer (some ⟨b13, 0, none⟩)), (168, .bool v23)]) ?_ (fun hK4 => ?_)
         ·rintro a wx52 ⟨Fx25, hF25, hx54, hax6⟩
          refine a5s hax6 ?_
          refine d_tk 7 rfl (by kernel_rfl) rfl rfl rfl rfl (hx54.sh hF25 [0, 1, 2, 3, 4, 5, 6, 7, 8, 9, 10, 11, 12] (by decide) rfl) (fun _ _ _ _ _ => a0e rfl rfl rfl (a0c (qq rfl))) ?_
          obtain ⟨v24, hb10, hm⟩ := bind_some hm
          refine b2y (fuel' := 0) (listed' := #[true, true, true, true, true, true, true, true, true, true, true, true, true, true, true, true, true, true, true, true]) (fun a w' => ∃ (Fx26 : Frz), Frz.le Fx25 Fx26 ∧ HS F w [] Fx26 [.box b13 37 [.int .i64 v22.1.P.Sign, .slice as26 ns26 cs26, .int .i64 v22.1.Q.Sign, .slice as27 ns27 cs27], .box b12 37 [.int .i64 v18.1.P.Sign, .slice as24 ns24 cs24, .int .i64 v18.1.Q.Sign, .slice as25 ns25 cs25], .box b11 37 [.int .i64 v17.1.P.Sign, .slice as22 ns22 cs22, .int .i64 v17.1.Q.Sign, .slice as23 ns23 cs23], .box b10 37 [.int .i64 v16.1.P.Sign, .slice as20 ns20 cs20, .int .i64 v16.1.Q.Sign, .slice as21 ns21 cs21], .box b9 26 [vs t1.Name, .int .i64 v15.Op, .int .i64 v15.N, vs v15.Name, .slice as19 ns19 cs19, .int .i64 t1.Cap], .box b8 26 [vs t1.Name, .int .i64 v13.Op, .int .i64 v13.N, vs v13.Name, .slice as17 ns17 cs17, .int .i64 t1.Cap], .box b7 26 [vs t1.Name, .int .i64 v9.Op, .int .i64 v9.N, vs v9.Name, .slice as13 ns13 cs13, .int .i64 t1.Cap], .box b6 37 [.int .i64 v7.1.P.Sign, .slice as10 ns10 cs10, .int .i64 v7.1.Q.Sign, .slice as11 ns11 cs11], .box b5 37 [.int .i64 v5.1.P.Sign, .slice as8 ns8 cs8, .int .i64 v5.1.Q.Sign, .slice as9 ns9 cs9], .box b4 37 [.int .i64 v4.1.P.Sign, .slice as6 ns6 cs6, .int .i64 v4.1.Q.Sign, .slice as7 ns7 cs7], .box b3 30 [.slice as4 ns4 cs4, .int .i64 f1.Persons, .int .i64 f1.Flats], .box b2 26 [vs other1.Name, .int .i64 other1.Fee.Op, .int .i64 other1.Fee.N, vs other1.Fee.Name, .slice as2 ns2 cs2, .int .i64 other1.Cap], .box b1 26 [vs t1.Name, .int .i64 t1.Fee.Op, .int .i64 t1.Fee.N, vs t1.Fee.Name, .slice as1 ns1 cs1, .int .i64 t1.Cap]] w' ∧ Has 215 a [(5, .pointer (some ⟨b1, 0, none⟩)), (11, .bool v1), (12, .pointer (some ⟨b4, 0, none⟩)), (27, .pointer (some ⟨b13, 0, none⟩)), (181, .bool v24)]) ?_ (fun hK5 => ?_)
          ·rintro a wx53 ⟨Fx26, hF26, hx55, hax7⟩
           refine a5s hax7 ?_
           refine a2t (by kernel_rfl) ?_
           refine a0d ?_
           rcases a0h hm with ⟨hb11, hm⟩ | ⟨hb11, hm⟩
           ·refine a0t 181 rfl hb11 ?_
            refine a0z rfl (a0f (a0a (a0b rfl rfl rfl (a0c (a0d (a1d (a0j ?_)))))))
            refine a1j rfl rfl ?_
            obtain rfl := Option.some.inj hm
            exact ⟨_, _, _, rfl, hx55.pick [] (by decide) rfl, rfl, rfl⟩
           ·refine a0t 181 rfl hb11 ?_
            refine a0s rfl (a1e (a0d (a0f (a0f (a0a ?_)))))
            refine a0l ag37 sz37 rfl rfl hx55 rfl (i := 9) rfl rfl ?_
            have hG7 := ((((((((((((((((((((hF5.trans hF6).trans hF7).trans hF8).trans hF9).trans hF10).trans hF11).trans hF12).trans hF13).trans hF14).trans hF15).trans hF16).trans hF17).trans hF18).trans hF19).trans hF20).trans hF21).trans hF22).trans hF23).trans hF24).trans hF25).trans hF26
            obtain ⟨v25, hv18, hm⟩ := bind_some hm
            refine a0i ent14 rfl rfl rfl rfl hx55 (a9f _ _ _ hv18 hx55.sat (hs6.mono hG7) (hs7.mono hG7)) ?_
            rintro _ Fx27 _ wx54 hF27 hx56 ⟨rfl, rfl⟩
            refine a0u rfl rfl rfl rfl rfl ?_
            refine a0c (a0d ?_)
            rcases a0h hm with ⟨hb12, hm⟩ | ⟨hb12, hm⟩
            ·refine a0t 184 rfl hb12 ?_
             refine a0z rfl (a0f (a0a (a0e rfl rfl rfl (a0e rfl rfl rfl ?_))))
             obtain ⟨v26, hb13, hm⟩ := bind_some hm
             refine a2r 4 (fun a w' => ∃ (Fx28 : Frz), Frz.le Fx27 Fx28 ∧ HS F w [] Fx28 [.box b13 37 [.int .i64 v22.1.P.Sign, .slice as26 ns26 cs26, .int .i64 v22.1.Q.Sign, .slice as27 ns27 cs27], .box b12 37 [.int .i64 v18.1.P.Sign, .slice as24 ns24 cs24, .int .i64 v18.1.Q.Sign, .slice as25 ns25 cs25], .box b11 37 [.int .i64 v17.1.P.Sign, .slice as22 ns22 cs22, .int .i64 v17.1.Q.Sign, .slice as23 ns23 cs23], .box b10 37 [.int .i64 v16.1.P.Sign, .slice as20 ns20 cs20, .int .i64 v16.1.Q.Sign, .slice as21 ns21 cs21], .box b9 26 [vs t1.Name, .int .i64 v15.Op, .int .i64 v15.N, vs v15.Name, .slice as19 ns19 cs19, .int .i64 t1.Cap], .box b8 26 [vs t1.Name, .int .i64 v13.Op, .int .i64 v13.N, vs v13.Name, .slice as17 ns17 cs17, .int .i64 t1.Cap], .box b7 26 [vs t1.Name, .int .i64 v9.Op, .int .i64 v9.N, vs v9.Name, .slice as13 ns13 cs13, .int .i64 t1.Cap], .box b6 37 [.int .i64 v7.1.P.Sign, .slice as10 ns10 cs10, .int .i64 v7.1.Q.Sign, .slice as11 ns11 cs11], .box b5 37 [.int .i64 v5.1.P.Sign, .slice as8 ns8 cs8, .int .i64 v5.1.Q.Sign, .slice as9 ns9 cs9], .box b4 37 [.int .i64 v4.1.P.Sign, .slice as6 ns6 cs6, .int .i64 v4.1.Q.Sign, .slice as7 ns7 cs7], .box b3 30 [.slice as4 ns4 cs4, .int .i64 f1.Persons, .int .i64 f1.Flats], .box b2 26 [vs other1.Name, .int .i64 other1.Fee.Op, .int .i64 other1.Fee.N, vs other1.Fee.Name, .slice as2 ns2 cs2, .int .i64 other1.Cap], .box b1 26 [vs t1.Name, .int .i64 t1.Fee.Op, .int .i64 t1.Fee.N, vs t1.Fee.Name, .slice as1 ns1 cs1, .int .i64 t1.Cap]] w' ∧ Has 215 a [(190, .bool v26)]) ?_ ?_
             ·rintro a wx55 ⟨Fx28, hF28, hx57, hax8⟩
              refine a1f hax8 ?_
              refine a0b rfl rfl rfl (a0c (a0d (a1d (a0j ?_))))
              refine a1j rfl rfl ?_
              obtain rfl := Option.some.inj hm
              exact ⟨_, _, _, rfl, hx57.pick [] (by decide) rfl, rfl, rfl⟩
             ·clear hm
              rcases a0h hb13 with ⟨hb14, hb13⟩ | ⟨hb14, hb13⟩
              ·refine a1i 186 rfl hb14 ?_
               refine a0l ag37 sz37 rfl rfl hx56 rfl (i := 0) rfl rfl ?_
               obtain ⟨v27, hv19, hb13⟩ := bind_some hb13
               refine a0i ent14 rfl rfl rfl rfl hx56 (a9f _ _ _ hv19 hx56.sat (((hs26.mono hF25).mono hF26).mono hF27) (((hs27.mono hF25).mono hF26).mono hF27)) ?_
               rintro _ Fx29 _ wx56 hF29 hx58 ⟨rfl, rfl⟩
               refine a0u rfl rfl rfl rfl rfl ?_
               refine a0n rfl rfl rfl rfl (a0c ?_)
               refine a0o (fun a ha => ?_)
               cases hb13
               exact ⟨_, hF29, hx58.pick [0, 1, 2, 3, 4, 5, 6, 7, 8, 9, 10, 11, 12] (by decide) rfl, ha.cut (l := [190]) rfl⟩
              ·refine a1i 186 rfl hb14 ?_
               refine a0y rfl (by decide) rfl (a0y rfl (by decide) rfl (a0y rfl (by decide) rfl (a0m rfl rfl rfl rfl (a0c ?_))))
               refine a0o (fun a ha => ?_)
               cases hb13
               exact ⟨_, Frz.refl _, hx56.pick [0, 1, 2, 3, 4, 5, 6, 7, 8, 9, 10, 11, 12] (by decide) rfl, ha.cut (l := [190]) rfl⟩
            ·refine a0t 184 rfl hb12 ?_
             refine a0s rfl (a1e (a0d (a0f ?_)))
             refine a2g (SH Fx27 [.box b13 37 [.int .i64 v22.1.P.Sign, .slice as26 ns26 cs26, .int .i64 v22.1.Q.Sign, .slice as27 ns27 cs27], .box b12 37 [.int .i64 v18.1.P.Sign, .slice as24 ns24 cs24, .int .i64 v18.1.Q.Sign, .slice as25 ns25 cs25], .box b11 37 [.int .i64 v17.1.P.Sign, .slice as22 ns22 cs22, .int .i64 v17.1.Q.Sign, .slice as23 ns23 cs23], .box b10 37 [.int .i64 v16.1.P.Sign, .slice as20 ns20 cs20, .int .i64 v16.1.Q.Sign, .slice as21 ns21 cs21], .box b9 26 [vs t1.Name, .int .i64 v15.Op, .int .i64 v15.N, vs v15.Name, .slice as19 ns19 cs19, .int .i64 t1.Cap], .box b8 26 [vs t1.Name, .int .i64 v13.Op, .int .i64 v13.N, vs v13.Name, .slice as17 ns17 cs17, .int .i64 t1.Cap], .box b7 26 [vs t1.Name, .int .i64 v9.Op, .int .i64 v9.N, vs v9.Name, .slice as13 ns13 cs13, .int .i64 t1.Cap], .box b6 37 [.int .i64 v7.1.P.Sign, .slice as10 ns10 cs10, .int .i64 v7.1.Q.Sign, .slice as11 ns11 cs11], .box b5 37 [.int .i64 v5.1.P.Sign, .slice as8 ns8 cs8, .int .i64 v5.1.Q.Sign, .slice as9 ns9 cs9], .box b4 37 [.int .i64 v4.1.P.Sign, .slice as6 ns6 cs6, .int .i64 v4.1.Q.Sign, .slice as7 ns7 cs7], .box b3 30 [.slice as4 ns4 cs4, .int .i64 f1.Persons, .int .i64 f1.Flats], .box b2 26 [vs other1.Name, .int .i64 other1.Fee.Op, .int .i64 other1.Fee.N, vs other1.Fee.Name, .slice as2 ns2 cs2, .int .i64 other1.Cap], .box b1 26 [vs t1.Name, .int .i64 t1.Fee.Op, .int .i64 t1.Fee.N, vs t1.Fee.Name, .slice as1 ns1 cs1, .int .i64 t1.Cap]]) 25 rfl (by kernel_rfl) hx56 ?_
             intro wx57 hx59
             refine d_tk 0 rfl (by kernel_rfl) rfl rfl rfl rfl (hx59.sh (Frz.refl _) [0, 1, 2, 3, 4, 5, 6, 7, 8, 9, 10, 11, 12] (by decide) rfl) (fun _ _ _ _ _ => a0e rfl rfl rfl (a0c (qq rfl))) ?_
             refine d_tk 1 rfl (by kernel_rfl) rfl rfl rfl rfl (hx59.sh (Frz.refl _) [0, 1, 2, 3, 4, 5, 6, 7, 8, 9, 10, 11, 12] (by decide) rfl) (fun _ _ _ _ _ => a0e rfl rfl rfl (a0c (qq rfl))) ?_
             obtain ⟨v28, hb15, hm⟩ := bind_some hm
             refine b2y (fuel' := 1) (listed' := #[true, true, true, true, true, true, true, true, true, true, true, true, true, true, true, true, true, true, true, true, true, true, true, true, false]) (fun a w' => ∃ (Fx30 : Frz), Frz.le Fx27 Fx30 ∧ HS F w [] Fx30 [.box b13 37 [.int .i64 v22.1.P.Sign, .slice as26 ns26 cs26, .int .i64 v22.1.Q.Sign, .slice as27 ns27 cs27], .box b12 37 [.int .i64 v18.1.P.Sign, .slice as24 ns24 cs24, .int .i64 v18.1.Q.Sign, .slice as25 ns25 cs25], .box b11 37 [.int .i64 v17.1.P.Sign, .slice as22 ns22 cs22, .int .i64 v17.1.Q.Sign, .slice as23 ns23 cs23], .box b10 37 [.int .i64 v16.1.P.Sign, .slice as20 ns20 cs20, .int .i64 v16.1.Q.Sign, .slice as21 ns21 cs21], .box b9 26 [vs t1.Name, .int .i64 v15.Op, .int .i64 v15.N, vs v15.Name, .slice as19 ns19 cs19, .int .i64 t1.Cap], .box b8 26 [vs t1.Name, .int .i64 v13.Op, .int .i64 v13.N, vs v13.Name, .slice as17 ns17 cs17, .int .i64 t1.Cap], .box b7 26 [vs t1.Name, .int .i64 v9.Op, .int .i64 v9.N, vs v9.Name, .slice as13 ns13 cs13, .int .i64 t1.Cap], .box b6 37 [.int .i64 v7.1.P.Sign, .slice as10 ns10 cs10, .int .i64 v7.1.Q.Sign, .slice as11 ns11 cs11], .box b5 37 [.int .i64 v5.1.P.Sign, .slice as8 ns8 cs8, .int .i64 v5.1.Q.Sign, .slice as9 ns9 cs9], .box b4 37 [.int .i64 v4.1.P.Sign, .slice as6 ns6 cs6, .int .i64 v4.1.Q.Sign, .slice as7 ns7 cs7], .box b3 30 [.slice as4 ns4 cs4, .int .i64 f1.Persons, .int .i64 f1.Flats], .box b2 26 [vs other1.Name, .int .i64 other1.Fee.Op, .int .i64 other1.Fee.N, vs other1.Fee.Name, .slice as2 ns2 cs2, .int .i64 other1.Cap], .box b1 26 [vs t1.Name, .int .i64 t1.Fee.Op, .int .i64 t1.Fee.N, vs t1.Fee.Name, .slice as1 ns1 cs1, .int .i64 t1.Cap]] w' ∧ Has 215 a [(214, .bool v28)]) ?_ (fun hK6 => ?_)
             ·rintro a wx58 ⟨Fx30, hF30, hx60, hax9⟩
              refine a5s hax9 ?_
              refine d_tk 24 rfl (by kernel_rfl) rfl rfl rfl rfl (hx60.sh hF30 [0, 1, 2, 3, 4, 5, 6, 7, 8, 9, 10, 11, 12] (by decide) rfl) (fun _ _ _ _ _ => a0b rfl rfl rfl (a0c (qq rfl))) ?_
              refine a2t (by kernel_rfl) ?_
              refine a0d (a1d ?_)
              refine a1j rfl rfl ?_
              obtain rfl := Option.some.inj hm
              exact ⟨_, _, _, rfl, hx60.pick [] (by decide) rfl, rfl, rfl⟩
             ·clear hm
              rcases a0h hb15 with ⟨hb16, hb15⟩ | ⟨hb16, hb15⟩
              ·refine a7t 192 rfl hb16 ?_
               refine d_tk 2 rfl (by kernel_rfl) rfl rfl rfl rfl (hx59.sh (Frz.refl _) [0, 1, 2, 3, 4, 5, 6, 7, 8, 9, 10, 11, 12] (by decide) rfl) (fun _ _ _ _ hq => a0l ag37 sz37 rfl rfl hq rfl (i := 0) rfl rfl (a0c (qq rfl))) ?_
               refine d_tk 3 rfl (by kernel_rfl) rfl rfl rfl rfl (hx59.sh (Frz.refl _) [0, 1, 2, 3, 4, 5, 6, 7, 8, 9, 10, 11, 12] (by decide) rfl) (fun _ _ _ _ hq => a0l ag37 sz37 rfl rfl hq rfl (i := 9) rfl rfl (a0c (qq rfl))) ?_
               refine a0w 4 rfl (by kernel_rfl) ?_
               obtain ⟨v29, hv20, hb15⟩ := bind_some hb15
               refine a0i ent11 rfl rfl rfl rfl hx59 (a4w _ _ _ _ hv20 hx59.sat (((hs26.mono hF25).mono hF26).mono hF27) (((hs27.mono hF25).mono hF26).mono hF27) ((hs6.mono hG7).mono hF27) ((hs7.mono hG7).mono hF27)) ?_
               rintro _ Fx31 _ wx59 hF31 hx61 ⟨rfl, rfl⟩
               refine a0r (hx61.sh hF31 [0, 1, 2, 3, 4, 5, 6, 7, 8, 9, 10, 11, 12] (by decide) rfl) ?_
               refine d_tk 5 rfl (by kernel_rfl) rfl rfl rfl rfl (hx61.sh hF31 [0, 1, 2, 3, 4, 5, 6, 7, 8, 9, 10, 11, 12] (by decide) rfl) (fun _ _ _ _ _ => a0e rfl rfl rfl (a0c (qq rfl))) ?_
               obtain ⟨v30, hb17, hb15⟩ := bind_some hb15
               refine b2y (fuel' := 2) (listed' := #[true, true, true, true, true, true, true, true, true, true, true, true, true, true, true, true, true, true, true, true, true, true, true, false, false]) (fun a w' => ∃ (Fx32 : Frz), Frz.le Fx31 Fx32 ∧ HS F w [] Fx32 [.box b13 37 [.int .i64 v22.1.P.Sign, .slice as26 ns26 cs26, .int .i64 v22.1.Q.Sign, .slice as27 ns27 cs27], .box b12 37 [.int .i64 v18.1.P.Sign, .slice as24 ns24 cs24, .int .i64 v18.1.Q.Sign, .slice as25 ns25 cs25], .box b11 37 [.int .i64 v17.1.P.Sign, .slice as22 ns22 cs22, .int .i64 v17.1.Q.Sign, .slice as23 ns23 cs23], .box b10 37 [.int .i64 v16.1.P.Sign, .slice as20 ns20 cs20, .int .i64 v16.1.Q.Sign, .slice as21 ns21 cs21], .box b9 26 [vs t1.Name, .int .i64 v15.Op, .int .i64 v15.N, vs v15.Name, .slice as19 ns19 cs19, .int .i64 t1.Cap], .box b8 26 [vs t1.Name, .int .i64 v13.Op, .int .i64 v13.N, vs v13.Name, .slice as17 ns17 cs17, .int .i64 t1.Cap], .box b7 26 [vs t1.Name, .int .i64 v9.Op, .int .i64 v9.N, vs v9.Name, .slice as13 ns13 cs13, .int .i64 t1.Cap], .box b6 37 [.int .i64 v7.1.P.Sign, .slice as10 ns10 cs10, .int .i64 v7.1.Q.Sign, .slice as11 ns11 cs11], .box b5 37 [.int .i64 v5.1.P.Sign, .slice as8 ns8 cs8, .int .i64 v5.1.Q.Sign, .slice as9 ns9 cs9], .box b4 37 [.int .i64 v4.1.P.Sign, .slice as6 ns6 cs6, .int .i64 v4.1.Q.Sign, .slice as7 ns7 cs7], .box b3 30 [.slice as4 ns4 cs4, .int .i64 f1.Persons, .int .i64 f1.Flats], .box b2 26 [vs other1.Name, .int .i64 other1.Fee.Op, .int .i64 other1.Fee.N, vs other1.Fee.Name, .slice as2 ns2 cs2, .int .i64 other1.Cap], .box b1 26 [vs t1.Name, .int .i64 t1.Fee.Op, .int .i64 t1.Fee.N, vs t1.Fee.Name, .slice as1 ns1 cs1, .int .i64 t1.Cap]] w' ∧ Has 215 a [(192, .bool true), (213, .bool v30)]) ?_ (fun hK7 => ?_)
               ·rintro a wx60 ⟨Fx32, hF32, hx62, hax10⟩
                refine a5s hax10 ?_
                refine d_tk 23 rfl (by kernel_rfl) rfl rfl rfl rfl (hx62.sh (hF31.trans hF32) [0, 1, 2, 3, 4, 5, 6, 7, 8, 9, 10, 11, 12] (by decide) rfl) (fun _ _ _ _ _ => a0n rfl rfl rfl rfl (a0c (qq rfl))) ?_
                refine a7r hK6 (by kernel_rfl) (fun a ha => ?_)
                cases hb15
                exact ⟨_, (hF31.trans hF32), hx62.pick [0, 1, 2, 3, 4, 5, 6, 7, 8, 9, 10, 11, 12] (by decide) rfl, ha.cut (l := [214]) rfl⟩
               ·clear hb15
                rcases a0h hb17 with ⟨hb18, hb17⟩ | ⟨hb18, hb17⟩
                ·refine a7t 196 rfl hb18 ?_
                 refine d_of 6 rfl (by kernel_rfl) rfl rfl rfl (hx61.sh hF31 [0, 1, 2, 3, 4, 5, 6, 7, 8, 9, 10, 11, 12] (by decide) rfl) ?_
                 refine d_of 7 rfl (by kernel_rfl) rfl rfl rfl (hx61.sh hF31 [0, 1, 2, 3, 4, 5, 6, 7, 8, 9, 10, 11, 12] (by decide) rfl) ?_
                 refine d_of 8 rfl (by kernel_rfl) rfl rfl rfl (hx61.sh hF31 [0, 1, 2, 3, 4, 5, 6, 7, 8, 9, 10, 11, 12] (by decide) rfl) ?_
                 refine d_of 9 rfl (by kernel_rfl) rfl rfl rfl (hx61.sh hF31 [0, 1, 2, 3, 4, 5, 6, 7, 8, 9, 10, 11, 12] (by decide) rfl) ?_
                 refine d_of 10 rfl (by kernel_rfl) rfl rfl rfl (hx61.sh hF31 [0, 1, 2, 3, 4, 5, 6, 7, 8, 9, 10, 11, 12] (by decide) rfl) ?_
                 refine d_of 11 rfl (by kernel_rfl) rfl rfl rfl (hx61.sh hF31 [0, 1, 2, 3, 4, 5, 6, 7, 8, 9, 10, 11, 12] (by decide) rfl) ?_
                 refine d_of 12 rfl (by kernel_rfl) rfl rfl rfl (hx61.sh hF31 [0, 1, 2, 3, 4, 5, 6, 7, 8, 9, 10, 11, 12] (by decide) rfl) ?_
                 refine d_of 13 rfl (by kernel_rfl) rfl rfl rfl (hx61.sh hF31 [0, 1, 2, 3, 4, 5, 6, 7, 8, 9, 10, 11, 12] (by decide) rfl) ?_
                 refine d_of 14 rfl (by kernel_rfl) rfl rfl rfl (hx61.sh hF31 [0, 1, 2, 3, 4, 5, 6, 7, 8, 9, 10, 11, 12] (by decide) rfl) ?_
                 refine d_of 15 rfl (by kernel_rfl) rfl rfl rfl (hx61.sh hF31 [0, 1, 2, 3, 4, 5, 6, 7, 8, 9, 10, 11, 12] (by decide) rfl) ?_
                 refine d_of 16 rfl (by kernel_rfl) rfl rfl rfl (hx61.sh hF31 [0, 1, 2, 3, 4, 5, 6, 7, 8, 9, 10, 11, 12] (by decide) rfl) ?_
                 refine d_of 17 rfl (by kernel_rfl) rfl rfl rfl (hx61.sh hF31 [0, 1, 2, 3, 4, 5, 6, 7, 8, 9, 10, 11, 12] (by decide) rfl) ?_
                 refine d_of 18 rfl (by kernel_rfl) rfl rfl rfl (hx61.sh hF31 [0, 1, 2, 3, 4, 5, 6, 7, 8, 9, 10, 11, 12] (by decide) rfl) ?_
                 refine d_of 19 rfl (by kernel_rfl) rfl rfl rfl (hx61.sh hF31 [0, 1, 2, 3, 4, 5, 6, 7, 8, 9, 10, 11, 12] (by decide) rfl) ?_
                 refine d_of 20 rfl (by kernel_rfl) rfl rfl rfl (hx61.sh hF31 [0, 1, 2, 3, 4, 5, 6, 7, 8, 9, 10, 11, 12] (by decide) rfl) ?_
                 refine d_of 21 rfl (by kernel_rfl) rfl rfl rfl (hx61.sh hF31 [0, 1, 2, 3, 4, 5, 6, 7, 8, 9, 10, 11, 12] (by decide) rfl) ?_
                 refine d_tk 22 rfl (by kernel_rfl) rfl rfl rfl rfl (hx61.sh hF31 [0, 1, 2, 3, 4, 5, 6, 7, 8, 9, 10, 11, 12] (by decide) rfl) (fun _ _ _ _ _ => a0n rfl rfl rfl rfl (a0c (qq rfl))) ?_
                 refine a7r hK7 (by kernel_rfl) (fun a ha => ?_)
                 cases hb17
                 exact ⟨_, Frz.refl _, hx61.pick [0, 1, 2, 3, 4, 5, 6, 7, 8, 9, 10, 11, 12] (by decide) rfl, ha.cut (l := [192, 213]) rfl⟩
                ·refine a7t 196 rfl hb18 ?_
                 refine d_tk 6 rfl (by kernel_rfl) rfl rfl rfl rfl (hx61.sh hF31 [0, 1, 2, 3, 4, 5, 6, 7, 8, 9, 10, 11, 12] (by decide) rfl) (fun _ _ _ _ _ => a0g fa26_2 rfl rfl rfl (a0c (qq rfl))) ?_
                 refine d_tk 7 rfl (by kernel_rfl) rfl rfl rfl rfl (hx61.sh hF31 [0, 1, 2, 3, 4, 5, 6, 7, 8, 9, 10, 11, 12] (by decide) rfl) (fun _ _ _ _ hq => a0p ag3 rfl rfl hq rfl (i := 12) rfl rfl (a0c (qq rfl))) ?_
                 refine d_tk 8 rfl (by kernel_rfl) rfl rfl rfl rfl (hx61.sh hF31 [0, 1, 2, 3, 4, 5, 6, 7, 8, 9, 10, 11, 12] (by decide) rfl) (fun _ _ _ _ _ => a0u rfl rfl rfl rfl rfl (a0c (qq rfl))) ?_
                 refine d_tk 9 rfl (by kernel_rfl) rfl rfl rfl rfl (hx61.sh hF31 [0, 1, 2, 3, 4, 5, 6, 7, 8, 9, 10, 11, 12] (by decide) rfl) (fun _ _ _ _ _ => a0e rfl rfl rfl (a0c (qq rfl))) ?_
                 obtain ⟨v31, hb19, hb17⟩ := bind_some hb17
                 refine b2y (fuel' := 9) (listed' := #[true, true, true, true, true, true, true, true, true, true, true, true, true, true, true, true, false, false, false, false, false, false, false, false, false]) (fun a w' => ∃ (Fx33 : Frz), Frz.le Fx31 Fx33 ∧ HS F w [] Fx33 [.box b13 37 [.int .i64 v22.1.P.Sign, .slice as26 ns26 cs26, .int .i64 v22.1.Q.Sign, .slice as27 ns27 cs27], .box b12 37 [.int .i64 v18.1.P.Sign, .slice as24 ns24 cs24, .int .i64 v18.1.Q.Sign, .slice as25 ns25 cs25], .box b11 37 [.int .i64 v17.1.P.Sign, .slice as22 ns22 cs22, .int .i64 v17.1.Q.Sign, .slice as23 ns23 cs23], .box b10 37 [.int .i64 v16.1.P.Sign, .slice as20 ns20 cs20, .int .i64 v16.1.Q.Sign, .slice as21 ns21 cs21], .box b9 26 [vs t1.Name, .int .i64 v15.Op, .int .i64 v15.N, vs v15.Name, .slice as19 ns19 cs19, .int .i64 t1.Cap], .box b8 26 [vs t1.Name, .int .i64 v13.Op, .int .i64 v13.N, vs v13.Name, .slice as17 ns17 cs17, .int .i64 t1.Cap], .box b7 26 [vs t1.Name, .int .i64 v9.Op, .int .i64 v9.N, vs v9.Name, .slice as13 ns13 cs13, .int .i64 t1.Cap], .box b6 37 [.int .i64 v7.1.P.Sign, .slice as10 ns10 cs10, .int .i64 v7.1.Q.Sign, .slice as11 ns11 cs11], .box b5 37 [.int .i64 v5.1.P.Sign, .slice as8 ns8 cs8, .int .i64 v5.1.Q.Sign, .slice as9 ns9 cs9], .box b4 37 [.int .i64 v4.1.P.Sign, .slice as6 ns6 cs6, .int .i64 v4.1.Q.Sign, .slice as7 ns7 cs7], .box b3 30 [.slice as4 ns4 cs4, .int .i64 f1.Persons, .int .i64 f1.Flats], .box b2 26 [vs other1.Name, .int .i64 other1.Fee.Op, .int .i64 other1.Fee.N, vs other1.Fee.Name, .slice as2 ns2 cs2, .int .i64 other1.Cap], .box b1 26 [vs t1.Name, .int .i64 t1.Fee.Op, .int .i64 t1.Fee.N, vs t1.Fee.Name, .slice as1 ns1 cs1, .int .i64 t1.Cap]] w' ∧ Has 215 a [(12, .pointer (some ⟨b4, 0, none⟩)), (27, .pointer (some ⟨b13, 0, none⟩)), (192, .bool true), (196, .bool false), (206, .bool v31)]) ?_ (fun hK8 => ?_)
                 ·rintro a wx61 ⟨Fx33, hF33, hx63, hax11⟩
                  refine a5s hax11 ?_
                  refine d_tk 16 rfl (by kernel_rfl) rfl rfl rfl rfl (hx63.sh (hF31.trans hF33) [0, 1, 2, 3, 4, 5, 6, 7, 8, 9, 10, 11, 12] (by decide) rfl) (fun _ _ _ _ _ => a0e rfl rfl rfl (a0c (qq rfl))) ?_
                  obtain ⟨v32, hb20, hb17⟩ := bind_some hb17
                  refine b2y (fuel' := 3) (listed' := #[true, true, true, true, true, true, true, true, true, true, true, true, true, true, true, true, true, true, true, true, true, true, false, false, false]) (fun a w' => ∃ (Fx34 : Frz), Frz.le Fx33 Fx34 ∧ HS F w [] Fx34 [.box b13 37 [.int .i64 v22.1.P.Sign, .slice as26 ns26 cs26, .int .i64 v22.1.Q.Sign, .slice as27 ns27 cs27], .box b12 37 [.int .i64 v18.1.P.Sign, .slice as24 ns24 cs24, .int .i64 v18.1.Q.Sign, .slice as25 ns25 cs25], .box b11 37 [.int .i64 v17.1.P.Sign, .slice as22 ns22 cs22, .int .i64 v17.1.Q.Sign, .slice as23 ns23 cs23], .box b10 37 [.int .i64 v16.1.P.Sign, .slice as20 ns20 cs20, .int .i64 v16.1.Q.Sign, .slice as21 ns21 cs21], .box b9 26 [vs t1.Name, .int .i64 v15.Op, .int .i64 v15.N, vs v15.Name, .slice as19 ns19 cs19, .int .i64 t1.Cap], .box b8 26 [vs t1.Name, .int .i64 v13.Op, .int .i64 v13.N, vs v13.Name, .slice as17 ns17 cs17, .int .i64 t1.Cap], .box b7 26 [vs t1.Name, .int .i64 v9.Op, .int .i64 v9.N, vs v9.Name, .slice as13 ns13 cs13, .int .i64 t1.Cap], .box b6 37 [.int .i64 v7.1.P.Sign, .slice as10 ns10 cs10, .int .i64 v7.1.Q.Sign, .slice as11 ns11 cs11], .box b5 37 [.int .i64 v5.1.P.Sign, .slice as8 ns8 cs8, .int .i64 v5.1.Q.Sign, .slice as9 ns9 cs9], .box b4 37 [.int .i64 v4.1.P.Sign, .slice as6 ns6 cs6, .int .i64 v4.1.Q.Sign, .slice as7 ns7 cs7], .box b3 30 [.slice as4 ns4 cs4, .int .i64 f1.Persons, .int .i64 f1.Flats], .box b2 26 [vs other1.Name, .int .i64 other1.Fee.Op, .int .i64 other1.Fee.N, vs other1.Fee.Name, .slice as2 ns2 cs2, .int .i64 other1.Cap], .box b1 26 [vs t1.Name, .int .i64 t1.Fee.Op, .int .i64 t1.Fee.N, vs t1.Fee.Name, .slice as1 ns1 cs1, .int .i64 t1.Cap]] w' ∧ Has 215 a [(192, .bool true), (196, .bool false), (212, .bool v32)]) ?_ (fun hK9 => ?_)
                  ·rintro a wx62 ⟨Fx34, hF34, hx64, hax12⟩
                   refine a5s hax12 ?_
                   refine d_tk 22 rfl (by kernel_rfl) rfl rfl rfl rfl (hx64.sh ((hF31.trans hF33).trans hF34) [0, 1, 2, 3, 4, 5, 6, 7, 8, 9, 10, 11, 12] (by decide) rfl) (fun _ _ _ _ _ => a0m rfl rfl rfl rfl (a0c (qq rfl))) ?_
                   refine a7r hK7 (by kernel_rfl) (fun a ha => ?_)
                   cases hb17
                   exact ⟨_, (hF33.trans hF34), hx64.pick [0, 1, 2, 3, 4, 5, 6, 7, 8, 9, 10, 11, 12] (by decide) rfl, ha.cut (l := [192, 213]) rfl⟩
                  ·clear hb17
                   rcases a0h hb20 with ⟨hb21, hb20⟩ | ⟨hb21, hb20⟩
                   ·refine a7t 207 rfl hb21 ?_
                    refine d_tk 17 rfl (by kernel_rfl) rfl rfl rfl rfl (hx63.sh (hF31.trans hF33) [0, 1, 2, 3, 4, 5, 6, 7, 8, 9, 10, 11, 12] (by decide) rfl) (fun _ _ _ _ hq => a0l ag37 sz37 rfl rfl hq rfl (i := 9) rfl rfl (a0c (qq rfl))) ?_
                    refine d_tk 18 rfl (by kernel_rfl) rfl rfl rfl rfl (hx63.sh (hF31.trans hF33) [0, 1, 2, 3, 4, 5, 6, 7, 8, 9, 10, 11, 12] (by decide) rfl) (fun _ _ _ _ hq => a0l ag37 sz37 rfl rfl hq rfl (i := 0) rfl rfl (a0c (qq rfl))) ?_
                    refine a0w 19 rfl (by kernel_rfl) ?_
                    have hG8 := (((hF25.trans hF26).trans hF27).trans hF31).trans hF33
                    obtain ⟨v33, hv21, hb20⟩ := bind_some hb20
                    refine a0i ent15 rfl rfl rfl rfl hx63 (a6s _ _ _ _ hv21 hx63.sat ((((hs6.mono hG7).mono hF27).mono hF31).mono hF33) ((((hs7.mono hG7).mono hF27).mono hF31).mono hF33) (hs26.mono hG8) (hs27.mono hG8)) ?_
                    rintro _ Fx35 _ wx63 hF35 hx65 ⟨rfl, rfl⟩
                    refine a0r (hx65.sh ((hF31.trans hF33).trans hF35) [0, 1, 2, 3, 4, 5, 6, 7, 8, 9, 10, 11, 12] (by decide) rfl) ?_
                    refine d_tk 20 rfl (by kernel_rfl) rfl rfl rfl rfl (hx65.sh ((hF31.trans hF33).trans hF35) [0, 1, 2, 3, 4, 5, 6, 7, 8, 9, 10, 11, 12] (by decide) rfl) (fun _ _ _ _ _ => a0u rfl rfl rfl rfl rfl (a0c (qq rfl))) ?_
                    refine d_tk 21 rfl (by kernel_rfl) rfl rfl rfl rfl (hx65.sh ((hF31.trans hF33).trans hF35) [0, 1, 2, 3, 4, 5, 6, 7, 8, 9, 10, 11, 12] (by decide) rfl) (fun _ _ _ _ _ => a0n rfl rfl rfl rfl (a0c (qq rfl))) ?_
                    refine a7r hK9 (by kernel_rfl) (fun a ha => ?_)
                    cases hb20
                    exact ⟨_, hF35, hx65.pick [0, 1, 2, 3, 4, 5, 6, 7, 8, 9, 10, 11, 12] (by decide) rfl, ha.cut (l := [192, 196, 212]) rfl⟩
                   ·refine a7t 207 rfl hb21 ?_
                    refine d_of 17 rfl (by kernel_rfl) rfl rfl rfl (hx63.sh (hF31.trans hF33) [0, 1, 2, 3, 4, 5, 6, 7, 8, 9, 10, 11, 12] (by decide) rfl) ?_
                    refine d_of 18 rfl (by kernel_rfl) rfl rfl rfl (hx63.sh (hF31.trans hF33) [0, 1, 2, 3, 4, 5, 6, 7, 8, 9, 10, 11, 12] (by decide) rfl) ?_
                    refine d_of 19 rfl (by kernel_rfl) rfl rfl rfl (hx63.sh (hF31.trans hF33) [0, 1, 2, 3, 4, 5, 6, 7, 8, 9, 10, 11, 12] (by decide) rfl) ?_
                    refine d_of 20 rfl (by kernel_rfl) rfl rfl rfl (hx63.sh (hF31.trans hF33) [0, 1, 2, 3, 4, 5, 6, 7, 8, 9, 10, 11, 12] (by decide) rfl) ?_
                    refine d_tk 21 rfl (by kernel_rfl) rfl rfl rfl rfl (hx63.sh (hF31.trans hF33) [0, 1, 2, 3, 4, 5, 6, 7, 8, 9, 10, 11, 12] (by decide) rfl) (fun _ _ _ _ _ => a0m rfl rfl rfl rfl (a0c (qq rfl))) ?_
                    refine a7r hK9 (by kernel_rfl) (fun a ha => ?_)
                    cases hb20
                    exact ⟨_, Frz.refl _, hx63.pick [0, 1, 2, 3, 4, 5, 6, 7, 8, 9, 10, 11, 12] (by decide) rfl, ha.cut (l := [192, 196, 212]) rfl⟩
                 ·clear hb17
                  rcases a0h hb19 with ⟨hb22, hb19⟩ | ⟨hb22, hb19⟩
                  ·refine a7t 200 rfl hb22 ?_
                   refine d_tk 10 rfl (by kernel_rfl) rfl rfl rfl rfl (hx61.sh hF31 [0, 1, 2, 3, 4, 5, 6, 7, 8, 9, 10, 11, 12] (by decide) rfl) (fun _ _ _ _ hq => a0l ag37 sz37 rfl rfl hq rfl (i := 0) rfl rfl (a0c (qq rfl))) ?_
                   refine d_tk 11 rfl (by kernel_rfl) rfl rfl rfl rfl (hx61.sh hF31 [0, 1, 2, 3, 4, 5, 6, 7, 8, 9, 10, 11, 12] (by decide) rfl) (fun _ _ _ _ _ => a0g fa26_2 rfl rfl rfl (a0c (qq rfl))) ?_
                   refine d_tk 12 rfl (by kernel_rfl) rfl rfl rfl rfl (hx61.sh hF31 [0, 1, 2, 3, 4, 5, 6, 7, 8, 9, 10, 11, 12] (by decide) rfl) (fun _ _ _ _ hq => a0p ag3 rfl rfl hq rfl (i := 12) rfl rfl (a0c (qq rfl))) ?_
                   refine a0w 13 rfl (by kernel_rfl) ?_
                   obtain ⟨v34, hv22, hb19⟩ := bind_some hb19
                   refine a0i ent12 rfl rfl rfl rfl hx61 (a6z _ _ _ hv22 hx61.sat) ?_
                   rintro _ Fx36 _ wx64 hF36 hx66 ⟨as28, ns28, cs28, as29, ns29, cs29, rfl, rfl, hs28, hs29⟩
                   refine a0r (hx66.sh (hF31.trans hF36) [0, 1, 2, 3, 4, 5, 6, 7, 8, 9, 10, 11, 12] (by decide) rfl) ?_
                   refine a0w 14 rfl (by kernel_rfl) ?_
                   have hG9 := (((hF25.trans hF26).trans hF27).trans hF31).trans hF36
                   obtain ⟨v35, hv23, hb19⟩ := bind_some hb19
                   refine a0i ent11 rfl rfl rfl rfl hx66 (a4w _ _ _ _ hv23 hx66.sat (hs26.mono hG9) (hs27.mono hG9) hs28 hs29) ?_
                   rintro _ Fx37 _ wx65 hF37 hx67 ⟨rfl, rfl⟩
                   refine a0r (hx67.sh ((hF31.trans hF36).trans hF37) [0, 1, 2, 3, 4, 5, 6, 7, 8, 9, 10, 11, 12] (by decide) rfl) ?_
                   refine d_tk 15 rfl (by kernel_rfl) rfl rfl rfl rfl (hx67.sh ((hF31.trans hF36).trans hF37) [0, 1, 2, 3, 4, 5, 6, 7, 8, 9, 10, 11, 12] (by decide) rfl) (fun _ _ _ _ _ => a0n rfl rfl rfl rfl (a0c (qq rfl))) ?_
                   refine a7r hK8 (by kernel_rfl) (fun a ha => ?_)
                   cases hb19
                   exact ⟨_, (hF36.trans hF37), hx67.pick [0, 1, 2, 3, 4, 5, 6, 7, 8, 9, 10, 11, 12] (by decide) rfl, ha.cut (l := [12, 27, 192, 196, 206]) rfl⟩
                  ·refine a7t 200 rfl hb22 ?_
                   refine d_of 10 rfl (by kernel_rfl) rfl rfl rfl (hx61.sh hF31 [0, 1, 2, 3, 4, 5, 6, 7, 8, 9, 10, 11, 12] (by decide) rfl) ?_
                   refine d_of 11 rfl (by kernel_rfl) rfl rfl rfl (hx61.sh hF31 [0, 1, 2, 3, 4, 5, 6, 7, 8, 9, 10, 11, 12] (by decide) rfl) ?_
                   refine d_of 12 rfl (by kernel_rfl) rfl rfl rfl (hx61.sh hF31 [0, 1, 2, 3, 4, 5, 6, 7, 8, 9, 10, 11, 12] (by decide) rfl) ?_
                   refine d_of 13 rfl (by kernel_rfl) rfl rfl rfl (hx61.sh hF31 [0, 1, 2, 3, 4, 5, 6, 7, 8, 9, 10, 11, 12] (by decide) rfl) ?_
                   refine d_of 14 rfl (by kernel_rfl) rfl rfl rfl (hx61.sh hF31 [0, 1, 2, 3, 4, 5, 6, 7, 8, 9, 10, 11, 12] (by decide) rfl) ?_
                   refine d_tk 15 rfl (by kernel_rfl) rfl rfl rfl rfl (hx61.sh hF31 [0, 1, 2, 3, 4, 5, 6, 7, 8, 9, 10, 11, 12] (by decide) rfl) (fun _ _ _ _ _ => a0m rfl rfl rfl rfl (a0c (qq rfl))) ?_
                   refine a7r hK8 (by kernel_rfl) (fun a ha => ?_)
                   cases hb19
                   exact ⟨_, Frz.refl _, hx61.pick [0, 1, 2, 3, 4, 5, 6, 7, 8, 9, 10, 11, 12] (by decide) rfl, ha.cut (l := [12, 27, 192, 196, 206]) rfl⟩
              ·refine a7t 192 rfl hb16 ?_
               refine d_of 2 rfl (by kernel_rfl) rfl rfl rfl (hx59.sh (Frz.refl _) [0, 1, 2, 3, 4, 5, 6, 7, 8, 9, 10, 11, 12] (by decide) rfl) ?_
               refine d_of 3 rfl (by kernel_rfl) rfl rfl rfl (hx59.sh (Frz.refl _) [0, 1, 2, 3, 4, 5, 6, 7, 8, 9, 10, 11, 12] (by decide) rfl) ?_
               refine d_of 4 rfl (by kernel_rfl) rfl rfl rfl (hx59.sh (Frz.refl _) [0, 1, 2, 3, 4, 5, 6, 7, 8, 9, 10, 11, 12] (by decide) rfl) ?_
               refine d_of 5 rfl (by kernel_rfl) rfl rfl rfl (hx59.sh (Frz.refl _) [0, 1, 2, 3, 4, 5, 6, 7, 8, 9, 10, 11, 12] (by decide) rfl) ?_
               refine d_of 6 rfl (by kernel_rfl) rfl rfl rfl (hx59.sh (Frz.refl _) [0, 1, 2, 3, 4, 5, 6, 7, 8, 9, 10, 11, 12] (by decide) rfl) ?_
               refine d_of 7 rfl (by kernel_rfl) rfl rfl rfl (hx59.sh (Frz.refl _) [0, 1, 2, 3, 4, 5, 6, 7, 8, 9, 10, 11, 12] (by decide) rfl) ?_
               refine d_of 8 rfl (by kernel_rfl) rfl rfl rfl (hx59.sh (Frz.refl _) [0, 1, 2, 3, 4, 5, 6, 7, 8, 9, 10, 11, 12] (by decide) rfl) ?_
               refine d_of 9 rfl (by kernel_rfl) rfl rfl rfl (hx59.sh (Frz.refl _) [0, 1, 2, 3, 4, 5, 6, 7, 8, 9, 10, 11, 12] (by decide) rfl) ?_
               refine d_of 10 rfl (by kernel_rfl) rfl rfl rfl (hx59.sh (Frz.refl _) [0, 1, 2, 3, 4, 5, 6, 7, 8, 9, 10, 11, 12] (by decide) rfl) ?_
               refine d_of 11 rfl (by kernel_rfl) rfl rfl rfl (hx59.sh (Frz.refl _) [0, 1, 2, 3, 4, 5, 6, 7, 8, 9, 10, 11, 12] (by decide) rfl) ?_
               refine d_of 12 rfl (by kernel_rfl) rfl rfl rfl (hx59.sh (Frz.refl _) [0, 1, 2, 3, 4, 5, 6, 7, 8, 9, 10, 11, 12] (by decide) rfl) ?_
               refine d_of 13 rfl (by kernel_rfl) rfl rfl rfl (hx59.sh (Frz.refl _) [0, 1, 2, 3, 4, 5, 6, 7, 8, 9, 10, 11, 12] (by decide) rfl) ?_
               refine d_of 14 rfl (by kernel_rfl) rfl rfl rfl (hx59.sh (Frz.refl _) [0, 1, 2, 3, 4, 5, 6, 7, 8, 9, 10, 11, 12] (by decide) rfl) ?_
               refine d_of 15 rfl (by kernel_rfl) rfl rfl rfl (hx59.sh (Frz.refl _) [0, 1, 2, 3, 4, 5, 6, 7, 8, 9, 10, 11, 12] (by decide) rfl) ?_
               refine d_of 16 rfl (by kernel_rfl) rfl rfl rfl (hx59.sh (Frz.refl _) [0, 1, 2, 3, 4, 5, 6, 7, 8, 9, 10, 11, 12] (by decide) rfl) ?_
               refine d_of 17 rfl (by kernel_rfl) rfl rfl rfl (hx59.sh (Frz.refl _) [0, 1, 2, 3, 4, 5, 6, 7, 8, 9, 10, 11, 12] (by decide) rfl) ?_
               refine d_of 18 rfl (by kernel_rfl) rfl rfl rfl (hx59.sh (Frz.refl _) [0, 1, 2, 3, 4, 5, 6, 7, 8, 9, 10, 11, 12] (by decide) rfl) ?_
               refine d_of 19 rfl (by kernel_rfl) rfl rfl rfl (hx59.sh (Frz.refl _) [0, 1, 2, 3, 4, 5, 6, 7, 8, 9, 10, 11, 12] (by decide) rfl) ?_
               refine d_of 20 rfl (by kernel_rfl) rfl rfl rfl (hx59.sh (Frz.refl _) [0, 1, 2, 3, 4, 5, 6, 7, 8, 9, 10, 11, 12] (by decide) rfl) ?_
               refine d_of 21 rfl (by kernel_rfl) rfl rfl rfl (hx59.sh (Frz.refl _) [0, 1, 2, 3, 4, 5, 6, 7, 8, 9, 10, 11, 12] (by decide) rfl) ?_
               refine d_of 22 rfl (by kernel_rfl) rfl rfl rfl (hx59.sh (Frz.refl _) [0, 1, 2, 3, 4, 5, 6, 7, 8, 9, 10, 11, 12] (by decide) rfl) ?_
               refine d_tk 23 rfl (by kernel_rfl) rfl rfl rfl rfl (hx59.sh (Frz.refl _) [0, 1, 2, 3, 4, 5, 6, 7, 8, 9, 10, 11, 12] (by decide) rfl) (fun _ _ _ _ _ => a0m rfl rfl rfl rfl (a0c (qq rfl))) ?_
               refine a7r hK6 (by kernel_rfl) (fun a ha => ?_)
               cases hb15
               exact ⟨_, Frz.refl _, hx59.pick [0, 1, 2, 3, 4, 5, 6, 7, 8, 9, 10, 11, 12] (by decide) rfl, ha.cut (l := [214]) rfl⟩
          ·clear hm
           rcases a0h hb10 with ⟨hb23, hb10⟩ | ⟨hb23, hb10⟩
           ·refine a7t 169 rfl hb23 ?_
            refine d_of 8 rfl (by kernel_rfl) rfl rfl rfl (hx54.sh hF25 [0, 1, 2, 3, 4, 5, 6, 7, 8, 9, 10, 11, 12] (by decide) rfl) ?_
            refine d_of 9 rfl (by kernel_rfl) rfl rfl rfl (hx54.sh hF25 [0, 1, 2, 3, 4, 5, 6, 7, 8, 9, 10, 11, 12] (by decide) rfl) ?_
            refine d_of 10 rfl (by kernel_rfl) rfl rfl rfl (hx54.sh hF25 [0, 1, 2, 3, 4, 5, 6, 7, 8, 9, 10, 11, 12] (by decide) rfl) ?_
            refine d_of 11 rfl (by kernel_rfl) rfl rfl rfl (hx54.sh hF25 [0, 1, 2, 3, 4, 5, 6, 7, 8, 9, 10, 11, 12] (by decide) rfl) ?_
            refine d_of 12 rfl (by kernel_rfl) rfl rfl rfl (hx54.sh hF25 [0, 1, 2, 3, 4, 5, 6, 7, 8, 9, 10, 11, 12] (by decide) rfl) ?_
            refine d_of 13 rfl (by kernel_rfl) rfl rfl rfl (hx54.sh hF25 [0, 1, 2, 3, 4, 5, 6, 7, 8, 9, 10, 11, 12] (by decide) rfl) ?_
            refine d_of 14 rfl (by kernel_rfl) rfl rfl rfl (hx54.sh hF25 [0, 1, 2, 3, 4, 5, 6, 7, 8, 9, 10, 11, 12] (by decide) rfl) ?_
            refine d_of 15 rfl (by kernel_rfl) rfl rfl rfl (hx54.sh hF25 [0, 1, 2, 3, 4, 5, 6, 7, 8, 9, 10, 11, 12] (by decide) rfl) ?_
            refine d_of 16 rfl (by kernel_rfl) rfl rfl rfl (hx54.sh hF25 [0, 1, 2, 3, 4, 5, 6, 7, 8, 9, 10, 11, 12] (by decide) rfl) ?_
            refine d_of 17 rfl (by kernel_rfl) rfl rfl rfl (hx54.sh hF25 [0, 1, 2, 3, 4, 5, 6, 7, 8, 9, 10, 11, 12] (by decide) rfl) ?_
            refine d_of 18 rfl (by kernel_rfl) rfl rfl rfl (hx54.sh hF25 [0, 1, 2, 3, 4, 5, 6, 7, 8, 9, 10, 11, 12] (by decide) rfl) ?_
            refine d_tk 19 rfl (by kernel_rfl) rfl rfl rfl rfl (hx54.sh hF25 [0, 1, 2, 3, 4, 5, 6, 7, 8, 9, 10, 11, 12] (by decide) rfl) (fun _ _ _ _ _ => a0n rfl rfl rfl rfl (a0c (qq rfl))) ?_
            refine a7r hK5 (by kernel_rfl) (fun a ha => ?_)
            cases hb10
            exact ⟨_, Frz.refl _, hx54.pick [0, 1, 2, 3, 4, 5, 6, 7, 8, 9, 10, 11, 12] (by decide) rfl, ha.cut (l := [5, 11, 12, 27, 181]) rfl⟩
           ·refine a7t 169 rfl hb23 ?_
            refine d_tk 8 rfl (by kernel_rfl) rfl rfl rfl rfl (hx54.sh hF25 [0, 1, 2, 3, 4, 5, 6, 7, 8, 9, 10, 11, 12] (by decide) rfl) (fun _ _ _ _ _ => a0g fa26_2 rfl rfl rfl (a0c (qq rfl))) ?_
            refine d_tk 9 rfl (by kernel_rfl) rfl rfl rfl rfl (hx54.sh hF25 [0, 1, 2, 3, 4, 5, 6, 7, 8, 9, 10, 11, 12] (by decide) rfl) (fun _ _ _ _ hq => a0p ag3 rfl rfl hq rfl (i := 12) rfl rfl (a0c (qq rfl))) ?_
            refine d_tk 10 rfl (by kernel_rfl) rfl rfl rfl rfl (hx54.sh hF25 [0, 1, 2, 3, 4, 5, 6, 7, 8, 9, 10, 11, 12] (by decide) rfl) (fun _ _ _ _ _ => a0u rfl rfl rfl rfl rfl (a0c (qq rfl))) ?_
            refine d_tk 11 rfl (by kernel_rfl) rfl rfl rfl rfl (hx54.sh hF25 [0, 1, 2, 3, 4, 5, 6, 7, 8, 9, 10, 11, 12] (by decide) rfl) (fun _ _ _ _ _ => a0e rfl rfl rfl (a0c (qq rfl))) ?_
            obtain ⟨v36, hb24, hb10⟩ := bind_some hb10
            refine b2y (fuel' := 1) (listed' := #[true, true, true, true, true, true, true, true, true, true, true, true, true, true, true, true, true, true, true, false]) (fun a w' => ∃ (Fx38 : Frz), Frz.le Fx25 Fx38 ∧ HS F w [] Fx38 [.box b13 37 [.int .i64 v22.1.P.Sign, .slice as26 ns26 cs26, .int .i64 v22.1.Q.Sign, .slice as27 ns27 cs27], .box b12 37 [.int .i64 v18.1.P.Sign, .slice as24 ns24 cs24, .int .i64 v18.1.Q.Sign, .slice as25 ns25 cs25], .box b11 37 [.int .i64 v17.1.P.Sign, .slice as22 ns22 cs22, .int .i64 v17.1.Q.Sign, .slice as23 ns23 cs23], .box b10 37 [.int .i64 v16.1.P.Sign, .slice as20 ns20 cs20, .int .i64 v16.1.Q.Sign, .slice as21 ns21 cs21], .box b9 26 [vs t1.Name, .int .i64 v15.Op, .int .i64 v15.N, vs v15.Name, .slice as19 ns19 cs19, .int .i64 t1.Cap], .box b8 26 [vs t1.Name, .int .i64 v13.Op, .int .i64 v13.N, vs v13.Name, .slice as17 ns17 cs17, .int .i64 t1.Cap], .box b7 26 [vs t1.Name, .int .i64 v9.Op, .int .i64 v9.N, vs v9.Name, .slice as13 ns13 cs13, .int .i64 t1.Cap], .box b6 37 [.int .i64 v7.1.P.Sign, .slice as10 ns10 cs10, .int .i64 v7.1.Q.Sign, .slice as11 ns11 cs11], .box b5 37 [.int .i64 v5.1.P.Sign, .slice as8 ns8 cs8, .int .i64 v5.1.Q.Sign, .slice as9 ns9 cs9], .box b4 37 [.int .i64 v4.1.P.Sign, .slice as6 ns6 cs6, .int .i64 v4.1.Q.Sign, .slice as7 ns7 cs7], .box b3 30 [.slice as4 ns4 cs4, .int .i64 f1.Persons, .int .i64 f1.Flats], .box b2 26 [vs other1.Name, .int .i64 other1.Fee.Op, .int .i64 other1.Fee.N, vs other1.Fee.Name, .slice as2 ns2 cs2, .int .i64 other1.Cap], .box b1 26 [vs t1.Name, .int .i64 t1.Fee.Op, .int .i64 t1.Fee.N, vs t1.Fee.Name, .slice as1 ns1 cs1, .int .i64 t1.Cap]] w' ∧ Has 215 a [(5, .pointer (some ⟨b1, 0, none⟩)), (11, .bool v1), (12, .pointer (some ⟨b4, 0, none⟩)), (27, .pointer (some ⟨b13, 0, none⟩)), (169, .bool false), (180, .bool v36)]) ?_ (fun hK10 => ?_)
            ·rintro a wx66 ⟨Fx38, hF38, hx68, hax13⟩
             refine a5s hax13 ?_
             refine d_tk 19 rfl (by kernel_rfl) rfl rfl rfl rfl (hx68.sh (hF25.trans hF38) [0, 1, 2, 3, 4, 5, 6, 7, 8, 9, 10, 11, 12] (by decide) rfl) (fun _ _ _ _ _ => a0m rfl rfl rfl rfl (a0c (qq rfl))) ?_
             refine a7r hK5 (by kernel_rfl) (fun a ha => ?_)
             cases hb10
             exact ⟨_, hF38, hx68.pick [0, 1, 2, 3, 4, 5, 6, 7, 8, 9, 10, 11, 12] (by decide) rfl, ha.cut (l := [5, 11, 12, 27, 181]) rfl⟩
            ·clear hb10
             rcases a0h hb24 with ⟨hb25, hb24⟩ | ⟨hb25, hb24⟩
             ·refine a7t 173 rfl hb25 ?_
              refine d_tk 12 rfl (by kernel_rfl) rfl rfl rfl rfl (hx54.sh hF25 [0, 1, 2, 3, 4, 5, 6, 7, 8, 9, 10, 11, 12] (by decide) rfl) (fun _ _ _ _ hq => a0l ag37 sz37 rfl rfl hq rfl (i := 0) rfl rfl (a0c (qq rfl))) ?_
              refine d_tk 13 rfl (by kernel_rfl) rfl rfl rfl rfl (hx54.sh hF25 [0, 1, 2, 3, 4, 5, 6, 7, 8, 9, 10, 11, 12] (by decide) rfl) (fun _ _ _ _ _ => a0g fa26_2 rfl rfl rfl (a0c (qq rfl))) ?_
              refine d_tk 14 rfl (by kernel_rfl) rfl rfl rfl rfl (hx54.sh hF25 [0, 1, 2, 3, 4, 5, 6, 7, 8, 9, 10, 11, 12] (by decide) rfl) (fun _ _ _ _ hq => a0p ag3 rfl rfl hq rfl (i := 12) rfl rfl (a0c (qq rfl))) ?_
              refine a0w 15 rfl (by kernel_rfl) ?_
              obtain ⟨v37, hv24, hb24⟩ := bind_some hb24
              refine a0i ent12 rfl rfl rfl rfl hx54 (a6z _ _ _ hv24 hx54.sat) ?_
              rintro _ Fx39 _ wx67 hF39 hx69 ⟨as30, ns30, cs30, as31, ns31, cs31, rfl, rfl, hs30, hs31⟩
              refine a0r (hx69.sh (hF25.trans hF39) [0, 1, 2, 3, 4, 5, 6, 7, 8, 9, 10, 11, 12] (by decide) rfl) ?_
              refine a0w 16 rfl (by kernel_rfl) ?_
              obtain ⟨v38, hv25, hb24⟩ := bind_some hb24
              refine a0i ent15 rfl rfl rfl rfl hx69 (a6s _ _ _ _ hv25 hx69.sat ((hs26.mono hF25).mono hF39) ((hs27.mono hF25).mono hF39) hs30 hs31) ?_
              rintro _ Fx40 _ wx68 hF40 hx70 ⟨rfl, rfl⟩
              refine a0r (hx70.sh ((hF25.trans hF39).trans hF40) [0, 1, 2, 3, 4, 5, 6, 7, 8, 9, 10, 11, 12] (by decide) rfl) ?_
              refine d_tk 17 rfl (by kernel_rfl) rfl rfl rfl rfl (hx70.sh ((hF25.trans hF39).trans hF40) [0, 1, 2, 3, 4, 5, 6, 7, 8, 9, 10, 11, 12] (by decide) rfl) (fun _ _ _ _ _ => a0u rfl rfl rfl rfl rfl (a0c (qq rfl))) ?_
              refine d_tk 18 rfl (by kernel_rfl) rfl rfl rfl rfl (hx70.sh ((hF25.trans hF39).trans hF40) [0, 1, 2, 3, 4, 5, 6, 7, 8, 9, 10, 11, 12] (by decide) rfl) (fun _ _ _ _ _ => a0n rfl rfl rfl rfl (a0c (qq rfl))) ?_
              refine a7r hK10 (by kernel_rfl) (fun a ha => ?_)
              cases hb24
              exact ⟨_, (hF39.trans hF40), hx70.pick [0, 1, 2, 3, 4, 5, 6, 7, 8, 9, 10, 11, 12] (by decide) rfl, ha.cut (l := [5, 11, 12, 27, 169, 180]) rfl⟩
             ·refine a7t 173 rfl hb25 ?_
              refine d_of 12 rfl (by kernel_rfl) rfl rfl rfl (hx54.sh hF25 [0, 1, 2, 3, 4, 5, 6, 7, 8, 9, 10, 11, 12] (by decide) rfl) ?_
              refine d_of 13 rfl (by kernel_rfl) rfl rfl rfl (hx54.sh hF25 [0, 1, 2, 3, 4, 5, 6, 7, 8, 9, 10, 11, 12] (by decide) rfl) ?_
              refine d_of 14 rfl (by kernel_rfl) rfl rfl rfl (hx54.sh hF25 [0, 1, 2, 3, 4, 5, 6, 7, 8, 9, 10, 11, 12] (by decide) rfl) ?_
              refine d_of 15 rfl (by kernel_rfl) rfl rfl rfl (hx54.sh hF25 [0, 1, 2, 3, 4, 5, 6, 7, 8, 9, 10, 11, 12] (by decide) rfl) ?_
              refine d_of 16 rfl (by kernel_rfl) rfl rfl rfl (hx54.sh hF25 [0, 1, 2, 3, 4, 5, 6, 7, 8, 9, 10, 11, 12] (by decide) rfl) ?_
              refine d_of 17 rfl (by kernel_rfl) rfl rfl rfl (hx54.sh hF25 [0, 1, 2, 3, 4, 5, 6, 7, 8, 9, 10, 11, 12] (by decide) rfl) ?_
              refine d_tk 18 rfl (by kernel_rfl) rfl rfl rfl rfl (hx54.sh hF25 [0, 1, 2, 3, 4, 5, 6, 7, 8, 9, 10, 11, 12] (by decide) rfl) (fun _ _ _ _ _ => a0m rfl rfl rfl rfl (a0c (qq rfl))) ?_
              refine a7r hK10 (by kernel_rfl) (fun a ha => ?_)
              cases hb24
              exact ⟨_, Frz.refl _, hx54.pick [0, 1, 2, 3, 4, 5, 6, 7, 8, 9, 10, 11, 12] (by decide) rfl, ha.cut (l := [5, 11, 12, 27, 169, 180]) rfl⟩
         ·clear hm
          rcases a0h hb9 with ⟨hb26, hb9⟩ | ⟨hb26, hb9⟩
          ·refine a7t 164 rfl hb26 ?_
           refine d_of 3 rfl (by kernel_rfl) rfl rfl rfl (hx53.sh (Frz.refl _) [0, 1, 2, 3, 4, 5, 6, 7, 8, 9, 10, 11, 12] (by decide) rfl) ?_
           refine d_of 4 rfl (by kernel_rfl) rfl rfl rfl (hx53.sh (Frz.refl _) [0, 1, 2, 3, 4, 5, 6, 7, 8, 9, 10, 11, 12] (by decide) rfl) ?_
           refine d_of 5 rfl (by kernel_rfl) rfl rfl rfl (hx53.sh (Frz.refl _) [0, 1, 2, 3, 4, 5, 6, 7, 8, 9, 10, 11, 12] (by decide) rfl) ?_
           refine d_tk 6 rfl (by kernel_rfl) rfl rfl rfl rfl (hx53.sh (Frz.refl _) [0, 1, 2, 3, 4, 5, 6, 7, 8, 9, 10, 11, 12] (by decide) rfl) (fun _ _ _ _ _ => a0n rfl rfl rfl rfl (a0c (qq rfl))) ?_
           refine a7r hK4 (by kernel_rfl) (fun a ha => ?_)
           cases hb9
           exact ⟨_, Frz.refl _, hx53.pick [0, 1, 2, 3, 4, 5, 6, 7, 8, 9, 10, 11, 12] (by decide) rfl, ha.cut (l := [5, 11, 12, 27, 168]) rfl⟩
          ·refine a7t 164 rfl hb26 ?_
           refine d_tk 3 rfl (by kernel_rfl) rfl rfl rfl rfl (hx53.sh (Frz.refl _) [0, 1, 2, 3, 4, 5, 6, 7, 8, 9, 10, 11, 12] (by decide) rfl) (fun _ _ _ _ hq => a0l ag37 sz37 rfl rfl hq rfl (i := 0) rfl rfl (a0c (qq rfl))) ?_
           refine a0w 4 rfl (by kernel_rfl) ?_
           obtain ⟨v39, hv26, hb9⟩ := bind_some hb9
           refine a0i ent14 rfl rfl rfl rfl hx53 (a9f _ _ _ hv26 hx53.sat hs26 hs27) ?_
           rintro _ Fx41 _ wx69 hF41 hx71 ⟨rfl, rfl⟩
           refine a0r (hx71.sh hF41 [0, 1, 2, 3, 4, 5, 6, 7, 8, 9, 10, 11, 12] (by decide) rfl) ?_
           refine d_tk 5 rfl (by kernel_rfl) rfl rfl rfl rfl (hx71.sh hF41 [0, 1, 2, 3, 4, 5, 6, 7, 8, 9, 10, 11, 12] (by decide) rfl) (fun _ _ _ _ _ => a0u rfl rfl rfl rfl rfl (a0c (qq rfl))) ?_
           refine d_tk 6 rfl (by kernel_rfl) rfl rfl rfl rfl (hx71.sh hF41 [0, 1, 2, 3, 4, 5, 6, 7, 8, 9, 10, 11, 12] (by decide) rfl) (fun _ _ _ _ _ => a0m rfl rfl rfl rfl (a0c (qq rfl))) ?_
           refine a7r hK4 (by kernel_rfl) (fun a ha => ?_)
           cases hb9
           exact ⟨_, hF41, hx71.pick [0, 1, 2, 3, 4, 5, 6, 7, 8, 9, 10, 11, 12] (by decide) rfl, ha.cut (l := [5, 11, 12, 27, 168]) rfl⟩
       ·clear hm
        rcases a0h hb7 with ⟨hb27, hb7⟩ | ⟨hb27, hb7⟩
        ·refine a7t 144 rfl hb27 ?_
         refine d_of 19 rfl (by kernel_rfl) rfl rfl rfl (hx48.sh (hF21.trans hF22) [0, 1, 2, 3, 4, 5, 6, 7, 8, 9, 10, 11] (by decide) rfl) ?_
         refine d_of 20 rfl (by kernel_rfl) rfl rfl rfl (hx48.sh (hF21.trans hF22) [0, 1, 2, 3, 4, 5, 6, 7, 8, 9, 10, 11] (by decide) rfl) ?_
         refine d_of 21 rfl (by kernel_rfl) rfl rfl rfl (hx48.sh (hF21.trans hF22) [0, 1, 2, 3, 4, 5, 6, 7, 8, 9, 10, 11] (by decide) rfl) ?_
         refine d_of 22 rfl (by kernel_rfl) rfl rfl rfl (hx48.sh (hF21.trans hF22) [0, 1, 2, 3, 4, 5, 6, 7, 8, 9, 10, 11] (by decide) rfl) ?_
         refine d_of 23 rfl (by kernel_rfl) rfl rfl rfl (hx48.sh (hF21.trans hF22) [0, 1, 2, 3, 4, 5, 6, 7, 8, 9, 10, 11] (by decide) rfl) ?_
         refine d_of 24 rfl (by kernel_rfl) rfl rfl rfl (hx48.sh (hF21.trans hF22) [0, 1, 2, 3, 4, 5, 6, 7, 8, 9, 10, 11] (by decide) rfl) ?_
         refine d_of 25 rfl (by kernel_rfl) rfl rfl rfl (hx48.sh (hF21.trans hF22) [0, 1, 2, 3, 4, 5, 6, 7, 8, 9, 10, 11] (by decide) rfl) ?_
         refine d_of 26 rfl (by kernel_rfl) rfl rfl rfl (hx48.sh (hF21.trans hF22) [0, 1, 2, 3, 4, 5, 6, 7, 8, 9, 10, 11] (by decide) rfl) ?_
         refine d_tk 27 rfl (by kernel_rfl) rfl rfl rfl rfl (hx48.sh (hF21.trans hF22) [0, 1, 2, 3, 4, 5, 6, 7, 8, 9, 10, 11] (by decide) rfl) (fun _ _ _ _ _ => a0n rfl rfl rfl rfl (a0c (qq rfl))) ?_
         refine a7r hK3 (by kernel_rfl) (fun a ha => ?_)
         cases hb7
         exact ⟨_, Frz.refl _, hx48.pick [0, 1, 2, 3, 4, 5, 6, 7, 8, 9, 10, 11] (by decide) rfl, ha.cut (l := [2, 4, 5, 8, 11, 12, 153]) rfl⟩
        ·refine a7t 144 rfl hb27 ?_
         refine d_tk 19 rfl (by kernel_rfl) rfl rfl rfl rfl (hx48.sh (hF21.trans hF22) [0, 1, 2, 3, 4, 5, 6, 7, 8, 9, 10, 11] (by decide) rfl) (fun _ _ _ _ _ => a0e rfl rfl rfl (a0c (qq rfl))) ?_
         refine d_tk 20 rfl (by kernel_rfl) rfl rfl rfl rfl (hx48.sh (hF21.trans hF22) [0, 1, 2, 3, 4, 5, 6, 7, 8, 9, 10, 11] (by decide) rfl) (fun _ _ _ _ _ => a0u rfl rfl rfl rfl rfl (a0c (qq rfl))) ?_
         refine d_tk 21 rfl (by kernel_rfl) rfl rfl rfl rfl (hx48.sh (hF21.trans hF22) [0, 1, 2, 3, 4, 5, 6, 7, 8, 9, 10, 11] (by decide) rfl) (fun _ _ _ _ _ => a0e rfl rfl rfl (a0c (qq rfl))) ?_
         obtain ⟨v40, hb28, hb7⟩ := bind_some hb7
         refine b2y (fuel' := 1) (listed' := #[true, true, true, true, true, true, true, true, true, true, true, true, true, true, true, true, true, true, true, true, true, true, true, true, true, true, true, false]) (fun a w' => ∃ (Fx42 : Frz), Frz.le Fx22 Fx42 ∧ HS F w [] Fx42 [.box b12 37 [.int .i64 v18.1.P.Sign, .slice as24 ns24 cs24, .int .i64 v18.1.Q.Sign, .slice as25 ns25 cs25], .box b11 37 [.int .i64 v17.1.P.Sign, .slice as22 ns22 cs22, .int .i64 v17.1.Q.Sign, .slice as23 ns23 cs23], .box b10 37 [.int .i64 v16.1.P.Sign, .slice as20 ns20 cs20, .int .i64 v16.1.Q.Sign, .slice as21 ns21 cs21], .box b9 26 [vs t1.Name, .int .i64 v15.Op, .int .i64 v15.N, vs v15.Name, .slice as19 ns19 cs19, .int .i64 t1.Cap], .box b8 26 [vs t1.Name, .int .i64 v13.Op, .int .i64 v13.N, vs v13.Name, .slice as17 ns17 cs17, .int .i64 t1.Cap], .box b7 26 [vs t1.Name, .int .i64 v9.Op, .int .i64 v9.N, vs v9.Name, .slice as13 ns13 cs13, .int .i64 t1.Cap], .box b6 37 [.int .i64 v7.1.P.Sign, .slice as10 ns10 cs10, .int .i64 v7.1.Q.Sign, .slice as11 ns11 cs11], .box b5 37 [.int .i64 v5.1.P.Sign, .slice as8 ns8 cs8, .int .i64 v5.1.Q.Sign, .slice as9 ns9 cs9], .box b4 37 [.int .i64 v4.1.P.Sign, .slice as6 ns6 cs6, .int .i64 v4.1.Q.Sign, .slice as7 ns7 cs7], .box b3 30 [.slice as4 ns4 cs4, .int .i64 f1.Persons, .int .i64 f1.Flats], .box b2 26 [vs other1.Name, .int .i64 other1.Fee.Op, .int .i64 other1.Fee.N, vs other1.Fee.Name, .slice as2 ns2 cs2, .int .i64 other1.Cap], .box b1 26 [vs t1.Name, .int .i64 t1.Fee.Op, .int .i64 t1.Fee.N, vs t1.Fee.Name, .slice as1 ns1 cs1, .int .i64 t1.Cap]] w' ∧ Has 215 a [(2, .slice as3 ns3 cs3), (4, .slice as5 ns5 cs5), (5, .pointer (some ⟨b1, 0, none⟩)), (8, .pointer (some ⟨b3, 0, none⟩)), (11, .bool v1), (12, .pointer (some ⟨b4, 0, none⟩)), (144, .bool false), (152, .bool v40)]) ?_ (fun hK11 => ?_)
         ·rintro a wx70 ⟨Fx42, hF42, hx72, hax14⟩
          refine a5s hax14 ?_
          refine d_tk 27 rfl (by kernel_rfl) rfl rfl rfl rfl (hx72.sh ((hF21.trans hF22).trans hF42) [0, 1, 2, 3, 4, 5, 6, 7, 8, 9, 10, 11] (by decide) rfl) (fun _ _ _ _ _ => a0m rfl rfl rfl rfl (a0c (qq rfl))) ?_
          refine a7r hK3 (by kernel_rfl) (fun a ha => ?_)
          cases hb7
          exact ⟨_, hF42, hx72.pick [0, 1, 2, 3, 4, 5, 6, 7, 8, 9, 10, 11] (by decide) rfl, ha.cut (l := [2, 4, 5, 8, 11, 12, 153]) rfl⟩
         ·clear hb7
          rcases a0h hb28 with ⟨hb29, hb28⟩ | ⟨hb29, hb28⟩
          ·refine a7t 147 rfl hb29 ?_
           refine d_tk 22 rfl (by kernel_rfl) rfl rfl rfl rfl (hx48.sh (hF21.trans hF22) [0, 1, 2, 3, 4, 5, 6, 7, 8, 9, 10, 11] (by decide) rfl) (fun _ _ _ _ hq => a0l ag37 sz37 rfl rfl hq rfl (i := 0) rfl rfl (a0c (qq rfl))) ?_
           refine a0w 23 rfl (by kernel_rfl) ?_
           obtain ⟨v41, hv27, hb28⟩ := bind_some hb28
           refine a0i ent12 rfl rfl rfl rfl hx48 (a6z _ _ _ hv27 hx48.sat) ?_
           rintro _ Fx43 _ wx71 hF43 hx73 ⟨as32, ns32, cs32, as33, ns33, cs33, rfl, rfl, hs32, hs33⟩
           refine a0r (hx73.sh ((hF21.trans hF22).trans hF43) [0, 1, 2, 3, 4, 5, 6, 7, 8, 9, 10, 11] (by decide) rfl) ?_
           refine a0w 24 rfl (by kernel_rfl) ?_
           obtain ⟨v42, hv28, hb28⟩ := bind_some hb28
           refine a0i ent11 rfl rfl rfl rfl hx73 (a4w _ _ _ _ hv28 hx73.sat (((hs24.mono hF21).mono hF22).mono hF43) (((hs25.mono hF21).mono hF22).mono hF43) hs32 hs33) ?_
           rintro _ Fx44 _ wx72 hF44 hx74 ⟨rfl, rfl⟩
           refine a0r (hx74.sh (((hF21.trans hF22).trans hF43).trans hF44) [0, 1, 2, 3, 4, 5, 6, 7, 8, 9, 10, 11] (by decide) rfl) ?_
           refine d_tk 25 rfl (by kernel_rfl) rfl rfl rfl rfl (hx74.sh (((hF21.trans hF22).trans hF43).trans hF44) [0, 1, 2, 3, 4, 5, 6, 7, 8, 9, 10, 11] (by decide) rfl) (fun _ _ _ _ _ => a3z rfl rfl rfl (a0c (qq rfl))) ?_
           refine d_tk 26 rfl (by kernel_rfl) rfl rfl rfl rfl (hx74.sh (((hF21.trans hF22).trans hF43).trans hF44) [0, 1, 2, 3, 4, 5, 6, 7, 8, 9, 10, 11] (by decide) rfl) (fun _ _ _ _ _ => a0n rfl rfl rfl rfl (a0c (qq rfl))) ?_
           refine a7r hK11 (by kernel_rfl) (fun a ha => ?_)
           cases hb28
           exact ⟨_, (hF43.trans hF44), hx74.pick [0, 1, 2, 3, 4, 5, 6, 7, 8, 9, 10, 11] (by decide) rfl, ha.cut (l := [2, 4, 5, 8, 11, 12, 144, 152]) rfl⟩
          ·refine a7t 147 rfl hb29 ?_
           refine d_of 22 rfl (by kernel_rfl) rfl rfl rfl (hx48.sh (hF21.trans hF22) [0, 1, 2, 3, 4, 5, 6, 7, 8, 9, 10, 11] (by decide) rfl) ?_
           refine d_of 23 rfl (by kernel_rfl) rfl rfl rfl (hx48.sh (hF21.trans hF22) [0, 1, 2, 3, 4, 5, 6, 7, 8, 9, 10, 11] (by decide) rfl) ?_
           refine d_of 24 rfl (by kernel_rfl) rfl rfl rfl (hx48.sh (hF21.trans hF22) [0, 1, 2, 3, 4, 5, 6, 7, 8, 9, 10, 11] (by decide) rfl) ?_
           refine d_of 25 rfl (by kernel_rfl) rfl rfl rfl (hx48.sh (hF21.trans hF22) [0, 1, 2, 3, 4, 5, 6, 7, 8, 9, 10, 11] (by decide) rfl) ?_
           refine d_tk 26 rfl (by kernel_rfl) rfl rfl rfl rfl (hx48.sh (hF21.trans hF22) [0, 1, 2, 3, 4, 5, 6, 7, 8, 9, 10, 11] (by decide) rfl) (fun _ _ _ _ _ => a0m rfl rfl rfl rfl (a0c (qq rfl))) ?_
           refine a7r hK11 (by kernel_rfl) (fun a ha => ?_)
           cases hb28
           exact ⟨_, Frz.refl _, hx48.pick [0, 1, 2, 3, 4, 5, 6, 7, 8, 9, 10, 11] (by decide) rfl, ha.cut (l := [2, 4, 5, 8, 11, 12, 144, 152]) rfl⟩
      ·clear hm
       rcases a0h hb6 with ⟨hb30, hb6⟩ | ⟨hb30, hb6⟩
       ·refine a7t 134 rfl hb30 ?_
        refine d_of 9 rfl (by kernel_rfl) rfl rfl rfl (hx47.sh hF21 [0, 1, 2, 3, 4, 5, 6, 7, 8, 9, 10, 11] (by decide) rfl) ?_
        refine d_of 10 rfl (by kernel_rfl) rfl rfl rfl (hx47.sh hF21 [0, 1, 2, 3, 4, 5, 6, 7, 8, 9, 10, 11] (by decide) rfl) ?_
        refine d_of 11 rfl (by kernel_rfl) rfl rfl rfl (hx47.sh hF21 [0, 1, 2, 3, 4, 5, 6, 7, 8, 9, 10, 11] (by decide) rfl) ?_
        refine d_of 12 rfl (by kernel_rfl) rfl rfl rfl (hx47.sh hF21 [0, 1, 2, 3, 4, 5, 6, 7, 8, 9, 10, 11] (by decide) rfl) ?_
        refine d_of 13 rfl (by kernel_rfl) rfl rfl rfl (hx47.sh hF21 [0, 1, 2, 3, 4, 5, 6, 7, 8, 9, 10, 11] (by decide) rfl) ?_
        refine d_of 14 rfl (by kernel_rfl) rfl rfl rfl (hx47.sh hF21 [0, 1, 2, 3, 4, 5, 6, 7, 8, 9, 10, 11] (by decide) rfl) ?_
        refine d_of 15 rfl (by kernel_rfl) rfl rfl rfl (hx47.sh hF21 [0, 1, 2, 3, 4, 5, 6, 7, 8, 9, 10, 11] (by decide) rfl) ?_
        refine d_of 16 rfl (by kernel_rfl) rfl rfl rfl (hx47.sh hF21 [0, 1, 2, 3, 4, 5, 6, 7, 8, 9, 10, 11] (by decide) rfl) ?_
        refine d_tk 17 rfl (by kernel_rfl) rfl rfl rfl rfl (hx47.sh hF21 [0, 1, 2, 3, 4, 5, 6, 7, 8, 9, 10, 11] (by decide) rfl) (fun _ _ _ _ _ => a0n rfl rfl rfl rfl (a0c (qq rfl))) ?_
        refine a7r hK2 (by kernel_rfl) (fun a ha => ?_)
        cases hb6
        exact ⟨_, Frz.refl _, hx47.pick [0, 1, 2, 3, 4, 5, 6, 7, 8, 9, 10, 11] (by decide) rfl, ha.cut (l := [2, 4, 5, 8, 11, 12, 25, 26, 143]) rfl⟩
       ·refine a7t 134 rfl hb30 ?_
        refine d_tk 9 rfl (by kernel_rfl) rfl rfl rfl rfl (hx47.sh hF21 [0, 1, 2, 3, 4, 5, 6, 7, 8, 9, 10, 11] (by decide) rfl) (fun _ _ _ _ _ => a0e rfl rfl rfl (a0c (qq rfl))) ?_
        refine d_tk 10 rfl (by kernel_rfl) rfl rfl rfl rfl (hx47.sh hF21 [0, 1, 2, 3, 4, 5, 6, 7, 8, 9, 10, 11] (by decide) rfl) (fun _ _ _ _ _ => a0u rfl rfl rfl rfl rfl (a0c (qq rfl))) ?_
        refine d_tk 11 rfl (by kernel_rfl) rfl rfl rfl rfl (hx47.sh hF21 [0, 1, 2, 3, 4, 5, 6, 7, 8, 9, 10, 11] (by decide) rfl) (fun _ _ _ _ _ => a0e rfl rfl rfl (a0c (qq rfl))) ?_
        obtain ⟨v43, hb31, hb6⟩ := bind_some hb6
        refine b2y (fuel' := 11) (listed' := #[true, true, true, true, true, true, true, true, true, true, true, true, true, true, true, true, true, false, false, false, false, false, false, false, false, false, false, false]) (fun a w' => ∃ (Fx45 : Frz), Frz.le Fx21 Fx45 ∧ HS F w [] Fx45 [.box b12 37 [.int .i64 v18.1.P.Sign, .slice as24 ns24 cs24, .int .i64 v18.1.Q.Sign, .slice as25 ns25 cs25], .box b11 37 [.int .i64 v17.1.P.Sign, .slice as22 ns22 cs22, .int .i64 v17.1.Q.Sign, .slice as23 ns23 cs23], .box b10 37 [.int .i64 v16.1.P.Sign, .slice as20 ns20 cs20, .int .i64 v16.1.Q.Sign, .slice as21 ns21 cs21], .box b9 26 [vs t1.Name, .int .i64 v15.Op, .int .i64 v15.N, vs v15.Name, .slice as19 ns19 cs19, .int .i64 t1.Cap], .box b8 26 [vs t1.Name, .int .i64 v13.Op, .int .i64 v13.N, vs v13.Name, .slice as17 ns17 cs17, .int .i64 t1.Cap], .box b7 26 [vs t1.Name, .int .i64 v9.Op, .int .i64 v9.N, vs v9.Name, .slice as13 ns13 cs13, .int .i64 t1.Cap], .box b6 37 [.int .i64 v7.1.P.Sign, .slice as10 ns10 cs10, .int .i64 v7.1.Q.Sign, .slice as11 ns11 cs11], .box b5 37 [.int .i64 v5.1.P.Sign, .slice as8 ns8 cs8, .int .i64 v5.1.Q.Sign, .slice as9 ns9 cs9], .box b4 37 [.int .i64 v4.1.P.Sign, .slice as6 ns6 cs6, .int .i64 v4.1.Q.Sign, .slice as7 ns7 cs7], .box b3 30 [.slice as4 ns4 cs4, .int .i64 f1.Persons, .int .i64 f1.Flats], .box b2 26 [vs other1.Name, .int .i64 other1.Fee.Op, .int .i64 other1.Fee.N, vs other1.Fee.Name, .slice as2 ns2 cs2, .int .i64 other1.Cap], .box b1 26 [vs t1.Name, .int .i64 t1.Fee.Op, .int .i64 t1.Fee.N, vs t1.Fee.Name, .slice as1 ns1 cs1, .int .i64 t1.Cap]] w' ∧ Has 215 a [(2, .slice as3 ns3 cs3), (4, .slice as5 ns5 cs5), (5, .pointer (some ⟨b1, 0, none⟩)), (8, .pointer (some ⟨b3, 0, none⟩)), (11, .bool v1), (12, .pointer (some ⟨b4, 0, none⟩)), (25, .pointer (some ⟨b12, 0, none⟩)), (26, .int .i64 v18.2), (134, .bool false), (142, .bool v43)]) ?_ (fun hK12 => ?_)
        ·rintro a wx73 ⟨Fx45, hF45, hx75, hax15⟩
         refine a5s hax15 ?_
         refine d_tk 17 rfl (by kernel_rfl) rfl rfl rfl rfl (hx75.sh (hF21.trans hF45) [0, 1, 2, 3, 4, 5, 6, 7, 8, 9, 10, 11] (by decide) rfl) (fun _ _ _ _ _ => a0m rfl rfl rfl rfl (a0c (qq rfl))) ?_
         refine a7r hK2 (by kernel_rfl) (fun a ha => ?_)
         cases hb6
         exact ⟨_, hF45, hx75.pick [0, 1, 2, 3, 4, 5, 6, 7, 8, 9, 10, 11] (by decide) rfl, ha.cut (l := [2, 4, 5, 8, 11, 12, 25, 26, 143]) rfl⟩
        ·clear hb6
         rcases a0h hb31 with ⟨hb32, hb31⟩ | ⟨hb32, hb31⟩
         ·refine a7t 137 rfl hb32 ?_
          refine d_tk 12 rfl (by kernel_rfl) rfl rfl rfl rfl (hx47.sh hF21 [0, 1, 2, 3, 4, 5, 6, 7, 8, 9, 10, 11] (by decide) rfl) (fun _ _ _ _ hq => a0l ag37 sz37 rfl rfl hq rfl (i := 1) rfl rfl (a0c (qq rfl))) ?_
          refine d_tk 13 rfl (by kernel_rfl) rfl rfl rfl rfl (hx47.sh hF21 [0, 1, 2, 3, 4, 5, 6, 7, 8, 9, 10, 11] (by decide) rfl) (fun _ _ _ _ hq => a0l ag37 sz37 rfl rfl hq rfl (i := 6) rfl rfl (a0c (qq rfl))) ?_
          refine a0w 14 rfl (by kernel_rfl) ?_
          have hG10 := (((((((((((((hF7.trans hF8).trans hF9).trans hF10).trans hF11).trans hF12).trans hF13).trans hF14).trans hF15).trans hF16).trans hF17).trans hF18).trans hF19).trans hF20).trans hF21
          obtain ⟨v44, hv29, hb31⟩ := bind_some hb31
          refine a0i ent11 rfl rfl rfl rfl hx47 (a4w _ _ _ _ hv29 hx47.sat ((hs22.mono hF20).mono hF21) ((hs23.mono hF20).mono hF21) (hs10.mono hG10) (hs11.mono hG10)) ?_
          rintro _ Fx46 _ wx74 hF46 hx76 ⟨rfl, rfl⟩
          refine a0r (hx76.sh (hF21.trans hF46) [0, 1, 2, 3, 4, 5, 6, 7, 8, 9, 10, 11] (by decide) rfl) ?_
          refine d_tk 15 rfl (by kernel_rfl) rfl rfl rfl rfl (hx76.sh (hF21.trans hF46) [0, 1, 2, 3, 4, 5, 6, 7, 8, 9, 10, 11] (by decide) rfl) (fun _ _ _ _ _ => a3z rfl rfl rfl (a0c (qq rfl))) ?_
          refine d_tk 16 rfl (by kernel_rfl) rfl rfl rfl rfl (hx76.sh (hF21.trans hF46) [0, 1, 2, 3, 4, 5, 6, 7, 8, 9, 10, 11] (by decide) rfl) (fun _ _ _ _ _ => a0n rfl rfl rfl rfl (a0c (qq rfl))) ?_
          refine a7r hK12 (by kernel_rfl) (fun a ha => ?_)
          cases hb31
          exact ⟨_, hF46, hx76.pick [0, 1, 2, 3, 4, 5, 6, 7, 8, 9, 10, 11] (by decide) rfl, ha.cut (l := [2, 4, 5, 8, 11, 12, 25, 26, 134, 142]) rfl⟩
         ·refine a7t 137 rfl hb32 ?_
          refine d_of 12 rfl (by kernel_rfl) rfl rfl rfl (hx47.sh hF21 [0, 1, 2, 3, 4, 5, 6, 7, 8, 9, 10, 11] (by decide) rfl) ?_
          refine d_of 13 rfl (by kernel_rfl) rfl rfl rfl (hx47.sh hF21 [0, 1, 2, 3, 4, 5, 6, 7, 8, 9, 10, 11] (by decide) rfl) ?_
          refine d_of 14 rfl (by kernel_rfl) rfl rfl rfl (hx47.sh hF21 [0, 1, 2, 3, 4, 5, 6, 7, 8, 9, 10, 11] (by decide) rfl) ?_
          refine d_of 15 rfl (by kernel_rfl) rfl rfl rfl (hx47.sh hF21 [0, 1, 2, 3, 4, 5, 6, 7, 8, 9, 10, 11] (by decide) rfl) ?_
          refine d_tk 16 rfl (by kernel_rfl) rfl rfl rfl rfl (hx47.sh hF21 [0, 1, 2, 3, 4, 5, 6, 7, 8, 9, 10, 11] (by decide) rfl) (fun _ _ _ _ _ => a0m rfl rfl rfl rfl (a0c (qq rfl))) ?_
          refine a7r hK12 (by kernel_rfl) (fun a ha => ?_)
          cases hb31
          exact ⟨_, Frz.refl _, hx47.pick [0, 1, 2, 3, 4, 5, 6, 7, 8, 9, 10, 11] (by decide) rfl, ha.cut (l := [2, 4, 5, 8, 11, 12, 25, 26, 134, 142]) rfl⟩
     ·clear hm
      rcases a0h hb5 with ⟨hb33, hb5⟩ | ⟨hb33, hb5⟩
      ·refine a7t 128 rfl hb33 ?_
       refine d_tk 3 rfl (by kernel_rfl) rfl rfl rfl rfl (hx46.sh (Frz.refl _) [0, 1, 2, 3, 4, 5, 6, 7, 8, 9, 10, 11] (by decide) rfl) (fun _ _ _ _ hq => a0l ag37 sz37 rfl rfl hq rfl (i := 2) rfl rfl (a0c (qq rfl))) ?_
       refine d_tk 4 rfl (by kernel_rfl) rfl rfl rfl rfl (hx46.sh (Frz.refl _) [0, 1, 2, 3, 4, 5, 6, 7, 8, 9, 10, 11] (by decide) rfl) (fun _ _ _ _ hq => a0l ag37 sz37 rfl rfl hq rfl (i := 6) rfl rfl (a0c (qq rfl))) ?_
       refine a0w 5 rfl (by kernel_rfl) ?_
       have hG11 := ((((((((((((hF7.trans hF8).trans hF9).trans hF10).trans hF11).trans hF12).trans hF13).trans hF14).trans hF15).trans hF16).trans hF17).trans hF18).trans hF19).trans hF20
       obtain ⟨v45, hv30, hb5⟩ := bind_some hb5
       refine a0i ent11 rfl rfl rfl rfl hx46 (a4w _ _ _ _ hv30 hx46.sat ((hs20.mono hF19).mono hF20) ((hs21.mono hF19).mono hF20) (hs10.mono hG11) (hs11.mono hG11)) ?_
       rintro _ Fx47 _ wx75 hF47 hx77 ⟨rfl, rfl⟩
       refine a0r (hx77.sh hF47 [0, 1, 2, 3, 4, 5, 6, 7, 8, 9, 10, 11] (by decide) rfl) ?_
       refine d_tk 6 rfl (by kernel_rfl) rfl rfl rfl rfl (hx77.sh hF47 [0, 1, 2, 3, 4, 5, 6, 7, 8, 9, 10, 11] (by decide) rfl) (fun _ _ _ _ _ => a3z rfl rfl rfl (a0c (qq rfl))) ?_
       refine d_tk 7 rfl (by kernel_rfl) rfl rfl rfl rfl (hx77.sh hF47 [0, 1, 2, 3, 4, 5, 6, 7, 8, 9, 10, 11] (by decide) rfl) (fun _ _ _ _ _ => a0n rfl rfl rfl rfl (a0c (qq rfl))) ?_
       refine a7r hK1 (by kernel_rfl) (fun a ha => ?_)
       cases hb5
       exact ⟨_, hF47, hx77.pick [0, 1, 2, 3, 4, 5, 6, 7, 8, 9, 10, 11] (by decide) rfl, ha.cut (l := [2, 4, 5, 8, 11, 12, 16, 23, 24, 25, 26, 133]) rfl⟩
      ·refine a7t 128 rfl hb33 ?_
       refine d_of 3 rfl (by kernel_rfl) rfl rfl rfl (hx46.sh (Frz.refl _) [0, 1, 2, 3, 4, 5, 6, 7, 8, 9, 10, 11] (by decide) rfl) ?_
       refine d_of 4 rfl (by kernel_rfl) rfl rfl rfl (hx46.sh (Frz.refl _) [0, 1, 2, 3, 4, 5, 6, 7, 8, 9, 10, 11] (by decide) rfl) ?_
       refine d_of 5 rfl (by kernel_rfl) rfl rfl rfl (hx46.sh (Frz.refl _) [0, 1, 2, 3, 4, 5, 6, 7, 8, 9, 10, 11] (by decide) rfl) ?_
       refine d_of 6 rfl (by kernel_rfl) rfl rfl rfl (hx46.sh (Frz.refl _) [0, 1, 2, 3, 4, 5, 6, 7, 8, 9, 10, 11] (by decide) rfl) ?_
       refine d_tk 7 rfl (by kernel_rfl) rfl rfl rfl rfl (hx46.sh (Frz.refl _) [0, 1, 2, 3, 4, 5, 6, 7, 8, 9, 10, 11] (by decide) rfl) (fun _ _ _ _ _ => a0m rfl rfl rfl rfl (a0c (qq rfl))) ?_
       refine a7r hK1 (by kernel_rfl) (fun a ha => ?_)
       cases hb5
       exact ⟨_, Frz.refl _, hx46.pick [0, 1, 2, 3, 4, 5, 6, 7, 8, 9, 10, 11] (by decide) rfl, ha.cut (l := [2, 4, 5, 8, 11, 12, 16, 23, 24, 25, 26, 133]) rfl⟩
   ·clear hm
    rcases a0h hb3 with ⟨hb34, hb3⟩ | ⟨hb34, hb3⟩
    ·refine a1i 63 rfl hb34 ?_
     refine a0y rfl (by decide) rfl (a0y rfl (by decide) rfl (a0n rfl rfl rfl rfl (a0c ?_)))
     refine a0o (fun a ha => ?_)
     cases hb3
     exact ⟨rfl, ha.cut (l := [2, 4, 5, 6, 8, 11, 12, 14, 66]) rfl⟩
    ·refine a1i 63 rfl hb34 ?_
     refine a0e rfl rfl rfl ?_
     refine a0u rfl rfl rfl rfl rfl ?_
     refine a0m rfl rfl rfl rfl (a0c ?_)
     refine a0o (fun a ha => ?_)
     cases hb3
     exact ⟨rfl, ha.cut (l := [2, 4, 5, 6, 8, 11, 12, 14, 66]) rfl⟩
 ·clear hm
  rcases a0h hb1 with ⟨hb35, hb1⟩ | ⟨hb35, hb1⟩
  ·refine a1i 36 rfl hb35 ?_
   refine a0y rfl (by decide) rfl (a0y rfl (by decide) rfl (a0y rfl (by decide) rfl (a0y rfl (by decide) rfl (a0y rfl (by decide) rfl (a0y rfl (by decide) rfl (a0n rfl rfl rfl rfl (a0c ?_)))))))
   refine a0o (fun a ha => ?_)
   cases hb1
   exact ⟨_, Frz.refl _, hx5.pick [0, 1, 2] (by decide) rfl, ha.cut (l := [2, 4, 5, 6, 8, 11, 43]) rfl⟩
  ·refine a1i 36 rfl hb35 ?_
   refine a0l ag26 sz26 rfl rfl hx5 rfl (i := 1) rfl rfl ?_
   refine a0e rfl rfl rfl ?_
   refine a0l ag30 sz30 rfl rfl hx5 rfl (i := 0) rfl rfl ?_
   refine a0e rfl rfl rfl ?_
   obtain ⟨v46, hv31, hb1⟩ := bind_some hb1
   refine a0i ent6 rfl rfl rfl rfl hx5 (b5d _ _ _ _ _ _ hv31 hx5.sat ((hs2.mono hF1).mono hF2) ((hs3.mono hF1).mono hF2) ((hs4.mono hF1).mono hF2) ((hs5.mono hF1).mono hF2)) ?_
   rintro _ Fx48 _ wx76 hF48 hx78 ⟨rfl, rfl⟩
   refine a3z rfl rfl rfl (a0m rfl rfl rfl rfl (a0c ?_))
   refine a0o (fun a ha => ?_)
   cases hb1
   exact ⟨_, hF48, hx78.pick [0, 1, 2] (by decide) rfl, ha.cut (l := [2, 4, 5, 6, 8, 11, 43]) rfl⟩
end Go.Proofs.Ytknpjecpcmajiaa.M

/-
  WHAT COMES OF A MIRROR WITH FUEL ENOUGH: 'Ev f r': from some n on, f n is r. And the operations of the mirrors at numbers that fit.
-/
namespace Go.Proofs.Ytknpjecpcmajiaa.Rt
open Go
def Ev {α : Type} (f : Nat → Option α) (r : α) : Prop := ∃ N, ∀ n, N ≤ n → f n = some r
section
variable {α β : Type}
theorem Ev.pure (a : α) : Ev (fun _ => some a) a := ⟨0, fun _ _ => rfl⟩
theorem Ev.all {f : Nat → Option α} {r : α} (h : ∀ n, f n = some r) : Ev f r := ⟨0, fun n _ => h n⟩
theorem Ev.bind {x : Nat → Option α} {f : Nat → α → Option β} {a : α} {b : β} (hx : Ev x a) (hf : Ev (fun n => f n a) b) : Ev (fun n => (x n).bind (f n)) b := by
  obtain ⟨N, hN⟩ := hx
  obtain ⟨M, hM⟩ := hf
  refine ⟨max N M, fun n hn => ?_⟩
  show (x n).bind (f n) = some b
  rw [hN n (by omega)]
  exact hM n (by omega)
theorem Ev.step {x : Option α} {f : Nat → α → Option β} {a : α} {b : β} (hx : x = some a) (hf : Ev (fun n => f n a) b) : Ev (fun n => x.bind (f n)) b := by
  subst hx; exact hf
theorem Ev.then {x : Nat → Option α} {b : α} {c : Bool} {y : Nat → Option α} (hc : c = true) (h : Ev x b) : Ev (fun n => bif c then x n else y n) b := by subst hc; exact h
theorem Ev.else {x : Nat → Option α} {b : α} {c : Bool} {y : Nat → Option α} (hc : c = false) (h : Ev y b) : Ev (fun n => bif c then x n else y n) b := by subst hc; exact h
theorem Ev.from {f g : Nat → Option α} {r : α} (N : Nat) (h : ∀ n, N ≤ n → f n = g n) (hg : Ev g r) : Ev f r := by
  obtain ⟨M, hM⟩ := hg
  exact ⟨max N M, fun n hn => by rw [h n (by omega)]; exact hM n (by omega)⟩
theorem Ev.eq {f : Nat → Option α} {r s : α} (h : Ev f r) (e : r = s) : Ev f s := e ▸ h
theorem Ev.uniq {f : Nat → Option α} {r s : α} (h : Ev f r) (k : Ev f s) : r = s := by
  obtain ⟨N, hN⟩ := h
  obtain ⟨M, hM⟩ := k
  have h1 := hN (max N M) (by omega)
  rw [hM (max N M) (by omega)] at h1
  exact (Option.some.inj h1).symm
end
theorem c7r (x : Int) : IntKind.i64.wrap x = if x % 18446744073709551616 ≥ 9223372036854775808 then x % 18446744073709551616 - 18446744073709551616 else x % 18446744073709551616 := by
  simp [IntKind.wrap, IntKind.bits, IntKind.signed]
theorem a5m {x : Int} (h1 : -9223372036854775808 ≤ x) (h2 : x ≤ 9223372036854775807) : IntKind.i64.wrap x = x := by
  rw [c7r]; split <;> omega
theorem b1t (x : Int) : IntKind.u64.wrap x = x % 18446744073709551616 := by
  simp [IntKind.wrap, IntKind.bits, IntKind.signed]
theorem a3o {x y : Int} (h1 : -9223372036854775808 ≤ x + y) (h2 : x + y ≤ 9223372036854775807) : iadd .i64 x y = x + y := a5m h1 h2
theorem a2k {x y : Int} (h1 : -9223372036854775808 ≤ x - y) (h2 : x - y ≤ 9223372036854775807) : isub .i64 x y = x - y := a5m h1 h2
theorem a7i {x y : Int} (h1 : -9223372036854775808 ≤ x * y) (h2 : x * y ≤ 9223372036854775807) : imul .i64 x y = x * y := a5m h1 h2
theorem b8p (k : IntKind) (x : Int) (m : Nat) (hk : k.bits = 64) (hm : m < 64) : (BitVec.ofInt k.bits x &&& BitVec.ofInt k.bits ((2 ^ m - 1 : Nat) : Int)).toNat = (x % 18446744073709551616).toNat % 2 ^ m := by
  rw [BitVec.toNat_and, BitVec.toNat_ofInt, BitVec.toNat_ofInt, hk]
  have h2 : (((2 ^ m - 1 : Nat) : Int) % ((2 ^ 64 : Nat) : Int)).toNat = 2 ^ m - 1 := by
    have : 2 ^ m < 2 ^ 64 := Nat.pow_lt_pow_right (by omega) hm
    rw [← Int.natCast_emod, Int.toNat_natCast, Nat.mod_eq_of_lt (by omega)]
  rw [h2, Nat.and_two_pow_sub_one_eq_mod]
  rfl
theorem b1y (x : Int) : iand .i64 x 1048575 = x % 1048576 := by
  have h := b8p .i64 x 20 rfl (by omega)
  have e : ((2 ^ 20 - 1 : Nat) : Int) = 1048575 := by decide
  rw [e] at h
  unfold iand
  rw [h, a5m (by omega) (by omega)]
  omega
theorem c2w {x : Int} (h0 : 0 ≤ x) (h1 : x < 18446744073709551616) : iand .u64 x 1048575 = x % 1048576 := by
  have h := b8p .u64 x 20 rfl (by omega)
  have e : ((2 ^ 20 - 1 : Nat) : Int) = 1048575 := by decide
  rw [e] at h
  unfold iand
  rw [h, b1t]
  omega
theorem c5x (x : Int) : iand .i64 x 1 = x % 2 := by
  have h := b8p .i64 x 1 rfl (by omega)
  have e : ((2 ^ 1 - 1 : Nat) : Int) = 1 := by decide
  rw [e] at h
  unfold iand
  rw [h, a5m (by omega) (by omega)]
  omega
theorem b6m (x : Int) : shr .i64 x 20 = some (x / 1048576) := by
  unfold shr
  rw [if_neg (by omega), Int.fdiv_eq_ediv_of_nonneg _ (by decide)]
  rfl
theorem c7w (x : Int) : shr .u64 x 20 = some (x / 1048576) := by
  unfold shr
  rw [if_neg (by omega), Int.fdiv_eq_ediv_of_nonneg _ (by decide)]
  rfl
theorem b6w {x : Int} (h0 : -8796093022208 ≤ x) (h1 : x < 8796093022208) : shl .i64 x 20 = some (x * 1048576) := by
  unfold shl
  rw [if_neg (by omega), show (2 : Int) ^ (min (20 : Int).toNat IntKind.i64.bits) = 1048576 from by decide, a5m (by omega) (by omega)]
theorem b6i {x y : Int} (h0 : 0 ≤ x) (h1 : x < 8796093022208) (h2 : 0 ≤ y) (h3 : y < 1048576) : ior .i64 (x * 1048576) y = x * 1048576 + y := by
  obtain ⟨p, rfl⟩ := Int.eq_ofNat_of_zero_le h0
  obtain ⟨q, rfl⟩ := Int.eq_ofNat_of_zero_le h2
  unfold ior
  rw [BitVec.toNat_or, BitVec.toNat_ofInt, BitVec.toNat_ofInt, show IntKind.i64.bits = 64 from rfl]
  have e1 : (((p : Int) * 1048576) % ((2 ^ 64 : Nat) : Int)).toNat = 2 ^ 20 * p := by omega
  have e2 : ((q : Int) % ((2 ^ 64 : Nat) : Int)).toNat = q := by omega
  rw [e1, e2, ← Nat.two_pow_add_eq_or_of_lt (by omega), a5m (by omega) (by omega)]
  omega
theorem b7k {x y : Int} (h0 : 0 ≤ x) (h1 : x ≤ 9223372036854775807) (h2 : 0 < y) : quo .i64 x y = some (x / y) := by
  unfold quo
  have h3 := Int.ediv_nonneg h0 (Int.le_of_lt h2)
  have h4 := Int.ediv_le_self y h0
  rw [if_neg (by omega), Int.tdiv_eq_ediv_of_nonneg h0, a5m (by omega) (by omega)]
theorem b6t {x y : Int} (h0 : 0 ≤ x) (h2 : 0 < y) : rem x y = some (x % y) := by
  unfold rem
  rw [if_neg (by omega), Int.tmod_eq_emod_of_nonneg h0]
/- lists -/
section
variable {α : Type}
theorem b3g (l : List α) (i : Nat) : ix l (i : Int) = l[i]? := by simp [ix]
theorem a7n (p : List α) (x : α) (s : List α) {i : Int} (hi : i = p.length) : ix (p ++ x :: s) i = some x := by
  subst hi; rw [b3g]; simp
theorem a8k (p : List α) (x y : α) (s : List α) {i : Int} (hi : i = p.length) : lset (p ++ x :: s) i y = some (p ++ y :: s) := by
  subst hi
  unfold lset
  rw [if_pos ⟨by omega, by simp; omega⟩]
  simp
theorem b8a {b : Nat} {z : α} {n : Nat} (h : n * b ≤ 140737488355328) : mks b z (n : Int) = some (List.replicate n z) := by
  unfold mks; rw [if_pos ⟨by omega, by simpa using h⟩]; simp
theorem b4f {b : Nat} {l m : List α} (h : (l.length + m.length) * b ≤ 140737488355328) : app b l m = some (l ++ m) := by unfold app; rw [if_pos h]
theorem c1v {l : List α} {p q : Nat} (h : p ≤ q) (h2 : q ≤ l.length) : lsl l (p : Int) (q : Int) = some ((l.take q).drop p) := by
  unfold lsl; rw [if_pos ⟨by omega, by omega, by omega⟩]; simp
end
end Go.Proofs.Ytknpjecpcmajiaa.Rt

/-
  LOOPS over lists, and the connectives of the laws, in the mirrors' words (no program in sight).
-/
namespace Go.Proofs.Ytknpjecpcmajiaa.Rt
open Go
theorem inc64 {i : Nat} (h : i < 4611686018427387904) : iadd .i64 (i : Int) 1 = ((i + 1 : Nat) : Int) := by rw [a3o (by omega) (by omega)]; omega
theorem c9j {i : Nat} (h : i < 4611686018427387904) : isub .i64 ((i + 1 : Nat) : Int) 1 = (i : Int) := by rw [a2k (by omega) (by omega)]; omega
theorem drop_cons {α : Type} {a : List α} {i : Nat} {x : α} {xs : List α} (h : a.drop i = x :: xs) : ix a (i : Int) = some x ∧ a.drop (i + 1) = xs ∧ i < a.length := by
  have h1 : i < a.length := by
    rcases Nat.lt_or_ge i a.length with h2 | h2
    · exact h2
    · rw [List.drop_eq_nil_of_le h2] at h; cases h
  rw [List.drop_eq_getElem_cons h1] at h
  injection h with h2 h3
  exact ⟨by rw [b3g, List.getElem?_eq_getElem h1, h2], h3, h1⟩
theorem drop_nil {α : Type} {a : List α} {i : Nat} (h : a.drop i = []) : a.length ≤ i := by simpa using h
/-- a loop's test -/
theorem a5h {α : Type} {a : List α} {i : Nat} {x : α} {xs : List α} (h : a.drop i = x :: xs) : decide ((i : Int) < (a.length : Int)) = true := by
  have := (drop_cons h).2.2
  exact decide_eq_true (by omega)
theorem b0l {α : Type} {a : List α} {i : Nat} (h : a.drop i = []) : decide ((i : Int) < (a.length : Int)) = false := by
  have := drop_nil h
  exact decide_eq_false (by omega)
section
variable {β : Type} {r : β} {c d : Bool} {y : Nat → Option Bool} {f : Nat → Bool → Option β}
theorem guard {V : Bool} {rest : Nat → Option Bool} (h : V = false → Ev rest true) : Ev (fun n => bif V then some true else rest n) true := by
  cases V with
  | true => exact Ev.then rfl (Ev.pure _)
  | false => exact Ev.else rfl (h rfl)
theorem Ev.conv {α : Type} {x y : Nat → Option α} {s : α} (e : ∀ n, x n = y n) (h : Ev y s) : Ev x s := by
  obtain ⟨N, hN⟩ := h
  exact ⟨N, fun n hn => by rw [e n]; exact hN n hn⟩
end
theorem d0p {α : Type} {b : Nat} {l m : List α} (h : (l.length + m.length) * b ≤ 140737488355328) : app b l m = some (l ++ m) := b4f h
end Go.Proofs.Ytknpjecpcmajiaa.Rt

/-
  WHAT ALWAYS ANSWERS: 'Tt Q f': with fuel enough f answers, and Q is true of the answer (no program in sight).
-/
namespace Go.Proofs.Ytknpjecpcmajiaa.Rt
open Go
theorem Ev.suc {α : Type} {f g : Nat → Option α} {r : α} (e : ∀ n, f (n + 1) = g n) (h : Ev g r) : Ev f r := by
  obtain ⟨N, hN⟩ := h
  refine ⟨N + 1, fun n hn => ?_⟩
  obtain ⟨k, rfl⟩ : ∃ k, n = k + 1 := ⟨n - 1, by omega⟩
  rw [e]; exact hN k (by omega)
def Tt {α : Type} (Q : α → Prop) (f : Nat → Option α) : Prop := ∃ r, Ev f r ∧ Q r
section
variable {α β : Type} {P : α → Prop} {Q : β → Prop}
theorem Tt.pure {r : β} (h : Q r) : Tt Q (fun _ => some r) := ⟨r, Ev.pure r, h⟩
theorem Tt.of {f : Nat → Option β} {r : β} (h : Ev f r) (hq : Q r) : Tt Q f := ⟨r, h, hq⟩
theorem Tt.all {f : Nat → Option β} {r : β} (h : ∀ n, f n = some r) (hq : Q r) : Tt Q f := ⟨r, Ev.all h, hq⟩
theorem Tt.bind {x : Nat → Option α} {g : Nat → α → Option β} (hx : Tt P x) (h : ∀ r, P r → Tt Q (fun n => g n r)) : Tt Q (fun n => (x n).bind (g n)) := by
  obtain ⟨r, h1, h2⟩ := hx
  obtain ⟨s, h3, h4⟩ := h r h2
  exact ⟨s, Ev.bind h1 h3, h4⟩
theorem Tt.evb {x : Nat → Option α} {a : α} {g : Nat → α → Option β} (hx : Ev x a) (h : Tt Q (fun n => g n a)) : Tt Q (fun n => (x n).bind (g n)) := by
  obtain ⟨s, h3, h4⟩ := h
  exact ⟨s, Ev.bind hx h3, h4⟩
theorem Tt.step {x : Option α} {g : Nat → α → Option β} {a : α} (hx : x = some a) (h : Tt Q (fun n => g n a)) : Tt Q (fun n => x.bind (g n)) := by
  subst hx; exact h
theorem Tt.bif {c : Bool} {x y : Nat → Option β} (h1 : c = true → Tt Q x) (h2 : c = false → Tt Q y) : Tt Q (fun n => bif c then x n else y n) := by
  cases c
  · exact h2 rfl
  · exact h1 rfl
theorem Tt.suc {f g : Nat → Option β} (e : ∀ n, f (n + 1) = g n) (h : Tt Q g) : Tt Q f := by
  obtain ⟨r, h1, h2⟩ := h
  exact ⟨r, Ev.suc e h1, h2⟩
/-- a condition of two parts: whatever it is -/
theorem Tt.cond {c d : Bool} {g : Nat → Bool → Option β} (h : ∀ b, Tt Q (fun n => g n b)) (k : Bool) : Tt Q (fun n => (bif c then some k else some d).bind (g n)) := by
  cases c <;> exact h _
end
end Go.Proofs.Ytknpjecpcmajiaa.Rt

/-
  PLAIN: what the lexer's functions compute, on lists of bytes; no program in sight.
-/
namespace Go.Proofs.Ytknpjecpcmajiaa.Lx
abbrev Bs := List UInt8
def isLetter (c : UInt8) : Bool := decide ((97 ≤ c.toNat ∧ c.toNat ≤ 122) ∨ (65 ≤ c.toNat ∧ c.toNat ≤ 90))
def c9n (c : UInt8) : Bool := decide (48 ≤ c.toNat ∧ c.toNat ≤ 57)
def c1j (c : UInt8) : Bool := decide ((97 ≤ c.toNat ∧ c.toNat ≤ 122) ∨ (65 ≤ c.toNat ∧ c.toNat ≤ 90) ∨ (48 ≤ c.toNat ∧ c.toNat ≤ 57) ∨ c.toNat = 95)
def c8a (c : UInt8) : Bool := decide (32 ≤ c.toNat ∧ c.toNat ≤ 126)
def c0a (p : UInt8 → Bool) : Bs → Nat
  | [] => 0
  | c :: r => bif p c then c0a p r + 1 else 0
def name (l : Bs) : Bool := !l.isEmpty && isLetter (l.headD 0) && decide (l.length ≤ 20) && (c0a c1j l == l.length)
def dec (l : Bs) : Nat := l.foldl (fun n c => 10 * n + (c.toNat - 48)) 0
def maxNumber : Nat := 1099511627776
def c6h (l : Bs) : Bool := !l.isEmpty && (c0a c9n l == l.length) && !(l.headD 0 == 48 && !(l == [48])) && decide (l.length ≤ 13)
def b9y (l : Bs) : Nat × Bool := if c6h l ∧ dec l ≤ maxNumber then (dec l, true) else (0, false)
/-- the loop that reads a c7g string: what is left of the text, what has been read, how many bytes -/
def qloop : Bs → Bs → Nat → Option (Bs × Nat)
  | [], _, _ => none
  | c :: r, acc, n =>
    if c8a c = false then none
    else if c.toNat = 34 then some (acc, n)
    else if c.toNat = 92 then
      match r with
      | [] => none
      | d :: r' => if d.toNat = 34 ∨ d.toNat = 92 then qloop r' (acc ++ [d]) (n + 2) else none
    else qloop r (acc ++ [c]) (n + 1)
def c7g (l : Bs) : Bs × Nat :=
  match qloop (l.drop 1) [] 1 with
  | none => ([], 0)
  | some (v, n) => if v.length > 400 then ([], 0) else (v, n + 1)
end Go.Proofs.Ytknpjecpcmajiaa.Lx

/-
  PLAIN: tokens, and the small laws of indices, slices and spans that the equations of the mirrors lean on.
-/
namespace Go.Proofs.Ytknpjecpcmajiaa.Lx
open Rt M Go
/-! indices -/
theorem b9n {s r : Rt.Bs} {i : Nat} {c : UInt8} (h : s.drop i = c :: r) : sidx s (i : Int) = some (c.toNat : Int) := by
  have h1 : s[i]? = some c := by
    have := congrArg (·[0]?) h
    simpa using this
  simp [sidx, h1]
theorem c6r {s r : Rt.Bs} {i : Nat} {c : UInt8} (h : s.drop i = c :: r) : i + r.length + 1 = s.length := by
  have := congrArg List.length h
  simp only [List.length_drop, List.length_cons] at this
  omega
theorem c3i {s r : Rt.Bs} {i : Nat} {c : UInt8} (h : s.drop i = c :: r) : s.drop (i + 1) = r := by
  rw [← List.drop_drop, h, List.drop_one, List.tail_cons]
theorem drop_nil {s : Rt.Bs} {i : Nat} (h : s.drop i = []) (hi : i ≤ s.length) : i = s.length := by
  have := congrArg List.length h
  simp only [List.length_drop, List.length_nil] at this
  omega
theorem a5m (x : Int) (h1 : -9223372036854775808 ≤ x) (h2 : x < 9223372036854775808) : IntKind.i64.wrap x = x := by
  simp [IntKind.wrap, IntKind.signed, IntKind.bits]
  split <;> omega
theorem c6p (a b : Nat) (h : a + b < 9223372036854775808) : iadd .i64 (a : Int) (b : Int) = ((a + b : Nat) : Int) := by
  rw [iadd, a5m _ (by omega) (by omega)]; simp
theorem c5k (a : Nat) (h : a + 1 < 9223372036854775808) : iadd .i64 (a : Int) 1 = ((a + 1 : Nat) : Int) := c6p a 1 h
/-! the predicates of bytes -/
theorem c1w {p : UInt8 → Bool} (h : (List.range 256).all (fun k => p (UInt8.ofNat k)) = true) (c : UInt8) : p c = true := by
  have := List.all_eq_true.mp h c.toNat (by simpa using c.toNat_lt)
  simpa using this
theorem letter_eq (n : Nat) (c : UInt8) : a7y n (c.toNat : Int) = some (isLetter c) :=
  of_decide_eq_true (c1w (p := fun c => decide (a7y 0 (c.toNat : Int) = some (isLetter c))) (by decide +kernel) c)
theorem c7c (n : Nat) (c : UInt8) : a8r n (c.toNat : Int) = some (c1j c) :=
  of_decide_eq_true (c1w (p := fun c => decide (a8r 0 (c.toNat : Int) = some (c1j c))) (by decide +kernel) c)
/-! spans -/
theorem b9u {p : UInt8 → Bool} {f : Int → Option Bool} (hf : ∀ c : UInt8, f c.toNat = some (p c)) {s : Rt.Bs} (hs : s.length < 9223372036854775807) {n : Nat} {kont : Int → Option Int} :
    ∀ {r : Rt.Bs} {i m : Nat}, s.drop i = r → i ≤ s.length → r.length < m → a6c n s f kont m (i : Int) = kont ((i + c0a p r : Nat) : Int)
  | [], i, m + 1, h, hi, _ => by
    have := drop_nil h hi
    rw [a9v]
    simp [this, c0a]
  | c :: r, i, m + 1, h, hi, hm => by
    have h1 := c6r h
    rw [a9v, b9n h, decide_eq_true (by omega)]
    simp only [cond_true, Option.bind_some, hf]
    cases hp : p c
    · simp [c0a, hp]
    · rw [cond_true, c5k _ (by omega), b9u hf hs (c3i h) (by omega) (by simp only [List.length_cons] at hm; omega)]
      simp only [c0a, hp, cond_true]
      congr 2; omega
theorem c8l {p : UInt8 → Bool} {f : Int → Option Bool} (hf : ∀ c : UInt8, f c.toNat = some (p c)) {s : Rt.Bs} (hs : s.length < 9223372036854775807) {n : Nat} (hn : s.length < n) :
    b0u n s f = some ((c0a p s : Nat) : Int) := by
  have := b9u hf hs (n := n) (kont := fun nx2 => some nx2) (r := s) (i := 0) (m := n) (by simp) (by omega) hn
  simpa [b0u] using this
theorem headD_idx {s : Rt.Bs} (h : s ≠ []) : sidx s 0 = some ((s.headD 0).toNat : Int) := by
  cases s with
  | nil => exact absurd rfl h
  | cons c r => exact b9n (i := 0) rfl
theorem name_eq {s : Rt.Bs} (hs : s.length < 9223372036854775807) {n : Nat} (hn : s.length < n) : a5g n s = some (name s) := by
  cases hs0 : s with
  | nil => rfl
  | cons c r =>
    rw [← hs0]
    have h0 : s ≠ [] := by rw [hs0]; simp
    have h1 : (s == []) = false := by simp [hs0]
    simp only [a5g, h1, Bool.not_false, cond_true, headD_idx h0, Option.bind_some, letter_eq, c8l (c7c n) hs hn, name]
    have h2 : s.isEmpty = false := by simp [hs0]
    rw [h2]
    cases isLetter (s.headD 0) <;> by_cases h3 : s.length ≤ 20 <;> simp [h3]
    · rw [decide_eq_true (by omega)]
      simp only [cond_true, Option.some.injEq]
      rw [Bool.eq_iff_iff]; simp; omega
    · rw [decide_eq_false (by omega)]; simp
end Go.Proofs.Ytknpjecpcmajiaa.Lx

/-
  PLAIN: each mirror of the lexer is its model, given fuel.
-/
namespace Go.Proofs.Ytknpjecpcmajiaa.Lx
open Rt M Go
/-! numbers -/
/-! gaps -/
/-! c7g strings -/
def ints (l : Rt.Bs) : List Int := l.map fun c => (c.toNat : Int)
/-! one token -/
/-! all tokens -/
end Go.Proofs.Ytknpjecpcmajiaa.Lx

/-
  READING A TARIFF: the reader's functions always answer, and stay within the tokens.
-/
namespace Go.Proofs.Ytknpjecpcmajiaa.Ta
open Go Rt M
/-- expressions with no more Args than fit -/
inductive Fit : M.Expr → Prop
  | mk {o n : Int} {s : Rt.Bs} {l : List M.Expr} : l.length ≤ 1000000 → (∀ y, y ∈ l → Fit y) → Fit ⟨o, n, s, l⟩
theorem Fit.leaf (o n : Int) (s : Rt.Bs) : Fit ⟨o, n, s, []⟩ := Fit.mk (by simp) (by simp)
theorem Fit.one {x : M.Expr} (o n : Int) (s : Rt.Bs) (h : Fit x) : Fit ⟨o, n, s, [x]⟩ := Fit.mk (by simp) (by simpa using h)
theorem Fit.two {x y : M.Expr} (o n : Int) (s : Rt.Bs) (h : Fit x) (h2 : Fit y) : Fit ⟨o, n, s, [x, y]⟩ := Fit.mk (by simp) (by simp [h, h2])
end Go.Proofs.Ytknpjecpcmajiaa.Ta

/-
  READING AND CHECKING A TARIFF always answer; what was read fits.
-/
namespace Go.Proofs.Ytknpjecpcmajiaa.Ta
open Go Rt M
theorem left {k m : Nat} (h : k < m) : ∃ j, m = j + 1 := ⟨m - 1, by omega⟩
theorem pred {k m : Nat} (h : k + 1 < m) : ∃ j, m = j + 1 ∧ k < j := ⟨m - 1, by omega, by omega⟩
/-! names -/
theorem c1c (s : Rt.Bs) : Ev (fun n => a5g n s) (Lx.name s) := by
  refine ⟨21, fun n hn => ?_⟩
  by_cases h : s.length ≤ 20
  · exact Lx.name_eq (by omega) (by omega)
  · have h0 : s ≠ [] := by intro e; rw [e] at h; simp at h
    have h1 : (s == []) = false := by simpa using h0
    have h2 : Lx.name s = false := by unfold Lx.name; rw [decide_eq_false h]; simp
    rw [h2]
    unfold a5g
    dsimp only
    rw [h1, Bool.not_false, cond_true, Lx.headD_idx h0, Option.bind_some, Lx.letter_eq, Option.bind_some, Option.bind_some]
    cases Lx.isLetter (s.headD 0)
    · rfl
    · rw [cond_true, decide_eq_false (show ¬ (s.length : Int) ≤ 20 by omega)]; rfl
theorem c1g (n : Nat) (l : List Rt.Bs) (s : Rt.Bs) (hl : l.length < 4611686018427387904) : ∀ (us : List Rt.Bs) (i m : Nat), l.drop i = us → us.length < m →
    a1t n l s (some (-1)) m (i : Int) = some (if s ∈ us then ((i + us.idxOf s : Nat) : Int) else -1)
  | [], i, m + 1, hd, _ => by rw [a4c, b0l hd]; rfl
  | x :: us, i, m + 1, hd, hm => by
    obtain ⟨h1, h2, h3⟩ := drop_cons hd
    have ih := c1g n l s hl us (i + 1) m h2 (by simp only [List.length_cons] at hm; omega)
    rw [a4c, a5h hd, cond_true, h1, Option.bind_some]
    by_cases h : s = x
    · subst h
      rw [beq_self_eq_true, cond_true, if_pos (by simp)]; simp
    · have e : (s == x) = false := by simpa using h
      rw [e, cond_false, inc64 (by omega), ih]
      by_cases h5 : s ∈ us
      · rw [if_pos h5, if_pos (List.mem_cons_of_mem _ h5), List.idxOf_cons, show (x == s) = false by simpa using fun h6 => h h6.symm]
        simp only [cond_false]; congr 1; omega
      · rw [if_neg h5, if_neg (by simp [h, h5])]
theorem b3i {l : List Rt.Bs} (s : Rt.Bs) (hl : l.length < 4611686018427387904) : Ev (fun n => a1n n l s) (decide (s ∈ l)) := by
  refine ⟨l.length + 1, fun n hn => ?_⟩
  unfold a1n a1y
  dsimp only
  have h : a1t n l s (some (-1)) n 0 = _ := c1g n l s hl l 0 n rfl (by omega)
  rw [h, Option.bind_some]
  by_cases h5 : s ∈ l
  · rw [if_pos h5, decide_eq_true h5, decide_eq_true (by omega)]
  · rw [if_neg h5, decide_eq_false h5]; rfl
def c1o (l : List Rt.Bs) : Nat → List Rt.Bs → Bool
  | _, [] => decide ((l.length : Int) ≤ 6)
  | i, s :: us => Lx.name s && (!decide (s ∈ l.take i) && c1o l (i + 1) us)
def c8b (l : List Rt.Bs) : Bool := c1o l 0 l
theorem c4s (l : List Rt.Bs) (hl : l.length < 4611686018427387904) : ∀ (us : List Rt.Bs) (i : Nat), l.drop i = us → ∃ N, ∀ n m, N ≤ n → us.length < m →
    a5e n l (some (decide ((l.length : Int) ≤ 6))) m (i : Int) = some (c1o l i us)
  | [], i, hd => by
    refine ⟨0, fun n m _ hm => ?_⟩
    obtain ⟨m, rfl⟩ := left hm
    rw [a8u, b0l hd]; rfl
  | s :: us, i, hd => by
    obtain ⟨h1, h2, h3⟩ := drop_cons hd
    obtain ⟨N, ih⟩ := c4s l hl us (i + 1) h2
    obtain ⟨N1, e1⟩ := c1c s
    obtain ⟨N2, e2⟩ := b3i (l := l.take i) s (by simp; omega)
    refine ⟨max N (max N1 N2), fun n m hn hm => ?_⟩
    obtain ⟨m, rfl, hm2⟩ := pred (by simpa using hm)
    have e1 : a5g n s = some (Lx.name s) := e1 n (by omega)
    have e2 : a1n n (l.take i) s = some (decide (s ∈ l.take i)) := e2 n (by omega)
    rw [a8u, a5h hd, cond_true, h1, Option.bind_some, e1, Option.bind_some]
    unfold c1o
    cases Lx.name s with
    | false => rfl
    | true =>
      have e3 : lsl l 0 (i : Int) = some (l.take i) := by
        have := c1v (l := l) (p := 0) (q := i) (by omega) (by omega)
        simpa using this
      rw [Bool.not_true, cond_false, e3, Option.bind_some, e2, Option.bind_some, Option.bind_some, Bool.true_and]
      cases decide (s ∈ l.take i) with
      | true => rfl
      | false => rw [cond_false, inc64 (by omega), ih n m (by omega) hm2]; rfl
theorem c5w {l : List Rt.Bs} (hl : l.length < 4611686018427387904) : Ev (fun n => b0g n l) (c8b l) := by
  obtain ⟨N, h⟩ := c4s l hl l 0 rfl
  exact ⟨N + l.length + 1, fun n hn => h n n (by omega) (by omega)⟩
/-! sizes and shapes -/
def c1m (o : Int) : Int := if o ≤ 4 then 0 else if o = 14 then 1 else if o = 11 then 3 else 2
theorem d0h (n : Nat) (o : Int) : a8v n o = some (c1m o) := by
  unfold a8v c1m
  by_cases h1 : o ≤ 4
  · rw [decide_eq_true h1, if_pos h1]; rfl
  · rw [decide_eq_false h1, if_neg h1, cond_false]
    by_cases h2 : o = 14
    · subst h2; rfl
    · rw [show (o == 14) = false by simpa using h2, if_neg h2, cond_false]
      by_cases h3 : o = 11
      · subst h3; rfl
      · rw [show (o == 11) = false by simpa using h3, if_neg h3]; rfl
/-- all nodes have the Args that they need -/
inductive Shp : M.Expr → Prop
  | mk {o n : Int} {s : Rt.Bs} {l : List M.Expr} : 0 ≤ o → o ≤ 16 → (l.length : Int) = c1m o → (∀ y, y ∈ l → Shp y) → Shp ⟨o, n, s, l⟩
/-! types -/
/-! reading -/
end Go.Proofs.Ytknpjecpcmajiaa.Ta

/-
  TYPES, exactly: what an expression is that has a type, and that the program's checks find exactly these.
-/
namespace Go.Proofs.Ytknpjecpcmajiaa.Tp
open Go Rt M Ta
mutual
def cnt : M.Expr → Nat
  | ⟨_, _, _, l⟩ => cnts l + 1
def cnts : List M.Expr → Nat
  | [] => 0
  | x :: l => cnt x + cnts l
 end
mutual
def dep : M.Expr → Nat
  | ⟨_, _, _, l⟩ => deps l + 1
def deps : List M.Expr → Nat
  | [] => 0
  | x :: l => max (dep x) (deps l)
 end
theorem c8i {a : Nat} (h : 1 ≤ a) (h2 : a ≤ 1000000) : isub .i64 (a : Int) 1 = ((a - 1 : Nat) : Int) := by rw [a2k (by omega) (by omega)]; omega
/-- what sized says -/
def Siz (d c lv lf : Nat) (r : Int × Bool) : Prop := (r.2 = true → d ≤ lv ∧ c ≤ lf ∧ r.1 = ((lf - c : Nat) : Int)) ∧ (d ≤ lv → c ≤ lf → r.2 = true)
theorem c1s (x : M.Expr) (lv : Nat) (hv1 : 1 ≤ lv) (hv : lv ≤ 1000000) (hx : x.Args.length ≤ 1000000) : ∀ (us : List M.Expr) (i lf : Nat), lf ≤ 1000000 → x.Args.drop i = us → (∀ y, y ∈ us → ∀ lv lf : Nat, lv ≤ 1000000 → lf ≤ 1000000 → Tt (Siz (dep y) (cnt y) lv lf) (fun n => tariff_sized n y lv lf)) →
    ∃ N r, Siz (deps us) (cnts us) (lv - 1) lf r ∧ ∀ n m, N ≤ n → us.length < m → a4h n (tariff_sized n) x (lv : Int) (fun f2 => some (f2, true)) m (i : Int) (lf : Int) = some r
  | [], i, lf, hlf, hd, _ => by
    refine ⟨0, (lf, true), ⟨fun _ => ⟨Nat.zero_le _, Nat.zero_le _, rfl⟩, fun _ _ => rfl⟩, fun n m _ hm => ?_⟩
    obtain ⟨m, rfl⟩ := left hm
    rw [a7k, b0l hd]; rfl
  | y :: us, i, lf, hlf, hd, H => by
    obtain ⟨h1, h2, h3⟩ := drop_cons hd
    obtain ⟨⟨l2, b⟩, ⟨N1, e1⟩, q1, q2⟩ := H y (by simp) (lv - 1) lf (by omega) hlf
    rw [← c8i hv1 hv] at e1
    have hcs : cnts (y :: us) = cnt y + cnts us := rfl
    have hds : deps (y :: us) = max (dep y) (deps us) := rfl
    cases b with
    | false =>
      have h5 : ¬(dep y ≤ lv - 1 ∧ cnt y ≤ lf) := fun h => by have := q2 h.1 h.2; cases this
      refine ⟨N1, (l2, false), ⟨fun h => (by cases h), fun h6 h7 => absurd ⟨by omega, by omega⟩ h5⟩, fun n m hn hm => ?_⟩
      obtain ⟨m, rfl⟩ := left hm
      have e1 : tariff_sized n y (isub .i64 lv 1) lf = some (l2, false) := e1 n (by omega)
      rw [a7k, a5h hd, cond_true, h1, Option.bind_some, e1, Option.bind_some]; rfl
    | true =>
      obtain ⟨h5, h6, h7⟩ := q1 rfl
      dsimp only at h7
      subst h7
      obtain ⟨N, r, ⟨hr1, hr2⟩, ih⟩ := c1s x lv hv1 hv hx us (i + 1) (lf - cnt y) (by omega) h2 (fun z hz => H z (by simp [hz]))
      refine ⟨max N N1, r, ⟨fun h => ?_, fun h8 h9 => hr2 (by omega) (by omega)⟩, fun n m hn hm => ?_⟩
      · obtain ⟨g1, g2, g3⟩ := hr1 h
        exact ⟨by omega, by omega, by rw [g3]; congr 1; omega⟩
      · obtain ⟨m, rfl, hm2⟩ := pred (by simpa using hm)
        have e1 : tariff_sized n y (isub .i64 lv 1) lf = some (((lf - cnt y : Nat) : Int), true) := e1 n (by omega)
        rw [a7k, a5h hd, cond_true, h1, Option.bind_some, e1, Option.bind_some]
        dsimp only
        rw [Bool.not_true, cond_false, inc64 (by omega), ih n m (by omega) hm2]
theorem c8w {x : M.Expr} (hx : Fit x) : ∀ lv lf : Nat, lv ≤ 1000000 → lf ≤ 1000000 → Tt (Siz (dep x) (cnt x) lv lf) (fun n => tariff_sized n x lv lf) := by
  induction hx with
  | @mk o k s l hl _ ih =>
    intro lv lf hv hf
    have hd : dep ⟨o, k, s, l⟩ = deps l + 1 := rfl
    have hc : cnt ⟨o, k, s, l⟩ = cnts l + 1 := rfl
    refine Tt.suc (g := fun n => _) (fun n => b2z n _ _ _) ?_
    have hsub : isub .i64 (lf : Int) 1 = (lf : Int) - 1 := a2k (by omega) (by omega)
    rw [hsub]
    refine Tt.bind (P := fun b => b = true ↔ (lv < 1 ∨ lf < 1)) (Tt.bif (fun h => Tt.pure (by have := of_decide_eq_true h; simp only [true_iff]; omega)) (fun h => Tt.pure ?_)) ?_
    · have := of_decide_eq_false h
      rw [decide_eq_true_iff]; omega
    intro b hb
    refine Tt.bif (fun h => Tt.pure ⟨fun h => (by cases h), fun h1 h2 => ?_⟩) (fun h => ?_)
    · have := hb.1 h; omega
    have h3 : ¬(lv < 1 ∨ lf < 1) := fun h4 => by have := hb.2 h4; rw [this] at h; cases h
    have e : (lf : Int) - 1 = ((lf - 1 : Nat) : Int) := by omega
    rw [e]
    obtain ⟨N, r, ⟨hr1, hr2⟩, hh⟩ := c1s ⟨o, k, s, l⟩ lv (by omega) hv hl l 0 (lf - 1) (by omega) rfl ih
    refine ⟨r, ⟨N + l.length + 1, fun n hn => hh n n (by omega) (by omega)⟩, fun h => ?_, fun h4 h5 => hr2 (by omega) (by omega)⟩
    obtain ⟨g1, g2, g3⟩ := hr1 h
    exact ⟨by omega, by omega, by rw [g3]; congr 1; omega⟩
/-! shapes -/
def a8d (o n : Int) (s : Rt.Bs) : Prop := if o = 0 then (0 ≤ n ∧ n ≤ 1099511627776) ∧ s = [] else if o = 1 ∨ o = 4 then n = 0 ∧ Lx.name s = true else n = 0 ∧ s = []
inductive Shx : M.Expr → Prop
  | mk {o n : Int} {s : Rt.Bs} {l : List M.Expr} : 0 ≤ o → o ≤ 16 → (l.length : Int) = c1m o → a8d o n s → (∀ y, y ∈ l → Shx y) → Shx ⟨o, n, s, l⟩
theorem b5b (l : List M.Expr) (hl : l.length ≤ 1000000) (f : Nat → M.Expr → Option Bool) (Q : M.Expr → Prop) : ∀ (us : List M.Expr) (i : Nat), l.drop i = us → (∀ y, y ∈ us → Tt (fun b => b = false ↔ Q y) (fun n => f n y)) →
    ∃ N r, (r = -1 ∧ (∀ y, y ∈ us → Q y) ∨ 0 ≤ r ∧ ¬∀ y, y ∈ us → Q y) ∧ ∀ n m, N ≤ n → us.length < m → a1o n l (f n) (some (-1)) m (i : Int) = some r
  | [], i, hd, _ => by
    refine ⟨0, -1, .inl ⟨rfl, by simp⟩, fun n m _ hm => ?_⟩
    obtain ⟨m, rfl⟩ := left hm
    rw [a2o, b0l hd]; rfl
  | y :: us, i, hd, H => by
    obtain ⟨h1, h2, h3⟩ := drop_cons hd
    obtain ⟨b, ⟨N1, e1⟩, hb⟩ := H y (by simp)
    obtain ⟨N, r, hr, ih⟩ := b5b l hl f Q us (i + 1) h2 (fun z hz => H z (by simp [hz]))
    cases b with
    | true =>
      refine ⟨N1, (i : Int), .inr ⟨by omega, fun h => ?_⟩, fun n m hn hm => ?_⟩
      · have := hb.2 (h y (by simp)); cases this
      obtain ⟨m, rfl⟩ := left hm
      have e1 : f n y = some true := e1 n (by omega)
      rw [a2o, a5h hd, cond_true, h1, Option.bind_some, e1]; rfl
    | false =>
      refine ⟨max N N1, r, hr.imp (fun h => ⟨h.1, by simpa using ⟨hb.1 rfl, h.2⟩⟩) (fun h => ⟨h.1, fun h5 => h.2 fun z hz => h5 z (by simp [hz])⟩), fun n m hn hm => ?_⟩
      obtain ⟨m, rfl, hm2⟩ := pred (by simpa using hm)
      have e1 : f n y = some false := e1 n (by omega)
      rw [a2o, a5h hd, cond_true, h1, Option.bind_some, e1, Option.bind_some, cond_false, inc64 (by omega)]
      exact ih n m (by omega) hm2
theorem b7b (l : List M.Expr) (hl : l.length ≤ 1000000) (f : Nat → M.Expr → Option Bool) (Q : M.Expr → Prop) (H : ∀ y, y ∈ l → Tt (fun b => b = false ↔ Q y) (fun n => f n y)) :
    Tt (fun b => b = false ↔ ∀ y, y ∈ l → Q y) (fun n => a1x n l (f n)) := by
  obtain ⟨N, r, hr, ih⟩ := b5b l hl f Q l 0 rfl H
  refine ⟨decide (0 ≤ r), ⟨N + l.length + 1, fun n hn => ?_⟩, ?_⟩
  · unfold a1x a3a
    dsimp only
    have e : a1o n l (f n) (some (-1)) n 0 = some r := ih n n (by omega) (by omega)
    rw [e]; rfl
  · show decide (0 ≤ r) = false ↔ _
    rw [decide_eq_false_iff_not]
    rcases hr with h | h
    · exact ⟨fun _ => h.2, fun _ => by omega⟩
    · exact ⟨fun h5 => absurd h.1 h5, fun h5 => absurd h5 h.2⟩
theorem Shx.inv {o n : Int} {s : Rt.Bs} {l : List M.Expr} (h : Shx ⟨o, n, s, l⟩) : 0 ≤ o ∧ o ≤ 16 ∧ (l.length : Int) = c1m o ∧ a8d o n s ∧ ∀ y, y ∈ l → Shx y := by
  cases h with
  | mk h1 h2 h3 h4 h5 => exact ⟨h1, h2, h3, h4, h5⟩
theorem c6x {x : M.Expr} (hx : Fit x) : Tt (fun b => b = true ↔ Shx x) (fun n => tariff_shaped n x) := by
  induction hx with
  | @mk o k s l hl _ ih =>
    refine Tt.suc (fun n => b2d n _) ?_
    refine Tt.bind (P := fun b => b = false ↔ 0 ≤ o ∧ o ≤ 16) (Tt.bif (fun h => Tt.pure ?_) (fun h => Tt.pure ?_)) ?_
    · have h1 := of_decide_eq_true h
      dsimp only at h1
      exact ⟨fun h => (by cases h), fun h => by omega⟩
    · have h1 := of_decide_eq_false h
      dsimp only at h1
      rw [decide_eq_false_iff_not]
      dsimp only
      omega
    intro b hb
    refine Tt.bind (P := fun c => c = false ↔ (0 ≤ o ∧ o ≤ 16) ∧ (l.length : Int) = c1m o) (Tt.bif (fun h => Tt.pure ?_) (fun h => ?_)) ?_
    · exact ⟨fun h => (by cases h), fun h5 => by have := hb.2 h5.1; rw [this] at h; cases h⟩
    · refine Tt.evb (Ev.all fun n => d0h n _) (Tt.pure ?_)
      have := hb.1 h
      simp only [bne_eq_false_iff_eq, this, true_and]
    intro c hc
    refine Tt.bif (fun h => Tt.pure ⟨fun h => (by cases h), fun h5 => ?_⟩) (fun h => ?_)
    · have h6 := h5.inv
      have := hc.2 ⟨⟨h6.1, h6.2.1⟩, h6.2.2.1⟩
      rw [this] at h; cases h
    obtain ⟨⟨h1, h2⟩, h3⟩ := hc.1 h
    have fin : ∀ {b : Bool}, (b = true ↔ a8d o k s ∧ ∀ y, y ∈ l → Shx y) → (b = true ↔ Shx ⟨o, k, s, l⟩) := fun {b} hb => hb.trans ⟨fun h => Shx.mk h1 h2 h3 h.1 h.2, fun h => ⟨h.inv.2.2.2.1, h.inv.2.2.2.2⟩⟩
    refine Tt.bif (fun h0 => ?_) (fun h0 => ?_)
    · have h0' : o = 0 := by simpa using h0
      subst h0'
      have hz : l = [] := by
        have : (l.length : Int) = 0 := h3
        exact List.length_eq_zero_iff.1 (by omega)
      subst hz
      refine Tt.bind (P := fun b => b = true ↔ 0 ≤ k ∧ k ≤ 1099511627776) (Tt.bif (fun h => Tt.pure ?_) (fun h => Tt.pure ?_)) fun b hb => ?_
      · have h5 := of_decide_eq_true h
        rw [decide_eq_true_iff]
        exact ⟨fun h6 => ⟨h5, h6⟩, fun h6 => h6.2⟩
      · have h5 := of_decide_eq_false h
        exact ⟨fun h6 => (by cases h6), fun h6 => absurd h6.1 h5⟩
      refine Tt.bind (P := fun b => b = true ↔ (0 ≤ k ∧ k ≤ 1099511627776) ∧ s = []) (Tt.bif (fun h => Tt.pure ?_) (fun h => Tt.pure ?_)) fun b hb2 => ?_
      · have := hb.1 h
        simp [this]
      · exact ⟨fun h6 => (by cases h6), fun h6 => by rw [hb.2 h6.1] at h; cases h⟩
      refine Tt.pure (fin ?_)
      rw [hb2]
      exact ⟨fun h => ⟨h, by simp⟩, fun h => h.1⟩
    have hn0 : o ≠ 0 := by simpa using h0
    refine Tt.bind (P := fun b => b = true ↔ o = 1 ∨ o = 4) (Tt.bif (fun h => Tt.pure ?_) (fun h => Tt.pure ?_)) ?_
    · have : o = 1 := by simpa using h
      exact ⟨fun _ => .inl this, fun _ => rfl⟩
    · have : o ≠ 1 := by simpa using h
      simp [this]
    intro b1 hb1
    refine Tt.bif (fun h4 => ?_) (fun h4 => ?_)
    · have ho := hb1.1 h4
      have hz : l = [] := by
        have : (l.length : Int) = 0 := by rw [h3]; rcases ho with rfl | rfl <;> rfl
        exact List.length_eq_zero_iff.1 (by omega)
      subst hz
      have hno : a8d o k s ↔ k = 0 ∧ Lx.name s = true := by unfold a8d; rw [if_neg hn0, if_pos ho]
      refine Tt.bind (P := fun b => b = true ↔ k = 0 ∧ Lx.name s = true) (Tt.bif (fun h => ?_) (fun h => Tt.pure ?_)) fun b hb => ?_
      · have : k = 0 := by simpa using h
        refine Tt.evb (c1c _) (Tt.pure ?_)
        simp [this]
      · have : k ≠ 0 := by simpa using h
        exact ⟨fun h => (by cases h), fun h => absurd h.1 this⟩
      refine Tt.pure (fin ?_)
      rw [hb, hno]
      exact ⟨fun h => ⟨h, by simp⟩, fun h => h.1⟩
    have ho : ¬(o = 1 ∨ o = 4) := fun h5 => by rw [hb1.2 h5] at h4; cases h4
    have hno : a8d o k s ↔ k = 0 ∧ s = [] := by unfold a8d; rw [if_neg hn0, if_neg ho]
    refine Tt.bind (P := fun b => b = true ↔ k = 0 ∧ s = []) (Tt.bif (fun h => Tt.pure ?_) (fun h => Tt.pure ?_)) fun b hb => ?_
    · have : k = 0 := by simpa using h
      simp [this]
    · have : k ≠ 0 := by simpa using h
      exact ⟨fun h => (by cases h), fun h => absurd h.1 this⟩
    refine Tt.bind (P := fun b => b = true ↔ a8d o k s ∧ ∀ y, y ∈ l → Shx y) (Tt.bif (fun h => ?_) (fun h => Tt.pure ?_)) ?_
    · refine Tt.bind (b7b l hl tariff_shaped_1 Shx (fun y hy => ?_)) ?_
      · refine Tt.suc (fun n => b0w n _) ?_
        refine Tt.bind (ih y hy) ?_
        intro b hb
        refine Tt.pure ?_
        rw [← hb]; cases b <;> simp
      · intro b2 hb2
        refine Tt.pure ?_
        rw [hno, ← hb, ← hb2, h]
        cases b2 <;> simp
    · exact ⟨fun h5 => (by cases h5), fun h5 => by rw [hno, ← hb] at h5; rw [h5.1] at h; cases h⟩
    · intro b hb
      exact Tt.pure (fin hb)
def Frm (x : M.Expr) : Prop := (dep x ≤ 10 ∧ cnt x ≤ 100) ∧ Shx x
theorem d0s {x : M.Expr} (hx : Fit x) : Tt (fun b => b = true ↔ Frm x) (fun n => a9t n x) := by
  unfold a9t
  refine Tt.bind (c8w hx 10 100 (by decide) (by decide)) fun r hr => ?_
  have h5 : r.2 = true ↔ dep x ≤ 10 ∧ cnt x ≤ 100 := ⟨fun h => ⟨(hr.1 h).1, (hr.1 h).2.1⟩, fun h => hr.2 h.1 h.2⟩
  refine Tt.bind (P := fun b => b = true ↔ Frm x) (Tt.bif (fun h => ?_) (fun h => Tt.pure ?_)) fun b hb => Tt.pure hb
  · refine Tt.bind (c6x hx) fun b hb => Tt.pure ?_
    unfold Frm
    rw [hb, ← h5, h]; simp
  · exact ⟨fun h6 => (by cases h6), fun h6 => by rw [h5.2 h6.1] at h; cases h⟩
def Wrt (t : Tariff) : Prop := Lx.name t.Name = true ∧ Frm t.Fee ∧ -1 ≤ t.Cap ∧ t.Cap ≤ 1099511627776
theorem c2u {t : Tariff} (hx : Fit t.Fee) : Tt (fun b => b = true ↔ Wrt t) (fun n => a6y n t) := by
  unfold a6y
  refine Tt.evb (c1c _) ?_
  refine Tt.bind (P := fun b => b = true ↔ Lx.name t.Name = true ∧ Frm t.Fee) (Tt.bif (fun h => ?_) (fun h => Tt.pure ?_)) fun b hb => ?_
  · refine Tt.bind (d0s hx) fun b hb => Tt.pure ?_
    rw [hb, h]; simp
  · exact ⟨fun h6 => (by cases h6), fun h6 => by rw [h6.1] at h; cases h⟩
  refine Tt.bind (P := fun b => b = true ↔ (Lx.name t.Name = true ∧ Frm t.Fee) ∧ -1 ≤ t.Cap) (Tt.bif (fun h => Tt.pure ?_) (fun h => Tt.pure ?_)) fun b hb => ?_
  · rw [decide_eq_true_iff, ← hb, h]; simp
  · exact ⟨fun h6 => (by cases h6), fun h6 => by rw [hb.2 h6.1] at h; cases h⟩
  refine Tt.bind (P := fun b => b = true ↔ Wrt t) (Tt.bif (fun h => Tt.pure ?_) (fun h => Tt.pure ?_)) fun b hb => ?_
  · have := hb.1 h
    rw [decide_eq_true_iff]
    exact ⟨fun h5 => ⟨this.1.1, this.1.2, this.2, h5⟩, fun h5 => h5.2.2.2⟩
  · exact ⟨fun h6 => (by cases h6), fun h6 => by rw [hb.2 ⟨⟨h6.1, h6.2.1⟩, h6.2.2.1⟩] at h; cases h⟩
  exact Tt.pure hb
end Go.Proofs.Ytknpjecpcmajiaa.Tp

