/- Several texts in one, for FeeSmooth.said: what the theorem leans on. -/
import Derived.Test.YtknpjecpcmajiaaGreatRows
import Derived.KernelRfl
import Derived.Test.YtknpjecpcmajiaaGreatPs4
namespace Go.Proofs.YtknpjecpcmajiaaGreat.Wrap
open Go Go.ChangeShapes Go.WideShapes Go.ChangeAt Go.RowKit Rt
theorem c4x (W : World) : b3f Tryz.prog W 9 Rp.str (fun s => s.length ≤ maxLen) := c6d Tryz.underlying9
theorem cells9 : Tryz.prog.cellsOf 9 = 1 := by kernel_rfl
theorem b8e (W : World) : b3f Tryz.prog W 3 (Rp.int .i64) (fun z => IntKind.i64.min ≤ z ∧ z ≤ IntKind.i64.max) := c5u Tryz.underlying3
theorem cells3 : Tryz.prog.cellsOf 3 = 1 := by kernel_rfl
theorem cells22 : Tryz.prog.cellsOf 22 = 1 := by kernel_rfl
theorem cells24 : Tryz.prog.cellsOf 24 = 4 := by kernel_rfl
inductive WfX : M.Expr → Prop
  | mk {o n : Int} {s : Rt.Bs} {l : List M.Expr} : (IntKind.i64.min ≤ o ∧ o ≤ IntKind.i64.max) → (IntKind.i64.min ≤ n ∧ n ≤ IntKind.i64.max) → s.length ≤ maxLen → l.length ≤ maxLen → (∀ y, y ∈ l → WfX y) → WfX ⟨o, n, s, l⟩
def ok24 (x : M.Expr) : Prop := WfX x
set_option maxRecDepth 100000 in
theorem c8h (W : World) {H : Type} (enc : TypeId × Value → H) : ∀ (fuel : Nat) (cs : List Value) (x : DataW H × List MemPlace), DataW.trod enc Tryz.prog W 0 (fun _ => true) true fuel 24 cs = some x → ∃ y, M.rp_Expr.R (all W) cs y ∧ WfX y := by
  intro fuel
  induction fuel using Nat.strongRecOn with
  | ind fuel ih =>
    intro cs x h
    obtain ⟨xs, n, hfu, _, hl, hn, hf⟩ := DataW.trod_struct Tryz.underlying24 h
    obtain ⟨y0, r0, o0⟩ := a7o hn hf (i := 0) rfl (b8e W)
    obtain ⟨y1, r1, o1⟩ := a7o hn hf (i := 1) rfl (b8e W)
    obtain ⟨y2, r2, o2⟩ := a7o hn hf (i := 2) rfl (c4x W)
    have h3 : DataW.trod enc Tryz.prog W 0 (fun _ => true) true n 22 ((cs.drop 3).take (Tryz.prog.cellsOf 22)) = xs[3]? := hf 3 _ rfl
    have h3l : 3 < xs.length := by rw [hn]; decide
    rw [List.getElem?_eq_getElem h3l] at h3
    obtain ⟨l, ⟨a, m, c, e3', s3⟩, o3, o4⟩ := c8a Tryz.underlying22 (r := M.rp_Expr) (ok := WfX) (by rw [cells24]; rfl) (by decide) h3 (fun j cs' x' hj hx => ih j (by omega) cs' x' hx)
    have e0 : (cs.drop 0).take (Tryz.prog.cellsOf 3) = [.int .i64 y0] := r0
    have e1 : (cs.drop 1).take (Tryz.prog.cellsOf 3) = [.int .i64 y1] := r1
    have e2 : (cs.drop 2).take (Tryz.prog.cellsOf 9) = [vs y2] := r2
    have e3 : (cs.drop 3).take (Tryz.prog.cellsOf 22) = [.slice a m c] := e3'
    rw [cells3] at e0 e1
    rw [cells9] at e2
    rw [cells22] at e3
    rw [cells24] at hl
    refine ⟨⟨y0, y1, y2, l⟩, M.expr_iff.2 ⟨a, m, c, ?_, s3⟩, WfX.mk o0 o1 o2 o3 o4⟩
    show cs = _
    have hd : cs.drop 4 = [] := List.drop_of_length_le (by omega)
    have h0 : cs = cs.drop 0 := (List.drop_zero).symm
    rw [h0]
    rw [show cs.drop 0 = (cs.drop 0).take 1 ++ cs.drop 1 from a6o cs 0 1, e0]
    rw [show cs.drop 1 = (cs.drop 1).take 1 ++ cs.drop 2 from a6o cs 1 1, e1]
    rw [show cs.drop 2 = (cs.drop 2).take 1 ++ cs.drop 3 from a6o cs 2 1, e2]
    rw [show cs.drop 3 = (cs.drop 3).take 1 ++ cs.drop 4 from a6o cs 3 1, e3]
    rw [hd]
    rfl
theorem d0g (W : World) : b3f Tryz.prog W 24 M.rp_Expr ok24 := fun enc fuel cs x h => c8h W enc fuel cs x h
theorem cells26 : Tryz.prog.cellsOf 26 = 6 := by kernel_rfl
def ok26 (x : M.Tariff) : Prop := x.Name.length ≤ maxLen ∧ ok24 x.Fee ∧ (IntKind.i64.min ≤ x.Cap ∧ x.Cap ≤ IntKind.i64.max)
set_option maxRecDepth 100000 in
theorem d0w (W : World) : b3f Tryz.prog W 26 M.rp_Tariff ok26 := by
  intro H enc fuel cs x h
  obtain ⟨xs, n, _, _, hl, hn, hf⟩ := DataW.trod_struct Tryz.underlying26 h
  obtain ⟨y0, r0, o0⟩ := a7o hn hf (i := 0) rfl (c4x W)
  have e0' := r0
  have e0 : (cs.drop 0).take (Tryz.prog.cellsOf 9) = [vs y0] := e0'
  rw [cells9] at e0
  obtain ⟨y1, r1, o1⟩ := a7o hn hf (i := 1) rfl (d0g W)
  obtain ⟨a1_3, n1_3, c1_3, e1', s1_3⟩ := (M.expr_iff.1 r1)
  have e1 : (cs.drop 1).take (Tryz.prog.cellsOf 24) = [.int .i64 y1.Op, .int .i64 y1.N, vs y1.Name, .slice a1_3 n1_3 c1_3] := e1'
  rw [cells24] at e1
  obtain ⟨y2, r2, o2⟩ := a7o hn hf (i := 2) rfl (b8e W)
  have e2' := r2
  have e2 : (cs.drop 5).take (Tryz.prog.cellsOf 3) = [.int .i64 y2] := e2'
  rw [cells3] at e2
  rw [cells26] at hl
  refine ⟨⟨y0, y1, y2⟩, ⟨a1_3, n1_3, c1_3, ?_, s1_3⟩, o0, o1, o2⟩
  show cs = _
  have hd : cs.drop 6 = [] := List.drop_of_length_le (by omega)
  have h0 : cs = cs.drop 0 := (List.drop_zero).symm
  rw [h0]
  rw [show cs.drop 0 = (cs.drop 0).take 1 ++ cs.drop 1 from a6o cs 0 1, e0]
  rw [show cs.drop 1 = (cs.drop 1).take 4 ++ cs.drop 5 from a6o cs 1 4, e1]
  rw [show cs.drop 5 = (cs.drop 5).take 1 ++ cs.drop 6 from a6o cs 5 1, e2]
  rw [hd]
  rfl
def ok27 (l : List Bs) : Prop := l.length ≤ maxLen ∧ ∀ x ∈ l, x.length ≤ maxLen
theorem d0r (W : World) : b3f Tryz.prog W 27 (Rp.sl Rp.str) ok27 := b3z Tryz.underlying27 (r := Rp.str) (by rw [cells9]; rfl) (by decide) (c4x W)
def ok28 (l : List Int) : Prop := l.length ≤ maxLen ∧ ∀ x ∈ l, (IntKind.i64.min ≤ x ∧ x ≤ IntKind.i64.max)
theorem c7f (W : World) : b3f Tryz.prog W 28 (Rp.sl (Rp.int .i64)) ok28 := b3z Tryz.underlying28 (r := (Rp.int .i64)) (by rw [cells3]; rfl) (by decide) (b8e W)
theorem cells28 : Tryz.prog.cellsOf 28 = 1 := by kernel_rfl
theorem cells30 : Tryz.prog.cellsOf 30 = 3 := by kernel_rfl
def ok30 (x : M.Facts) : Prop := ok28 x.Lifts ∧ (IntKind.i64.min ≤ x.Persons ∧ x.Persons ≤ IntKind.i64.max) ∧ (IntKind.i64.min ≤ x.Flats ∧ x.Flats ≤ IntKind.i64.max)
set_option maxRecDepth 100000 in
theorem d0d (W : World) : b3f Tryz.prog W 30 M.rp_Facts ok30 := by
  intro H enc fuel cs x h
  obtain ⟨xs, n, _, _, hl, hn, hf⟩ := DataW.trod_struct Tryz.underlying30 h
  obtain ⟨y0, r0, o0⟩ := a7o hn hf (i := 0) rfl (c7f W)
  obtain ⟨a0_0, n0_0, c0_0, e0', s0_0⟩ := r0
  have e0 : (cs.drop 0).take (Tryz.prog.cellsOf 28) = [.slice a0_0 n0_0 c0_0] := e0'
  rw [cells28] at e0
  obtain ⟨y1, r1, o1⟩ := a7o hn hf (i := 1) rfl (b8e W)
  have e1' := r1
  have e1 : (cs.drop 1).take (Tryz.prog.cellsOf 3) = [.int .i64 y1] := e1'
  rw [cells3] at e1
  obtain ⟨y2, r2, o2⟩ := a7o hn hf (i := 2) rfl (b8e W)
  have e2' := r2
  have e2 : (cs.drop 2).take (Tryz.prog.cellsOf 3) = [.int .i64 y2] := e2'
  rw [cells3] at e2
  rw [cells30] at hl
  refine ⟨⟨y0, y1, y2⟩, ⟨a0_0, n0_0, c0_0, ?_, s0_0⟩, o0, o1, o2⟩
  show cs = _
  have hd : cs.drop 3 = [] := List.drop_of_length_le (by omega)
  have h0 : cs = cs.drop 0 := (List.drop_zero).symm
  rw [h0]
  rw [show cs.drop 0 = (cs.drop 0).take 1 ++ cs.drop 1 from a6o cs 0 1, e0]
  rw [show cs.drop 1 = (cs.drop 1).take 1 ++ cs.drop 2 from a6o cs 1 1, e1]
  rw [show cs.drop 2 = (cs.drop 2).take 1 ++ cs.drop 3 from a6o cs 2 1, e2]
  rw [hd]
  rfl
theorem cells35 : Tryz.prog.cellsOf 35 = 2 := by kernel_rfl
def ok35 (x : M.Big) : Prop := (IntKind.i64.min ≤ x.Sign ∧ x.Sign ≤ IntKind.i64.max) ∧ ok28 x.Digits
set_option maxRecDepth 100000 in
theorem c5d (W : World) : b3f Tryz.prog W 35 M.rp_Big ok35 := by
  intro H enc fuel cs x h
  obtain ⟨xs, n, _, _, hl, hn, hf⟩ := DataW.trod_struct Tryz.underlying35 h
  obtain ⟨y0, r0, o0⟩ := a7o hn hf (i := 0) rfl (b8e W)
  have e0' := r0
  have e0 : (cs.drop 0).take (Tryz.prog.cellsOf 3) = [.int .i64 y0] := e0'
  rw [cells3] at e0
  obtain ⟨y1, r1, o1⟩ := a7o hn hf (i := 1) rfl (c7f W)
  obtain ⟨a1_0, n1_0, c1_0, e1', s1_0⟩ := r1
  have e1 : (cs.drop 1).take (Tryz.prog.cellsOf 28) = [.slice a1_0 n1_0 c1_0] := e1'
  rw [cells28] at e1
  rw [cells35] at hl
  refine ⟨⟨y0, y1⟩, ⟨a1_0, n1_0, c1_0, ?_, s1_0⟩, o0, o1⟩
  show cs = _
  have hd : cs.drop 2 = [] := List.drop_of_length_le (by omega)
  have h0 : cs = cs.drop 0 := (List.drop_zero).symm
  rw [h0]
  rw [show cs.drop 0 = (cs.drop 0).take 1 ++ cs.drop 1 from a6o cs 0 1, e0]
  rw [show cs.drop 1 = (cs.drop 1).take 1 ++ cs.drop 2 from a6o cs 1 1, e1]
  rw [hd]
  rfl
theorem cells37 : Tryz.prog.cellsOf 37 = 4 := by kernel_rfl
def ok37 (x : M.Frac) : Prop := ok35 x.P ∧ ok35 x.Q
set_option maxRecDepth 100000 in
theorem c9r (W : World) : b3f Tryz.prog W 37 M.rp_Frac ok37 := by
  intro H enc fuel cs x h
  obtain ⟨xs, n, _, _, hl, hn, hf⟩ := DataW.trod_struct Tryz.underlying37 h
  obtain ⟨y0, r0, o0⟩ := a7o hn hf (i := 0) rfl (c5d W)
  obtain ⟨a0_1, n0_1, c0_1, e0', s0_1⟩ := r0
  have e0 : (cs.drop 0).take (Tryz.prog.cellsOf 35) = [.int .i64 y0.Sign, .slice a0_1 n0_1 c0_1] := e0'
  rw [cells35] at e0
  obtain ⟨y1, r1, o1⟩ := a7o hn hf (i := 1) rfl (c5d W)
  obtain ⟨a1_1, n1_1, c1_1, e1', s1_1⟩ := r1
  have e1 : (cs.drop 2).take (Tryz.prog.cellsOf 35) = [.int .i64 y1.Sign, .slice a1_1 n1_1 c1_1] := e1'
  rw [cells35] at e1
  rw [cells37] at hl
  refine ⟨⟨y0, y1⟩, ⟨a0_1, n0_1, c0_1, a1_1, n1_1, c1_1, ?_, s0_1, s1_1⟩, o0, o1⟩
  show cs = _
  have hd : cs.drop 4 = [] := List.drop_of_length_le (by omega)
  have h0 : cs = cs.drop 0 := (List.drop_zero).symm
  rw [h0]
  rw [show cs.drop 0 = (cs.drop 0).take 2 ++ cs.drop 2 from a6o cs 0 2, e0]
  rw [show cs.drop 2 = (cs.drop 2).take 2 ++ cs.drop 4 from a6o cs 2 2, e1]
  rw [hd]
  rfl
def ok31 (l : List M.Frac) : Prop := l.length ≤ maxLen ∧ ∀ x ∈ l, ok37 x
theorem c4m (W : World) : b3f Tryz.prog W 31 (Rp.sl M.rp_Frac) ok31 := b3z Tryz.underlying31 (r := M.rp_Frac) (by rw [cells37]; rfl) (by decide) (c9r W)
def tabs : List (String × DataW Unit) := []
noncomputable def b7l (os : Os) : World :=
  { World.holding Tryz.prog os ⟨#[], #[], []⟩ with heap := (World.holding Tryz.prog os ⟨#[], #[], []⟩).heap }
theorem c7u (os : Os) (args : Array Value) : laidMet Tryz.prog tabs ((b7l os).forCall (fun _ _ => 0) ⟨#[], args, []⟩).memory :=
  laidMet_of_run' 8 (by kernel_rfl) (by kernel_rfl)
end Go.Proofs.YtknpjecpcmajiaaGreat.Wrap

namespace Go.Proofs.YtknpjecpcmajiaaGreat.M
open Go Go.RowKit Rt
theorem ent17 : Ent Tryz.prog 17 := fun _ _ => by kernel_rfl
theorem ent29 : Ent Tryz.prog 29 := fun _ _ => by kernel_rfl
theorem ent28 : Ent Tryz.prog 28 := fun _ _ => by kernel_rfl
theorem ent27 : Ent Tryz.prog 27 := fun _ _ => by kernel_rfl
theorem ent30 : Ent Tryz.prog 30 := fun _ _ => by kernel_rfl
theorem ent10 : Ent Tryz.prog 10 := fun _ _ => by kernel_rfl
theorem ent12 : Ent Tryz.prog 12 := fun _ _ => by kernel_rfl
def b0i (n : Nat)  : Option Bool :=
 (b2e n 12345 2).bind fun v1 =>
 (b2e n 2469 400).bind fun v2 =>
 (a3x n 100).bind fun v3 =>
 ((a7d n 1000).bind fun v37 =>
 (a8d n (⟨4, 0, [112, 97, 112, 101, 114], []⟩ : Expr) v37).bind fun v38 =>
 (a7n n 8 v38).bind fun v39 =>
 (a9d n v39 [v1.1, v3]).bind fun v40 =>
 some (v40.1.P.Sign, v40.1.P.Digits, v40.1.Q.Sign, v40.1.Q.Digits, v40.2)).bind fun (f1, f2, f3, f4, ex1) =>
 ((a7d n 1000).bind fun v32 =>
 (a8d n v32 (⟨2, 0, [], []⟩ : Expr)).bind fun v33 =>
 (a7n n 7 v33).bind fun v34 =>
 (a8d n (⟨4, 0, [112, 97, 112, 101, 114], []⟩ : Expr) v34).bind fun v35 =>
 (a7n n 9 v35).bind fun v36 =>
 some (v36.Op, v36.N, v36.Name, v36.Args)).bind fun (f5, f6, f7, f8) =>
 (a8d n (⟨f5, f6, f7, f8⟩ : Expr) (⟨1, 0, [112, 97, 112, 101, 114], []⟩ : Expr)).bind fun v4 =>
 (a7n n 5 v4).bind fun v5 =>
 (a9d n v5 [v1.1, v3]).bind fun v6 =>
 (a7d n 2).bind fun v7 =>
 (a8d n v7 (⟨4, 0, [103, 108, 97, 115, 115], []⟩ : Expr)).bind fun v8 =>
 (a7n n 6 v8).bind fun v9 =>
 ((a7d n 3).bind fun v27 =>
 (a8d n (⟨2, 0, [], []⟩ : Expr) v27).bind fun v28 =>
 (a7n n 12 v28).bind fun v29 =>
 (a7d n 1).bind fun v30 =>
 (a7n n 11 [v29, v30, v9]).bind fun v31 =>
 some (v31.Op, v31.N, v31.Name, v31.Args)).bind fun (f9, f10, f11, f12) =>
 (a9d n (⟨f9, f10, f11, f12⟩ : Expr) [v1.1, v3]).bind fun v10 =>
 (a6l n (⟨[97], (⟨f9, f10, f11, f12⟩ : Expr), 5⟩ : Tariff) [[112, 97, 112, 101, 114], [103, 108, 97, 115, 115]] (⟨[4, 0], 3, 1⟩ : Facts) [v1.1, v3]).bind fun v11 =>
 (a9d n (⟨4, 0, [116, 105, 110], []⟩ : Expr) [v1.1, v3]).bind fun v12 =>
 (bif ex1 != 0 then
  some true
 else
  some (v6.2 != 0)).bind fun v13 =>
 (bif v13 then
  some true
 else
  some (v10.2 != 0)).bind fun v14 =>
 (bif v14 then
  some true
 else
  some (v11.2 != 0)).bind fun v15 =>
 (bif v15 then
  some true
 else
  some (v12.2 != 11)).bind fun v16 =>
 bif v16 then
  some false
 else
  (b0e n (⟨(⟨f1, f2⟩ : Big), (⟨f3, f4⟩ : Big)⟩ : Frac) v2.1).bind fun v17 =>
  (bif v17 then
   (a3x n 3004).bind fun v25 =>
   (b0e n v6.1 v25).bind fun v26 =>
   some v26
  else
   some false).bind fun v18 =>
  (bif v18 then
   (a3x n (-98)).bind fun v23 =>
   (b0e n v10.1 v23).bind fun v24 =>
   some v24
  else
   some false).bind fun v19 =>
  (bif v19 then
   (a3x n 0).bind fun v21 =>
   (b0e n v11.1 v21).bind fun v22 =>
   some v22
  else
   some false).bind fun v20 =>
  some v20
set_option maxHeartbeats 1000000 in
set_option maxRecDepth 1000000 in
theorem b8l (n : Nat)  (r : Bool) (hm : b0i n  = some r) {w : World} {F : Frz} (hs : Sat F w)  :
  Calls Tryz.prog 6 #[] w fun e w' => ∃ v F' O', e = .returned v ∧ HS F w [] F' O' w' ∧ (v = .bool r ∧ O' = []) := by
 unfold b0i at hm
 have h := HS.init hs
 refine a1a 129 Tryz.func6 rfl rfl rfl ?_
 refine a0f (a0a (a0b rfl rfl rfl (a0c (a0d (a0f (a0a ?_))))))
 obtain ⟨v1, hv1, hm⟩ := bind_some hm
 refine a0i ent26 rfl rfl rfl rfl h (b4m _ _ _ _ hv1 h.sat) ?_
 rintro _ Fx1 _ wx1 hF1 hx1 ⟨as1, ns1, cs1, as2, ns2, cs2, rfl, rfl, hs1, hs2⟩
 refine a0e rfl rfl rfl (a0j rfl rfl rfl rfl (a0j rfl rfl rfl rfl ?_))
 refine a1b ze37 rfl rfl rfl hx1 ?_
 intro b1 wx2 hx2
 refine a0p sz37 rfl hx2 rfl rfl rfl rfl (i := 0) rfl rfl rfl rfl ?_
 intro wx3 hx3
 refine a0b rfl rfl rfl (a0c (a0d (a0f (a0a ?_))))
 obtain ⟨v2, hv2, hm⟩ := bind_some hm
 refine a0i ent26 rfl rfl rfl rfl hx3 (b4m _ _ _ _ hv2 hx3.sat) ?_
 rintro _ Fx2 _ wx4 hF2 hx4 ⟨as3, ns3, cs3, as4, ns4, cs4, rfl, rfl, hs3, hs4⟩
 refine a0e rfl rfl rfl (a0j rfl rfl rfl rfl (a0j rfl rfl rfl rfl ?_))
 refine a1b ze37 rfl rfl rfl hx4 ?_
 intro b2 wx5 hx5
 refine a0p sz37 rfl hx5 rfl rfl rfl rfl (i := 0) rfl rfl rfl rfl ?_
 intro wx6 hx6
 refine a0b rfl rfl rfl (a0c (a0d (a0f ?_)))
 refine a1w (SH Fx2 [.box b2 37 [.int .i64 v2.1.P.Sign, .slice as3 ns3 cs3, .int .i64 v2.1.Q.Sign, .slice as4 ns4 cs4], .box b1 37 [.int .i64 v1.1.P.Sign, .slice as1 ns1 cs1, .int .i64 v1.1.Q.Sign, .slice as2 ns2 cs2]]) 4 rfl (by kernel_rfl) hx6 ?_
 intro wx7 hx7
 refine d_tk 0 rfl (by kernel_rfl) rfl rfl rfl rfl (hx7.sh (Frz.refl _) [0, 1] (by decide) rfl) (fun _ _ _ _ hq => a0l ag37 sz37 rfl rfl hq rfl (i := 1) rfl rfl (a0c (qq rfl))) ?_
 refine a0v 1 rfl (by kernel_rfl) ?_
 obtain ⟨v3, hv3, hm⟩ := bind_some hm
 refine a0i ent17 rfl rfl rfl rfl hx7 (a6a _ _ _ hv3 hx7.sat) ?_
 rintro _ Fx3 _ wx8 hF3 hx8 ⟨as5, ns5, cs5, as6, ns6, cs6, rfl, rfl, hs5, hs6⟩
 refine a0o (hx8.sh hF3 [0, 1] (by decide) rfl) ?_
 refine a0v 2 rfl (by kernel_rfl) ?_
 refine a1q (e := 37) (cs := [.int .i64 v1.1.P.Sign, .slice as1 ns1 cs1, .int .i64 v1.1.Q.Sign, .slice as2 ns2 cs2, .int .i64 v3.P.Sign, .slice as5 ns5 cs5, .int .i64 v3.Q.Sign, .slice as6 ns6 cs6]) (q := 4) rfl rfl hx8 rfl (fun _ => by kernel_rfl) rfl rfl ?_
 intro b3 wx9 hx9
 refine a0o (hx9.sh hF3 [1, 2] (by decide) rfl) ?_
 refine d_tk 3 rfl (by kernel_rfl) rfl rfl rfl rfl (hx9.sh hF3 [1, 2] (by decide) rfl) (fun _ _ _ _ _ => a0b rfl rfl rfl (a0c (qq rfl))) ?_
 refine a2g (by kernel_rfl) ?_
 refine a0d (a0f (a0a ?_))
 refine a2b (v := .agg #[.int .i64 4, .int .i64 0, vs [112, 97, 112, 101, 114], .slice none 0 0]) rfl rfl rfl (fun _ => by kernel_rfl) ?_
 refine a1b ze24 rfl rfl rfl hx9 ?_
 intro b4 wx10 hx10
 refine a0p sz24 rfl hx10 rfl rfl rfl rfl (i := 0) rfl rfl rfl rfl ?_
 intro wx11 hx11
 refine a0c (a0d (a0f (a0a ?_)))
 refine a2b (v := .agg #[.int .i64 2, .int .i64 0, vs [], .slice none 0 0]) rfl rfl rfl (fun _ => by kernel_rfl) ?_
 refine a1b ze24 rfl rfl rfl hx11 ?_
 intro b5 wx12 hx12
 refine a0p sz24 rfl hx12 rfl rfl rfl rfl (i := 0) rfl rfl rfl rfl ?_
 intro wx13 hx13
 refine a0c (a0d ?_)
 obtain ⟨Fx4, hF4, hx14, hsx1⟩ := a1c hx13 (i := 2) rfl ((show RowN rp_Frac Fx3 2 [.int .i64 v1.1.P.Sign, .slice as1 ns1 cs1, .int .i64 v1.1.Q.Sign, .slice as2 ns2 cs2, .int .i64 v3.P.Sign, .slice as5 ns5 cs5, .int .i64 v3.Q.Sign, .slice as6 ns6 cs6] [v1.1, v3] from ⟨rfl, ⟨_, _, rfl, ⟨as1, ns1, cs1, as2, ns2, cs2, rfl, ((hs1.mono hF2).mono hF3), ((hs2.mono hF2).mono hF3)⟩, ⟨_, _, rfl, ⟨as5, ns5, cs5, as6, ns6, cs6, rfl, hs5, hs6⟩, (rfl : RowR rp_Frac _ [] [])⟩⟩⟩))
 obtain ⟨⟨f1, f2, f3, f4, ex1⟩, hb1, hm⟩ := bind_some hm
 refine c1n (fun a w' => ∃ (Fx5 : Frz) (b6 : Nat) (as7 : Option Addr) (ns7 : Nat) (cs7 : Nat) (as8 : Option Addr) (ns8 : Nat) (cs8 : Nat), Frz.le Fx4 Fx5 ∧ HS F w [] Fx5 [.box b6 37 [.int .i64 f1, .slice as7 ns7 cs7, .int .i64 f3, .slice as8 ns8 cs8], .box b5 24 [.int .i64 2, .int .i64 0, vs [], .slice none 0 0], .box b4 24 [.int .i64 4, .int .i64 0, vs [112, 97, 112, 101, 114], .slice none 0 0], .box b2 37 [.int .i64 v2.1.P.Sign, .slice as3 ns3 cs3, .int .i64 v2.1.Q.Sign, .slice as4 ns4 cs4], .box b1 37 [.int .i64 v1.1.P.Sign, .slice as1 ns1 cs1, .int .i64 v1.1.Q.Sign, .slice as2 ns2 cs2]] w' ∧ (SlR (Rp.int .i64) Fx5 as7 ns7 cs7 f2) ∧ (SlR (Rp.int .i64) Fx5 as8 ns8 cs8 f4) ∧ Has 129 a [(3, .pointer (some ⟨b2, 0, none⟩)), (5, .slice (some ⟨b3, 0, none⟩) 2 2), (6, .pointer (some ⟨b4, 0, none⟩)), (7, .pointer (some ⟨b5, 0, none⟩)), (8, .pointer (some ⟨b6, 0, none⟩)), (9, .int .i64 ex1)]) ?_ ?_
 ·rintro a wx14 ⟨Fx5, b6, as7, ns7, cs7, as8, ns8, cs8, hF5, hx15, hs7, hs8, hax1⟩
  refine a1i hax1 ?_
  obtain ⟨⟨f5, f6, f7, f8⟩, hb2, hm⟩ := bind_some hm
  refine c1n (fun a w' => ∃ (Fx6 : Frz) (b7 : Nat) (as9 : Option Addr) (ns9 : Nat) (cs9 : Nat), Frz.le Fx5 Fx6 ∧ HS F w [] Fx6 [.box b7 24 [.int .i64 f5, .int .i64 f6, vs f7, .slice as9 ns9 cs9], .box b6 37 [.int .i64 f1, .slice as7 ns7 cs7, .int .i64 f3, .slice as8 ns8 cs8], .box b5 24 [.int .i64 2, .int .i64 0, vs [], .slice none 0 0], .box b4 24 [.int .i64 4, .int .i64 0, vs [112, 97, 112, 101, 114], .slice none 0 0], .box b2 37 [.int .i64 v2.1.P.Sign, .slice as3 ns3 cs3, .int .i64 v2.1.Q.Sign, .slice as4 ns4 cs4], .box b1 37 [.int .i64 v1.1.P.Sign, .slice as1 ns1 cs1, .int .i64 v1.1.Q.Sign, .slice as2 ns2 cs2]] w' ∧ (SlR rp_Expr Fx6 as9 ns9 cs9 f8) ∧ Has 129 a [(3, .pointer (some ⟨b2, 0, none⟩)), (5, .slice (some ⟨b3, 0, none⟩) 2 2), (7, .pointer (some ⟨b5, 0, none⟩)), (8, .pointer (some ⟨b6, 0, none⟩)), (9, .int .i64 ex1), (10, .pointer (some ⟨b7, 0, none⟩))]) ?_ ?_
  ·rintro a wx15 ⟨Fx6, b7, as9, ns9, cs9, hF6, hx16, hs9, hax2⟩
   refine a1i hax2 ?_
   refine a0f (a0a ?_)
   refine a0l ag24 sz24 rfl rfl hx16 rfl (i := 0) rfl rfl ?_
   refine a2b (v := .agg #[.int .i64 1, .int .i64 0, vs [112, 97, 112, 101, 114], .slice none 0 0]) rfl rfl rfl (fun _ => by kernel_rfl) ?_
   obtain ⟨v4, hv4, hm⟩ := bind_some hm
   refine a0i ent29 rfl rfl rfl rfl hx16 (a2v _ _ _ _ hv4 hx16.sat hs9 (SlR.nil _ _)) ?_
   rintro _ Fx7 _ wx16 hF7 hx17 ⟨as10, ns10, cs10, xss10, rfl, rfl, hs10⟩
   obtain ⟨Fx8, hF8, hx18, hsx2⟩ := a1c hx17 (i := 0) rfl hs10
   obtain ⟨v5, hv5, hm⟩ := bind_some hm
   refine a0i ent28 rfl rfl rfl rfl hx18 (a1r _ _ _ _ hv5 hx18.sat hsx2) ?_
   rintro _ Fx9 _ wx17 hF9 hx19 ⟨as11, ns11, cs11, rfl, rfl, hs11⟩
   refine a0e rfl rfl rfl ?_
   have hG1 := (((hF5.trans hF6).trans hF7).trans hF8).trans hF9
   obtain ⟨v6, hv6, hm⟩ := bind_some hm
   refine a0i ent27 rfl rfl rfl rfl hx19 (a5h _ _ _ _ hv6 hx19.sat hs11 (hsx1.mono hG1)) ?_
   rintro _ Fx10 _ wx18 hF10 hx20 ⟨as12, ns12, cs12, as13, ns13, cs13, rfl, rfl, hs12, hs13⟩
   refine a0e rfl rfl rfl (a0j rfl rfl rfl rfl (a0j rfl rfl rfl rfl ?_))
   refine a1b ze37 rfl rfl rfl hx20 ?_
   intro b8 wx19 hx21
   refine a0p sz37 rfl hx21 rfl rfl rfl rfl (i := 0) rfl rfl rfl rfl ?_
   intro wx20 hx22
   refine a0b rfl rfl rfl (a0c (a0d (a0f (a0a ?_))))
   obtain ⟨v7, hv7, hm⟩ := bind_some hm
   refine a0i ent30 rfl rfl rfl rfl hx22 (a3b _ _ _ hv7 hx22.sat) ?_
   rintro _ Fx11 _ wx21 hF11 hx23 ⟨as14, ns14, cs14, rfl, rfl, hs14⟩
   refine a2b (v := .agg #[.int .i64 4, .int .i64 0, vs [103, 108, 97, 115, 115], .slice none 0 0]) rfl rfl rfl (fun _ => by kernel_rfl) ?_
   obtain ⟨v8, hv8, hm⟩ := bind_some hm
   refine a0i ent29 rfl rfl rfl rfl hx23 (a2v _ _ _ _ hv8 hx23.sat hs14 (SlR.nil _ _)) ?_
   rintro _ Fx12 _ wx22 hF12 hx24 ⟨as15, ns15, cs15, xss15, rfl, rfl, hs15⟩
   obtain ⟨Fx13, hF13, hx25, hsx3⟩ := a1c hx24 (i := 0) rfl hs15
   obtain ⟨v9, hv9, hm⟩ := bind_some hm
   refine a0i ent28 rfl rfl rfl rfl hx25 (a1r _ _ _ _ hv9 hx25.sat hsx3) ?_
   rintro _ Fx14 _ wx23 hF14 hx26 ⟨as16, ns16, cs16, rfl, rfl, hs16⟩
   refine a1b ze24 rfl rfl rfl hx26 ?_
   intro b9 wx24 hx27
   refine a0p sz24 rfl hx27 rfl rfl rfl rfl (i := 0) rfl rfl rfl rfl ?_
   intro wx25 hx28
   refine a0c (a0d ?_)
   obtain ⟨⟨f9, f10, f11, f12⟩, hb3, hm⟩ := bind_some hm
   refine c1n (fun a w' => ∃ (Fx15 : Frz) (b10 : Nat) (as17 : Option Addr) (ns17 : Nat) (cs17 : Nat), Frz.le Fx14 Fx15 ∧ HS F w [] Fx15 [.box b10 24 [.int .i64 f9, .int .i64 f10, vs f11, .slice as17 ns17 cs17], .box b9 24 [.int .i64 v9.Op, .int .i64 v9.N, vs v9.Name, .slice as16 ns16 cs16], .box b8 37 [.int .i64 v6.1.P.Sign, .slice as12 ns12 cs12, .int .i64 v6.1.Q.Sign, .slice as13 ns13 cs13], .box b7 24 [.int .i64 f5, .int .i64 f6, vs f7, .slice as9 ns9 cs9], .box b6 37 [.int .i64 f1, .slice as7 ns7 cs7, .int .i64 f3, .slice as8 ns8 cs8], .box b5 24 [.int .i64 2, .int .i64 0, vs [], .slice none 0 0], .box b4 24 [.int .i64 4, .int .i64 0, vs [112, 97, 112, 101, 114], .slice none 0 0], .box b2 37 [.int .i64 v2.1.P.Sign, .slice as3 ns3 cs3, .int .i64 v2.1.Q.Sign, .slice as4 ns4 cs4], .box b1 37 [.int .i64 v1.1.P.Sign, .slice as1 ns1 cs1, .int .i64 v1.1.Q.Sign, .slice as2 ns2 cs2]] w' ∧ (SlR rp_Expr Fx15 as17 ns17 cs17 f12) ∧ Has 129 a [(3, .pointer (some ⟨b2, 0, none⟩)), (5, .slice (some ⟨b3, 0, none⟩) 2 2), (8, .pointer (some ⟨b6, 0, none⟩)), (9, .int .i64 ex1), (11, .pointer (some ⟨b8, 0, none⟩)), (12, .int .i64 v6.2), (14, .pointer (some ⟨b10, 0, none⟩))]) ?_ ?_
   ·rintro a wx26 ⟨Fx15, b10, as17, ns17, cs17, hF15, hx29, hs17, hax3⟩
    refine a1i hax3 ?_
    refine a0f (a0a ?_)
    refine a0l ag24 sz24 rfl rfl hx29 rfl (i := 0) rfl rfl ?_
    refine a0e rfl rfl rfl ?_
    have hG2 := (((((hG1.trans hF10).trans hF11).trans hF12).trans hF13).trans hF14).trans hF15
    obtain ⟨v10, hv10, hm⟩ := bind_some hm
    refine a0i ent27 rfl rfl rfl rfl hx29 (a5h _ _ _ _ hv10 hx29.sat hs17 (hsx1.mono hG2)) ?_
    rintro _ Fx16 _ wx27 hF16 hx30 ⟨as18, ns18, cs18, as19, ns19, cs19, rfl, rfl, hs18, hs19⟩
    refine a0e rfl rfl rfl (a0j rfl rfl rfl rfl (a0j rfl rfl rfl rfl ?_))
    refine a1b ze37 rfl rfl rfl hx30 ?_
    intro b11 wx28 hx31
    refine a0p sz37 rfl hx31 rfl rfl rfl rfl (i := 0) rfl rfl rfl rfl ?_
    intro wx29 hx32
    refine a0b rfl rfl rfl (a0c (a0d (a0f (a0a ?_))))
    refine a0l ag24 sz24 rfl rfl hx32 rfl (i := 1) rfl rfl ?_
    refine a2b (v := .agg #[vs [97], .int .i64 f9, .int .i64 f10, vs f11, .slice as17 ns17 cs17, .int .i64 5]) rfl rfl rfl (fun _ => by kernel_rfl) ?_
    refine a1q (e := 9) (cs := [vs [112, 97, 112, 101, 114], vs [103, 108, 97, 115, 115]]) (q := 1) rfl rfl hx32 rfl (fun _ => by kernel_rfl) rfl rfl ?_
    intro b12 wx30 hx33
    refine a1q (e := 3) (cs := [.int .i64 4, .int .i64 0]) (q := 1) rfl rfl hx33 rfl (fun _ => by kernel_rfl) rfl rfl ?_
    intro b13 wx31 hx34
    obtain ⟨Fx17, hF17, hx35, hsx4⟩ := a1c hx34 (i := 0) rfl ((show RowN (Rp.int .i64) Fx16 2 [.int .i64 4, .int .i64 0] [4, 0] from ⟨rfl, ⟨_, _, rfl, rfl, ⟨_, _, rfl, rfl, (rfl : RowR (Rp.int .i64) _ [] [])⟩⟩⟩))
    refine a2b (v := .agg #[.slice (some ⟨b13, 0, none⟩) 2 2, .int .i64 3, .int .i64 1]) rfl rfl rfl (fun _ => by kernel_rfl) ?_
    refine a0e rfl rfl rfl ?_
    obtain ⟨Fx18, hF18, hx36, hsx5⟩ := a1c hx35 (i := 0) rfl ((show RowN Rp.str Fx16 2 [vs [112, 97, 112, 101, 114], vs [103, 108, 97, 115, 115]] [[112, 97, 112, 101, 114], [103, 108, 97, 115, 115]] from ⟨rfl, ⟨_, _, rfl, rfl, ⟨_, _, rfl, rfl, (rfl : RowR Rp.str _ [] [])⟩⟩⟩).mono hF17)
    obtain ⟨v11, hv11, hm⟩ := bind_some hm
    refine a0i ent10 rfl rfl rfl rfl hx36 (b1v _ _ _ _ _ _ hv11 hx36.sat (((hs17.mono hF16).mono hF17).mono hF18) hsx5 (hsx4.mono hF18) ((((hsx1.mono hG2).mono hF16).mono hF17).mono hF18)) ?_
    rintro _ Fx19 _ wx32 hF19 hx37 ⟨as20, ns20, cs20, as21, ns21, cs21, rfl, rfl, hs20, hs21⟩
    refine a0e rfl rfl rfl (a0j rfl rfl rfl rfl (a0j rfl rfl rfl rfl ?_))
    refine a1b ze37 rfl rfl rfl hx37 ?_
    intro b14 wx33 hx38
    refine a0p sz37 rfl hx38 rfl rfl rfl rfl (i := 0) rfl rfl rfl rfl ?_
    intro wx34 hx39
    refine a0b rfl rfl rfl (a0c (a0d (a0f (a0a ?_))))
    refine a2b (v := .agg #[.int .i64 4, .int .i64 0, vs [116, 105, 110], .slice none 0 0]) rfl rfl rfl (fun _ => by kernel_rfl) ?_
    refine a0e rfl rfl rfl ?_
    have hG3 := (((hG2.trans hF16).trans hF17).trans hF18).trans hF19
    obtain ⟨v12, hv12, hm⟩ := bind_some hm
    refine a0i ent27 rfl rfl rfl rfl hx39 (a5h _ _ _ _ hv12 hx39.sat (SlR.nil _ _) (hsx1.mono hG3)) ?_
    rintro _ Fx20 _ wx35 hF20 hx40 ⟨as22, ns22, cs22, as23, ns23, cs23, rfl, rfl, hs22, hs23⟩
    refine a0e rfl rfl rfl (a0j rfl rfl rfl rfl (a0j rfl rfl rfl rfl ?_))
    refine a1b ze37 rfl rfl rfl hx40 ?_
    intro b15 wx36 hx41
    refine a0p sz37 rfl hx41 rfl rfl rfl rfl (i := 0) rfl rfl rfl rfl ?_
    intro wx37 hx42
    refine a0b rfl rfl rfl (a0c (a0d (a0f (a0f (a0a (a0e rfl rfl rfl ?_))))))
    refine a0u rfl rfl rfl rfl rfl ?_
    refine a0e rfl rfl rfl ?_
    obtain ⟨v13, hb4, hm⟩ := bind_some hm
    refine a2r 3 (fun a w' => wx37 = w' ∧ Has 129 a [(3, .pointer (some ⟨b2, 0, none⟩)), (8, .pointer (some ⟨b6, 0, none⟩)), (11, .pointer (some ⟨b8, 0, none⟩)), (15, .pointer (some ⟨b11, 0, none⟩)), (16, .int .i64 v10.2), (17, .pointer (some ⟨b14, 0, none⟩)), (18, .int .i64 v11.2), (20, .int .i64 v12.2), (98, .bool v13)]) ?_ ?_
    ·rintro a wx38 ⟨rfl, hax4⟩
     refine a1f hax4 ?_
     refine a0e rfl rfl rfl ?_
     obtain ⟨v14, hb5, hm⟩ := bind_some hm
     refine a2r 3 (fun a w' => wx37 = w' ∧ Has 129 a [(3, .pointer (some ⟨b2, 0, none⟩)), (8, .pointer (some ⟨b6, 0, none⟩)), (11, .pointer (some ⟨b8, 0, none⟩)), (15, .pointer (some ⟨b11, 0, none⟩)), (17, .pointer (some ⟨b14, 0, none⟩)), (18, .int .i64 v11.2), (20, .int .i64 v12.2), (102, .bool v14)]) ?_ ?_
     ·rintro a wx39 ⟨rfl, hax5⟩
      refine a1f hax5 ?_
      refine a0e rfl rfl rfl ?_
      obtain ⟨v15, hb6, hm⟩ := bind_some hm
      refine a2r 3 (fun a w' => wx37 = w' ∧ Has 129 a [(3, .pointer (some ⟨b2, 0, none⟩)), (8, .pointer (some ⟨b6, 0, none⟩)), (11, .pointer (some ⟨b8, 0, none⟩)), (15, .pointer (some ⟨b11, 0, none⟩)), (17, .pointer (some ⟨b14, 0, none⟩)), (20, .int .i64 v12.2), (106, .bool v15)]) ?_ ?_
      ·rintro a wx40 ⟨rfl, hax6⟩
       refine a1f hax6 ?_
       refine a0e rfl rfl rfl ?_
       obtain ⟨v16, hb7, hm⟩ := bind_some hm
       refine a2r 3 (fun a w' => wx37 = w' ∧ Has 129 a [(3, .pointer (some ⟨b2, 0, none⟩)), (8, .pointer (some ⟨b6, 0, none⟩)), (11, .pointer (some ⟨b8, 0, none⟩)), (15, .pointer (some ⟨b11, 0, none⟩)), (17, .pointer (some ⟨b14, 0, none⟩)), (110, .bool v16)]) ?_ ?_
       ·rintro a wx41 ⟨rfl, hax7⟩
        refine a1f hax7 ?_
        refine a0c (a0d ?_)
        rcases a0g hm with ⟨hb8, hm⟩ | ⟨hb8, hm⟩
        ·refine a0t 110 rfl hb8 ?_
         refine a0y rfl (a0f (a0a (a0b rfl rfl rfl (a0c (a0d (a1d (a0k ?_)))))))
         refine a1l rfl rfl ?_
         obtain rfl := Option.some.inj hm
         exact ⟨_, _, _, rfl, hx42.pick [] (by decide) rfl, rfl, rfl⟩
        ·refine a0t 110 rfl hb8 ?_
         refine a0s rfl (a1e (a0d (a0f ?_)))
         refine a1w (SH Fx20 [.box b15 37 [.int .i64 v12.1.P.Sign, .slice as22 ns22 cs22, .int .i64 v12.1.Q.Sign, .slice as23 ns23 cs23], .box b14 37 [.int .i64 v11.1.P.Sign, .slice as20 ns20 cs20, .int .i64 v11.1.Q.Sign, .slice as21 ns21 cs21], .box b11 37 [.int .i64 v10.1.P.Sign, .slice as18 ns18 cs18, .int .i64 v10.1.Q.Sign, .slice as19 ns19 cs19], .box b10 24 [.int .i64 f9, .int .i64 f10, vs f11, .slice as17 ns17 cs17], .box b9 24 [.int .i64 v9.Op, .int .i64 v9.N, vs v9.Name, .slice as16 ns16 cs16], .box b8 37 [.int .i64 v6.1.P.Sign, .slice as12 ns12 cs12, .int .i64 v6.1.Q.Sign, .slice as13 ns13 cs13], .box b7 24 [.int .i64 f5, .int .i64 f6, vs f7, .slice as9 ns9 cs9], .box b6 37 [.int .i64 f1, .slice as7 ns7 cs7, .int .i64 f3, .slice as8 ns8 cs8], .box b5 24 [.int .i64 2, .int .i64 0, vs [], .slice none 0 0], .box b4 24 [.int .i64 4, .int .i64 0, vs [112, 97, 112, 101, 114], .slice none 0 0], .box b2 37 [.int .i64 v2.1.P.Sign, .slice as3 ns3 cs3, .int .i64 v2.1.Q.Sign, .slice as4 ns4 cs4], .box b1 37 [.int .i64 v1.1.P.Sign, .slice as1 ns1 cs1, .int .i64 v1.1.Q.Sign, .slice as2 ns2 cs2]]) 19 rfl (by kernel_rfl) hx42 ?_
         intro wx42 hx43
         refine d_tk 0 rfl (by kernel_rfl) rfl rfl rfl rfl (hx43.sh (Frz.refl _) [0, 1, 2, 3, 4, 5, 6, 7, 8, 9, 10, 11] (by decide) rfl) (fun _ _ _ _ hq => a0l ag37 sz37 rfl rfl hq rfl (i := 7) rfl rfl (a0c (qq rfl))) ?_
         refine d_tk 1 rfl (by kernel_rfl) rfl rfl rfl rfl (hx43.sh (Frz.refl _) [0, 1, 2, 3, 4, 5, 6, 7, 8, 9, 10, 11] (by decide) rfl) (fun _ _ _ _ hq => a0l ag37 sz37 rfl rfl hq rfl (i := 10) rfl rfl (a0c (qq rfl))) ?_
         refine a0v 2 rfl (by kernel_rfl) ?_
         have hG4 := (((((((((((((hF6.trans hF7).trans hF8).trans hF9).trans hF10).trans hF11).trans hF12).trans hF13).trans hF14).trans hF15).trans hF16).trans hF17).trans hF18).trans hF19).trans hF20
         have hG5 := ((((((((((((((((hF3.trans hF4).trans hF5).trans hF6).trans hF7).trans hF8).trans hF9).trans hF10).trans hF11).trans hF12).trans hF13).trans hF14).trans hF15).trans hF16).trans hF17).trans hF18).trans hF19).trans hF20
         obtain ⟨v17, hv13, hm⟩ := bind_some hm
         refine a0i ent12 rfl rfl rfl rfl hx43 (a9z _ _ _ _ hv13 hx43.sat (hs7.mono hG4) (hs8.mono hG4) (hs3.mono hG5) (hs4.mono hG5)) ?_
         rintro _ Fx21 _ wx43 hF21 hx44 ⟨rfl, rfl⟩
         refine a0o (hx44.sh hF21 [0, 1, 2, 3, 4, 5, 6, 7, 8, 9, 10, 11] (by decide) rfl) ?_
         refine d_tk 3 rfl (by kernel_rfl) rfl rfl rfl rfl (hx44.sh hF21 [0, 1, 2, 3, 4, 5, 6, 7, 8, 9, 10, 11] (by decide) rfl) (fun _ _ _ _ _ => a0e rfl rfl rfl (a0c (qq rfl))) ?_
         obtain ⟨v18, hb9, hm⟩ := bind_some hm
         refine c2d (fuel' := 11) (listed' := #[true, true, true, true, true, true, true, true, false, false, false, false, false, false, false, false, false, false, false]) (fun a w' => ∃ (Fx22 : Frz), Frz.le Fx21 Fx22 ∧ HS F w [] Fx22 [.box b15 37 [.int .i64 v12.1.P.Sign, .slice as22 ns22 cs22, .int .i64 v12.1.Q.Sign, .slice as23 ns23 cs23], .box b14 37 [.int .i64 v11.1.P.Sign, .slice as20 ns20 cs20, .int .i64 v11.1.Q.Sign, .slice as21 ns21 cs21], .box b11 37 [.int .i64 v10.1.P.Sign, .slice as18 ns18 cs18, .int .i64 v10.1.Q.Sign, .slice as19 ns19 cs19], .box b10 24 [.int .i64 f9, .int .i64 f10, vs f11, .slice as17 ns17 cs17], .box b9 24 [.int .i64 v9.Op, .int .i64 v9.N, vs v9.Name, .slice as16 ns16 cs16], .box b8 37 [.int .i64 v6.1.P.Sign, .slice as12 ns12 cs12, .int .i64 v6.1.Q.Sign, .slice as13 ns13 cs13], .box b7 24 [.int .i64 f5, .int .i64 f6, vs f7, .slice as9 ns9 cs9], .box b6 37 [.int .i64 f1, .slice as7 ns7 cs7, .int .i64 f3, .slice as8 ns8 cs8], .box b5 24 [.int .i64 2, .int .i64 0, vs [], .slice none 0 0], .box b4 24 [.int .i64 4, .int .i64 0, vs [112, 97, 112, 101, 114], .slice none 0 0], .box b2 37 [.int .i64 v2.1.P.Sign, .slice as3 ns3 cs3, .int .i64 v2.1.Q.Sign, .slice as4 ns4 cs4], .box b1 37 [.int .i64 v1.1.P.Sign, .slice as1 ns1 cs1, .int .i64 v1.1.Q.Sign, .slice as2 ns2 cs2]] w' ∧ Has 129 a [(15, .pointer (some ⟨b11, 0, none⟩)), (17, .pointer (some ⟨b14, 0, none⟩)), (118, .bool v18)]) ?_ (fun hK1 => ?_)
         ·rintro a wx44 ⟨Fx22, hF22, hx45, hax8⟩
          refine b2f hax8 ?_
          refine d_tk 8 rfl (by kernel_rfl) rfl rfl rfl rfl (hx45.sh (hF21.trans hF22) [0, 1, 2, 3, 4, 5, 6, 7, 8, 9, 10, 11] (by decide) rfl) (fun _ _ _ _ _ => a0e rfl rfl rfl (a0c (qq rfl))) ?_
          obtain ⟨v19, hb10, hm⟩ := bind_some hm
          refine c2d (fuel' := 6) (listed' := #[true, true, true, true, true, true, true, true, true, true, true, true, true, false, false, false, false, false, false]) (fun a w' => ∃ (Fx23 : Frz), Frz.le Fx22 Fx23 ∧ HS F w [] Fx23 [.box b15 37 [.int .i64 v12.1.P.Sign, .slice as22 ns22 cs22, .int .i64 v12.1.Q.Sign, .slice as23 ns23 cs23], .box b14 37 [.int .i64 v11.1.P.Sign, .slice as20 ns20 cs20, .int .i64 v11.1.Q.Sign, .slice as21 ns21 cs21], .box b11 37 [.int .i64 v10.1.P.Sign, .slice as18 ns18 cs18, .int .i64 v10.1.Q.Sign, .slice as19 ns19 cs19], .box b10 24 [.int .i64 f9, .int .i64 f10, vs f11, .slice as17 ns17 cs17], .box b9 24 [.int .i64 v9.Op, .int .i64 v9.N, vs v9.Name, .slice as16 ns16 cs16], .box b8 37 [.int .i64 v6.1.P.Sign, .slice as12 ns12 cs12, .int .i64 v6.1.Q.Sign, .slice as13 ns13 cs13], .box b7 24 [.int .i64 f5, .int .i64 f6, vs f7, .slice as9 ns9 cs9], .box b6 37 [.int .i64 f1, .slice as7 ns7 cs7, .int .i64 f3, .slice as8 ns8 cs8], .box b5 24 [.int .i64 2, .int .i64 0, vs [], .slice none 0 0], .box b4 24 [.int .i64 4, .int .i64 0, vs [112, 97, 112, 101, 114], .slice none 0 0], .box b2 37 [.int .i64 v2.1.P.Sign, .slice as3 ns3 cs3, .int .i64 v2.1.Q.Sign, .slice as4 ns4 cs4], .box b1 37 [.int .i64 v1.1.P.Sign, .slice as1 ns1 cs1, .int .i64 v1.1.Q.Sign, .slice as2 ns2 cs2]] w' ∧ Has 129 a [(17, .pointer (some ⟨b14, 0, none⟩)), (123, .bool v19)]) ?_ (fun hK2 => ?_)
          ·rintro a wx45 ⟨Fx23, hF23, hx46, hax9⟩
           refine b2f hax9 ?_
           refine d_tk 13 rfl (by kernel_rfl) rfl rfl rfl rfl (hx46.sh ((hF21.trans hF22).trans hF23) [0, 1, 2, 3, 4, 5, 6, 7, 8, 9, 10, 11] (by decide) rfl) (fun _ _ _ _ _ => a0e rfl rfl rfl (a0c (qq rfl))) ?_
           obtain ⟨v20, hb11, hm⟩ := bind_some hm
           refine c2d (fuel' := 1) (listed' := #[true, true, true, true, true, true, true, true, true, true, true, true, true, true, true, true, true, true, false]) (fun a w' => ∃ (Fx24 : Frz), Frz.le Fx23 Fx24 ∧ HS F w [] Fx24 [.box b15 37 [.int .i64 v12.1.P.Sign, .slice as22 ns22 cs22, .int .i64 v12.1.Q.Sign, .slice as23 ns23 cs23], .box b14 37 [.int .i64 v11.1.P.Sign, .slice as20 ns20 cs20, .int .i64 v11.1.Q.Sign, .slice as21 ns21 cs21], .box b11 37 [.int .i64 v10.1.P.Sign, .slice as18 ns18 cs18, .int .i64 v10.1.Q.Sign, .slice as19 ns19 cs19], .box b10 24 [.int .i64 f9, .int .i64 f10, vs f11, .slice as17 ns17 cs17], .box b9 24 [.int .i64 v9.Op, .int .i64 v9.N, vs v9.Name, .slice as16 ns16 cs16], .box b8 37 [.int .i64 v6.1.P.Sign, .slice as12 ns12 cs12, .int .i64 v6.1.Q.Sign, .slice as13 ns13 cs13], .box b7 24 [.int .i64 f5, .int .i64 f6, vs f7, .slice as9 ns9 cs9], .box b6 37 [.int .i64 f1, .slice as7 ns7 cs7, .int .i64 f3, .slice as8 ns8 cs8], .box b5 24 [.int .i64 2, .int .i64 0, vs [], .slice none 0 0], .box b4 24 [.int .i64 4, .int .i64 0, vs [112, 97, 112, 101, 114], .slice none 0 0], .box b2 37 [.int .i64 v2.1.P.Sign, .slice as3 ns3 cs3, .int .i64 v2.1.Q.Sign, .slice as4 ns4 cs4], .box b1 37 [.int .i64 v1.1.P.Sign, .slice as1 ns1 cs1, .int .i64 v1.1.Q.Sign, .slice as2 ns2 cs2]] w' ∧ Has 129 a [(128, .bool v20)]) ?_ (fun hK3 => ?_)
           ·rintro a wx46 ⟨Fx24, hF24, hx47, hax10⟩
            refine b2f hax10 ?_
            refine d_tk 18 rfl (by kernel_rfl) rfl rfl rfl rfl (hx47.sh (((hF21.trans hF22).trans hF23).trans hF24) [0, 1, 2, 3, 4, 5, 6, 7, 8, 9, 10, 11] (by decide) rfl) (fun _ _ _ _ _ => a0b rfl rfl rfl (a0c (qq rfl))) ?_
            refine a2g (by kernel_rfl) ?_
            refine a0d (a1d ?_)
            refine a1l rfl rfl ?_
            obtain rfl := Option.some.inj hm
            exact ⟨_, _, _, rfl, hx47.pick [] (by decide) rfl, rfl, rfl⟩
           ·clear hm
            rcases a0g hb11 with ⟨hb12, hb11⟩ | ⟨hb12, hb11⟩
            ·refine b5a 124 rfl hb12 ?_
             refine d_tk 14 rfl (by kernel_rfl) rfl rfl rfl rfl (hx46.sh ((hF21.trans hF22).trans hF23) [0, 1, 2, 3, 4, 5, 6, 7, 8, 9, 10, 11] (by decide) rfl) (fun _ _ _ _ hq => a0l ag37 sz37 rfl rfl hq rfl (i := 1) rfl rfl (a0c (qq rfl))) ?_
             refine a0v 15 rfl (by kernel_rfl) ?_
             obtain ⟨v21, hv14, hb11⟩ := bind_some hb11
             refine a0i ent17 rfl rfl rfl rfl hx46 (a6a _ _ _ hv14 hx46.sat) ?_
             rintro _ Fx25 _ wx47 hF25 hx48 ⟨as24, ns24, cs24, as25, ns25, cs25, rfl, rfl, hs24, hs25⟩
             refine a0o (hx48.sh (((hF21.trans hF22).trans hF23).trans hF25) [0, 1, 2, 3, 4, 5, 6, 7, 8, 9, 10, 11] (by decide) rfl) ?_
             refine a0v 16 rfl (by kernel_rfl) ?_
             have hG6 := (((hF20.trans hF21).trans hF22).trans hF23).trans hF25
             obtain ⟨v22, hv15, hb11⟩ := bind_some hb11
             refine a0i ent12 rfl rfl rfl rfl hx48 (a9z _ _ _ _ hv15 hx48.sat (hs20.mono hG6) (hs21.mono hG6) hs24 hs25) ?_
             rintro _ Fx26 _ wx48 hF26 hx49 ⟨rfl, rfl⟩
             refine a0o (hx49.sh ((((hF21.trans hF22).trans hF23).trans hF25).trans hF26) [0, 1, 2, 3, 4, 5, 6, 7, 8, 9, 10, 11] (by decide) rfl) ?_
             refine d_tk 17 rfl (by kernel_rfl) rfl rfl rfl rfl (hx49.sh ((((hF21.trans hF22).trans hF23).trans hF25).trans hF26) [0, 1, 2, 3, 4, 5, 6, 7, 8, 9, 10, 11] (by decide) rfl) (fun _ _ _ _ _ => a0q rfl rfl rfl rfl (a0c (qq rfl))) ?_
             refine b4w hK3 (by kernel_rfl) (fun a ha => ?_)
             cases hb11
             exact ⟨_, (hF25.trans hF26), hx49.pick [0, 1, 2, 3, 4, 5, 6, 7, 8, 9, 10, 11] (by decide) rfl, ha.cut (l := [128]) rfl⟩
            ·refine b5a 124 rfl hb12 ?_
             refine d_of 14 rfl (by kernel_rfl) rfl rfl rfl (hx46.sh ((hF21.trans hF22).trans hF23) [0, 1, 2, 3, 4, 5, 6, 7, 8, 9, 10, 11] (by decide) rfl) ?_
             refine d_of 15 rfl (by kernel_rfl) rfl rfl rfl (hx46.sh ((hF21.trans hF22).trans hF23) [0, 1, 2, 3, 4, 5, 6, 7, 8, 9, 10, 11] (by decide) rfl) ?_
             refine d_of 16 rfl (by kernel_rfl) rfl rfl rfl (hx46.sh ((hF21.trans hF22).trans hF23) [0, 1, 2, 3, 4, 5, 6, 7, 8, 9, 10, 11] (by decide) rfl) ?_
             refine d_tk 17 rfl (by kernel_rfl) rfl rfl rfl rfl (hx46.sh ((hF21.trans hF22).trans hF23) [0, 1, 2, 3, 4, 5, 6, 7, 8, 9, 10, 11] (by decide) rfl) (fun _ _ _ _ _ => a0m rfl rfl rfl rfl (a0c (qq rfl))) ?_
             refine b4w hK3 (by kernel_rfl) (fun a ha => ?_)
             cases hb11
             exact ⟨_, Frz.refl _, hx46.pick [0, 1, 2, 3, 4, 5, 6, 7, 8, 9, 10, 11] (by decide) rfl, ha.cut (l := [128]) rfl⟩
          ·clear hm
           rcases a0g hb10 with ⟨hb13, hb10⟩ | ⟨hb13, hb10⟩
           ·refine b5a 119 rfl hb13 ?_
            refine d_tk 9 rfl (by kernel_rfl) rfl rfl rfl rfl (hx45.sh (hF21.trans hF22) [0, 1, 2, 3, 4, 5, 6, 7, 8, 9, 10, 11] (by decide) rfl) (fun _ _ _ _ hq => a0l ag37 sz37 rfl rfl hq rfl (i := 2) rfl rfl (a0c (qq rfl))) ?_
            refine a0v 10 rfl (by kernel_rfl) ?_
            obtain ⟨v23, hv16, hb10⟩ := bind_some hb10
            refine a0i ent17 rfl rfl rfl rfl hx45 (a6a _ _ _ hv16 hx45.sat) ?_
            rintro _ Fx27 _ wx49 hF27 hx50 ⟨as26, ns26, cs26, as27, ns27, cs27, rfl, rfl, hs26, hs27⟩
            refine a0o (hx50.sh ((hF21.trans hF22).trans hF27) [0, 1, 2, 3, 4, 5, 6, 7, 8, 9, 10, 11] (by decide) rfl) ?_
            refine a0v 11 rfl (by kernel_rfl) ?_
            have hG7 := (((((hF17.trans hF18).trans hF19).trans hF20).trans hF21).trans hF22).trans hF27
            obtain ⟨v24, hv17, hb10⟩ := bind_some hb10
            refine a0i ent12 rfl rfl rfl rfl hx50 (a9z _ _ _ _ hv17 hx50.sat (hs18.mono hG7) (hs19.mono hG7) hs26 hs27) ?_
            rintro _ Fx28 _ wx50 hF28 hx51 ⟨rfl, rfl⟩
            refine a0o (hx51.sh (((hF21.trans hF22).trans hF27).trans hF28) [0, 1, 2, 3, 4, 5, 6, 7, 8, 9, 10, 11] (by decide) rfl) ?_
            refine d_tk 12 rfl (by kernel_rfl) rfl rfl rfl rfl (hx51.sh (((hF21.trans hF22).trans hF27).trans hF28) [0, 1, 2, 3, 4, 5, 6, 7, 8, 9, 10, 11] (by decide) rfl) (fun _ _ _ _ _ => a0q rfl rfl rfl rfl (a0c (qq rfl))) ?_
            refine b4w hK2 (by kernel_rfl) (fun a ha => ?_)
            cases hb10
            exact ⟨_, (hF27.trans hF28), hx51.pick [0, 1, 2, 3, 4, 5, 6, 7, 8, 9, 10, 11] (by decide) rfl, ha.cut (l := [17, 123]) rfl⟩
           ·refine b5a 119 rfl hb13 ?_
            refine d_of 9 rfl (by kernel_rfl) rfl rfl rfl (hx45.sh (hF21.trans hF22) [0, 1, 2, 3, 4, 5, 6, 7, 8, 9, 10, 11] (by decide) rfl) ?_
            refine d_of 10 rfl (by kernel_rfl) rfl rfl rfl (hx45.sh (hF21.trans hF22) [0, 1, 2, 3, 4, 5, 6, 7, 8, 9, 10, 11] (by decide) rfl) ?_
            refine d_of 11 rfl (by kernel_rfl) rfl rfl rfl (hx45.sh (hF21.trans hF22) [0, 1, 2, 3, 4, 5, 6, 7, 8, 9, 10, 11] (by decide) rfl) ?_
            refine d_tk 12 rfl (by kernel_rfl) rfl rfl rfl rfl (hx45.sh (hF21.trans hF22) [0, 1, 2, 3, 4, 5, 6, 7, 8, 9, 10, 11] (by decide) rfl) (fun _ _ _ _ _ => a0m rfl rfl rfl rfl (a0c (qq rfl))) ?_
            refine b4w hK2 (by kernel_rfl) (fun a ha => ?_)
            cases hb10
            exact ⟨_, Frz.refl _, hx45.pick [0, 1, 2, 3, 4, 5, 6, 7, 8, 9, 10, 11] (by decide) rfl, ha.cut (l := [17, 123]) rfl⟩
         ·clear hm
          rcases a0g hb9 with ⟨hb14, hb9⟩ | ⟨hb14, hb9⟩
          ·refine b5a 114 rfl hb14 ?_
           refine d_tk 4 rfl (by kernel_rfl) rfl rfl rfl rfl (hx44.sh hF21 [0, 1, 2, 3, 4, 5, 6, 7, 8, 9, 10, 11] (by decide) rfl) (fun _ _ _ _ hq => a0l ag37 sz37 rfl rfl hq rfl (i := 5) rfl rfl (a0c (qq rfl))) ?_
           refine a0v 5 rfl (by kernel_rfl) ?_
           obtain ⟨v25, hv18, hb9⟩ := bind_some hb9
           refine a0i ent17 rfl rfl rfl rfl hx44 (a6a _ _ _ hv18 hx44.sat) ?_
           rintro _ Fx29 _ wx51 hF29 hx52 ⟨as28, ns28, cs28, as29, ns29, cs29, rfl, rfl, hs28, hs29⟩
           refine a0o (hx52.sh (hF21.trans hF29) [0, 1, 2, 3, 4, 5, 6, 7, 8, 9, 10, 11] (by decide) rfl) ?_
           refine a0v 6 rfl (by kernel_rfl) ?_
           have hG8 := ((((((((((hF11.trans hF12).trans hF13).trans hF14).trans hF15).trans hF16).trans hF17).trans hF18).trans hF19).trans hF20).trans hF21).trans hF29
           obtain ⟨v26, hv19, hb9⟩ := bind_some hb9
           refine a0i ent12 rfl rfl rfl rfl hx52 (a9z _ _ _ _ hv19 hx52.sat (hs12.mono hG8) (hs13.mono hG8) hs28 hs29) ?_
           rintro _ Fx30 _ wx52 hF30 hx53 ⟨rfl, rfl⟩
           refine a0o (hx53.sh ((hF21.trans hF29).trans hF30) [0, 1, 2, 3, 4, 5, 6, 7, 8, 9, 10, 11] (by decide) rfl) ?_
           refine d_tk 7 rfl (by kernel_rfl) rfl rfl rfl rfl (hx53.sh ((hF21.trans hF29).trans hF30) [0, 1, 2, 3, 4, 5, 6, 7, 8, 9, 10, 11] (by decide) rfl) (fun _ _ _ _ _ => a0q rfl rfl rfl rfl (a0c (qq rfl))) ?_
           refine b4w hK1 (by kernel_rfl) (fun a ha => ?_)
           cases hb9
           exact ⟨_, (hF29.trans hF30), hx53.pick [0, 1, 2, 3, 4, 5, 6, 7, 8, 9, 10, 11] (by decide) rfl, ha.cut (l := [15, 17, 118]) rfl⟩
          ·refine b5a 114 rfl hb14 ?_
           refine d_of 4 rfl (by kernel_rfl) rfl rfl rfl (hx44.sh hF21 [0, 1, 2, 3, 4, 5, 6, 7, 8, 9, 10, 11] (by decide) rfl) ?_
           refine d_of 5 rfl (by kernel_rfl) rfl rfl rfl (hx44.sh hF21 [0, 1, 2, 3, 4, 5, 6, 7, 8, 9, 10, 11] (by decide) rfl) ?_
           refine d_of 6 rfl (by kernel_rfl) rfl rfl rfl (hx44.sh hF21 [0, 1, 2, 3, 4, 5, 6, 7, 8, 9, 10, 11] (by decide) rfl) ?_
           refine d_tk 7 rfl (by kernel_rfl) rfl rfl rfl rfl (hx44.sh hF21 [0, 1, 2, 3, 4, 5, 6, 7, 8, 9, 10, 11] (by decide) rfl) (fun _ _ _ _ _ => a0m rfl rfl rfl rfl (a0c (qq rfl))) ?_
           refine b4w hK1 (by kernel_rfl) (fun a ha => ?_)
           cases hb9
           exact ⟨_, Frz.refl _, hx44.pick [0, 1, 2, 3, 4, 5, 6, 7, 8, 9, 10, 11] (by decide) rfl, ha.cut (l := [15, 17, 118]) rfl⟩
       ·clear hm
        rcases a0g hb7 with ⟨hb15, hb7⟩ | ⟨hb15, hb7⟩
        ·refine a1j 107 rfl hb15 ?_
         refine a0z rfl (by decide) rfl (a0z rfl (by decide) rfl (a0q rfl rfl rfl rfl (a0c ?_)))
         refine a0n (fun a ha => ?_)
         cases hb7
         exact ⟨rfl, ha.cut (l := [3, 8, 11, 15, 17, 110]) rfl⟩
        ·refine a1j 107 rfl hb15 ?_
         refine a0e rfl rfl rfl ?_
         refine a0u rfl rfl rfl rfl rfl ?_
         refine a0m rfl rfl rfl rfl (a0c ?_)
         refine a0n (fun a ha => ?_)
         cases hb7
         exact ⟨rfl, ha.cut (l := [3, 8, 11, 15, 17, 110]) rfl⟩
      ·clear hm
       rcases a0g hb6 with ⟨hb16, hb6⟩ | ⟨hb16, hb6⟩
       ·refine a1j 103 rfl hb16 ?_
        refine a0z rfl (by decide) rfl (a0z rfl (by decide) rfl (a0q rfl rfl rfl rfl (a0c ?_)))
        refine a0n (fun a ha => ?_)
        cases hb6
        exact ⟨rfl, ha.cut (l := [3, 8, 11, 15, 17, 20, 106]) rfl⟩
       ·refine a1j 103 rfl hb16 ?_
        refine a0e rfl rfl rfl ?_
        refine a0u rfl rfl rfl rfl rfl ?_
        refine a0m rfl rfl rfl rfl (a0c ?_)
        refine a0n (fun a ha => ?_)
        cases hb6
        exact ⟨rfl, ha.cut (l := [3, 8, 11, 15, 17, 20, 106]) rfl⟩
     ·clear hm
      rcases a0g hb5 with ⟨hb17, hb5⟩ | ⟨hb17, hb5⟩
      ·refine a1j 99 rfl hb17 ?_
       refine a0z rfl (by decide) rfl (a0z rfl (by decide) rfl (a0q rfl rfl rfl rfl (a0c ?_)))
       refine a0n (fun a ha => ?_)
       cases hb5
       exact ⟨rfl, ha.cut (l := [3, 8, 11, 15, 17, 18, 20, 102]) rfl⟩
      ·refine a1j 99 rfl hb17 ?_
       refine a0e rfl rfl rfl ?_
       refine a0u rfl rfl rfl rfl rfl ?_
       refine a0m rfl rfl rfl rfl (a0c ?_)
       refine a0n (fun a ha => ?_)
       cases hb5
       exact ⟨rfl, ha.cut (l := [3, 8, 11, 15, 17, 18, 20, 102]) rfl⟩
    ·clear hm
     rcases a0g hb4 with ⟨hb18, hb4⟩ | ⟨hb18, hb4⟩
     ·refine a1j 95 rfl hb18 ?_
      refine a0z rfl (by decide) rfl (a0z rfl (by decide) rfl (a0q rfl rfl rfl rfl (a0c ?_)))
      refine a0n (fun a ha => ?_)
      cases hb4
      exact ⟨rfl, ha.cut (l := [3, 8, 11, 15, 16, 17, 18, 20, 98]) rfl⟩
     ·refine a1j 95 rfl hb18 ?_
      refine a0e rfl rfl rfl ?_
      refine a0u rfl rfl rfl rfl rfl ?_
      refine a0m rfl rfl rfl rfl (a0c ?_)
      refine a0n (fun a ha => ?_)
      cases hb4
      exact ⟨rfl, ha.cut (l := [3, 8, 11, 15, 16, 17, 18, 20, 98]) rfl⟩
   ·clear hm
    refine a1w (SH Fx14 [.box b9 24 [.int .i64 v9.Op, .int .i64 v9.N, vs v9.Name, .slice as16 ns16 cs16], .box b8 37 [.int .i64 v6.1.P.Sign, .slice as12 ns12 cs12, .int .i64 v6.1.Q.Sign, .slice as13 ns13 cs13], .box b7 24 [.int .i64 f5, .int .i64 f6, vs f7, .slice as9 ns9 cs9], .box b6 37 [.int .i64 f1, .slice as7 ns7 cs7, .int .i64 f3, .slice as8 ns8 cs8], .box b5 24 [.int .i64 2, .int .i64 0, vs [], .slice none 0 0], .box b4 24 [.int .i64 4, .int .i64 0, vs [112, 97, 112, 101, 114], .slice none 0 0], .box b2 37 [.int .i64 v2.1.P.Sign, .slice as3 ns3 cs3, .int .i64 v2.1.Q.Sign, .slice as4 ns4 cs4], .box b1 37 [.int .i64 v1.1.P.Sign, .slice as1 ns1 cs1, .int .i64 v1.1.Q.Sign, .slice as2 ns2 cs2]]) 10 rfl (by kernel_rfl) hx28 ?_
    intro wx53 hx54
    refine d_tk 0 rfl (by kernel_rfl) rfl rfl rfl rfl (hx54.sh (Frz.refl _) [0, 1, 2, 3, 4, 5, 6, 7] (by decide) rfl) (fun _ _ _ _ hq => a0l ag24 sz24 rfl rfl hq rfl (i := 4) rfl rfl (a0c (qq rfl))) ?_
    refine d_tk 5 rfl (by kernel_rfl) rfl rfl rfl rfl (hx54.sh (Frz.refl _) [0, 1, 2, 3, 4, 5, 6, 7] (by decide) rfl) (fun _ _ _ _ hq => a0l ag24 sz24 rfl rfl hq rfl (i := 0) rfl rfl (a0c (qq rfl))) ?_
    refine a9g 1 8 rfl rfl (by kernel_rfl) ?_ ?_
    ·obtain ⟨v27, hv20, hb3⟩ := bind_some hb3
     refine a0i ent30 rfl rfl rfl rfl hx54 (a3b _ _ _ hv20 hx54.sat) ?_
     rintro _ Fx31 _ wx54 hF31 hx55 ⟨as30, ns30, cs30, rfl, rfl, hs30⟩
     refine a0o (hx55.sh hF31 [0, 1, 2, 3, 4, 5, 6, 7] (by decide) rfl) ?_
     refine a9g 2 8 rfl rfl (by kernel_rfl) ?_ ?_
     ·obtain ⟨v28, hv21, hb3⟩ := bind_some hb3
      refine a0i ent29 rfl rfl rfl rfl hx55 (a2v _ _ _ _ hv21 hx55.sat (SlR.nil _ _) hs30) ?_
      rintro _ Fx32 _ wx55 hF32 hx56 ⟨as31, ns31, cs31, xss31, rfl, rfl, hs31⟩
      refine a0o (hx56.sh (hF31.trans hF32) [1, 2, 3, 4, 5, 6, 7, 8] (by decide) rfl) ?_
      refine a9g 3 8 rfl rfl (by kernel_rfl) ?_ ?_
      ·obtain ⟨Fx33, hF33, hx57, hsx6⟩ := a1c hx56 (i := 0) rfl hs31
       obtain ⟨v29, hv22, hb3⟩ := bind_some hb3
       refine a0i ent28 rfl rfl rfl rfl hx57 (a1r _ _ _ _ hv22 hx57.sat hsx6) ?_
       rintro _ Fx34 _ wx56 hF34 hx58 ⟨as32, ns32, cs32, rfl, rfl, hs32⟩
       refine a0o (hx58.sh (((hF31.trans hF32).trans hF33).trans hF34) [0, 1, 2, 3, 4, 5, 6, 7] (by decide) rfl) ?_
       refine a9g 4 8 rfl rfl (by kernel_rfl) ?_ ?_
       ·obtain ⟨v30, hv23, hb3⟩ := bind_some hb3
        refine a0i ent30 rfl rfl rfl rfl hx58 (a3b _ _ _ hv23 hx58.sat) ?_
        rintro _ Fx35 _ wx57 hF35 hx59 ⟨as33, ns33, cs33, rfl, rfl, hs33⟩
        refine a0o (hx59.sh ((((hF31.trans hF32).trans hF33).trans hF34).trans hF35) [0, 1, 2, 3, 4, 5, 6, 7] (by decide) rfl) ?_
        refine a9g 6 8 rfl rfl (by kernel_rfl) ?_ ?_
        ·refine a1q (e := 24) (cs := [.int .i64 v29.Op, .int .i64 v29.N, vs v29.Name, .slice as32 ns32 cs32, .int .i64 v30.Op, .int .i64 v30.N, vs v30.Name, .slice as33 ns33 cs33, .int .i64 v9.Op, .int .i64 v9.N, vs v9.Name, .slice as16 ns16 cs16]) (q := 4) rfl rfl hx59 rfl (fun _ => by kernel_rfl) rfl rfl ?_
         intro b16 wx58 hx60
         refine a0o (hx60.sh ((((hF31.trans hF32).trans hF33).trans hF34).trans hF35) [1, 2, 3, 4, 5, 6, 7, 8] (by decide) rfl) ?_
         refine a9g 7 8 rfl rfl (by kernel_rfl) ?_ ?_
         ·obtain ⟨Fx36, hF36, hx61, hsx7⟩ := a1c hx60 (i := 0) rfl ((show RowN rp_Expr Fx35 3 [.int .i64 v29.Op, .int .i64 v29.N, vs v29.Name, .slice as32 ns32 cs32, .int .i64 v30.Op, .int .i64 v30.N, vs v30.Name, .slice as33 ns33 cs33, .int .i64 v9.Op, .int .i64 v9.N, vs v9.Name, .slice as16 ns16 cs16] [v29, v30, v9] from ⟨rfl, ⟨_, _, rfl, (expr_iff.2 ⟨as32, ns32, cs32, rfl, (hs32.mono hF35)⟩), ⟨_, _, rfl, (expr_iff.2 ⟨as33, ns33, cs33, rfl, hs33⟩), ⟨_, _, rfl, (expr_iff.2 ⟨as16, ns16, cs16, rfl, (((((hs16.mono hF31).mono hF32).mono hF33).mono hF34).mono hF35)⟩), (rfl : RowR rp_Expr _ [] [])⟩⟩⟩⟩))
          obtain ⟨v31, hv24, hb3⟩ := bind_some hb3
          refine a0i ent28 rfl rfl rfl rfl hx61 (a1r _ _ _ _ hv24 hx61.sat hsx7) ?_
          rintro _ Fx37 _ wx59 hF37 hx62 ⟨as34, ns34, cs34, rfl, rfl, hs34⟩
          refine a0o (hx62.sh ((((((hF31.trans hF32).trans hF33).trans hF34).trans hF35).trans hF36).trans hF37) [0, 1, 2, 3, 4, 5, 6, 7] (by decide) rfl) ?_
          refine a0v 8 rfl (by kernel_rfl) ?_
          refine a1b ze24 rfl rfl rfl hx62 ?_
          intro b17 wx60 hx63
          refine a0o (hx63.sh ((((((hF31.trans hF32).trans hF33).trans hF34).trans hF35).trans hF36).trans hF37) [1, 2, 3, 4, 5, 6, 7, 8] (by decide) rfl) ?_
          refine a0v 9 rfl (by kernel_rfl) ?_
          refine a0p sz24 rfl hx63 rfl rfl rfl rfl (i := 0) rfl rfl rfl rfl ?_
          intro wx61 hx64
          refine a0o (hx64.sh ((((((hF31.trans hF32).trans hF33).trans hF34).trans hF35).trans hF36).trans hF37) [1, 2, 3, 4, 5, 6, 7, 8] (by decide) rfl) ?_
          refine a2g (by kernel_rfl) ?_
          refine a0n (fun a ha => ?_)
          cases hb3
          exact ⟨_, b17, as34, ns34, cs34, ((((((hF31.trans hF32).trans hF33).trans hF34).trans hF35).trans hF36).trans hF37), hx64.pick [0, 1, 2, 3, 4, 5, 6, 7, 8] (by decide) rfl, hs34, ha.cut (l := [3, 5, 8, 9, 11, 12, 14]) rfl⟩
         ·refine a1b ze24 rfl rfl rfl hx60 ?_
          intro b17 wx59 hx61
          refine a0o (hx61.sh ((((hF31.trans hF32).trans hF33).trans hF34).trans hF35) [2, 3, 4, 5, 6, 7, 8, 9] (by decide) rfl) ?_
          refine a0v 7 rfl (by kernel_rfl) ?_
          obtain ⟨Fx36, hF36, hx62, hsx7⟩ := a1c hx61 (i := 1) rfl ((show RowN rp_Expr Fx35 3 [.int .i64 v29.Op, .int .i64 v29.N, vs v29.Name, .slice as32 ns32 cs32, .int .i64 v30.Op, .int .i64 v30.N, vs v30.Name, .slice as33 ns33 cs33, .int .i64 v9.Op, .int .i64 v9.N, vs v9.Name, .slice as16 ns16 cs16] [v29, v30, v9] from ⟨rfl, ⟨_, _, rfl, (expr_iff.2 ⟨as32, ns32, cs32, rfl, (hs32.mono hF35)⟩), ⟨_, _, rfl, (expr_iff.2 ⟨as33, ns33, cs33, rfl, hs33⟩), ⟨_, _, rfl, (expr_iff.2 ⟨as16, ns16, cs16, rfl, (((((hs16.mono hF31).mono hF32).mono hF33).mono hF34).mono hF35)⟩), (rfl : RowR rp_Expr _ [] [])⟩⟩⟩⟩))
          obtain ⟨v31, hv24, hb3⟩ := bind_some hb3
          refine a0i ent28 rfl rfl rfl rfl hx62 (a1r _ _ _ _ hv24 hx62.sat hsx7) ?_
          rintro _ Fx37 _ wx60 hF37 hx63 ⟨as34, ns34, cs34, rfl, rfl, hs34⟩
          refine a0o (hx63.sh ((((((hF31.trans hF32).trans hF33).trans hF34).trans hF35).trans hF36).trans hF37) [1, 2, 3, 4, 5, 6, 7, 8] (by decide) rfl) ?_
          refine a0v 9 rfl (by kernel_rfl) ?_
          refine a0p sz24 rfl hx63 rfl rfl rfl rfl (i := 0) rfl rfl rfl rfl ?_
          intro wx61 hx64
          refine a0o (hx64.sh ((((((hF31.trans hF32).trans hF33).trans hF34).trans hF35).trans hF36).trans hF37) [1, 2, 3, 4, 5, 6, 7, 8] (by decide) rfl) ?_
          refine a2g (by kernel_rfl) ?_
          refine a0n (fun a ha => ?_)
          cases hb3
          exact ⟨_, b17, as34, ns34, cs34, ((((((hF31.trans hF32).trans hF33).trans hF34).trans hF35).trans hF36).trans hF37), hx64.pick [0, 1, 2, 3, 4, 5, 6, 7, 8] (by decide) rfl, hs34, ha.cut (l := [3, 5, 8, 9, 11, 12, 14]) rfl⟩
        ·refine a1b ze24 rfl rfl rfl hx59 ?_
         intro b16 wx58 hx60
         refine a0o (hx60.sh ((((hF31.trans hF32).trans hF33).trans hF34).trans hF35) [1, 2, 3, 4, 5, 6, 7, 8] (by decide) rfl) ?_
         refine a0v 6 rfl (by kernel_rfl) ?_
         refine a1q (e := 24) (cs := [.int .i64 v29.Op, .int .i64 v29.N, vs v29.Name, .slice as32 ns32 cs32, .int .i64 v30.Op, .int .i64 v30.N, vs v30.Name, .slice as33 ns33 cs33, .int .i64 v9.Op, .int .i64 v9.N, vs v9.Name, .slice as16 ns16 cs16]) (q := 4) rfl rfl hx60 rfl (fun _ => by kernel_rfl) rfl rfl ?_
         intro b17 wx59 hx61
         refine a0o (hx61.sh ((((hF31.trans hF32).trans hF33).trans hF34).trans hF35) [2, 3, 4, 5, 6, 7, 8, 9] (by decide) rfl) ?_
         refine a0v 7 rfl (by kernel_rfl) ?_
         obtain ⟨Fx36, hF36, hx62, hsx7⟩ := a1c hx61 (i := 0) rfl ((show RowN rp_Expr Fx35 3 [.int .i64 v29.Op, .int .i64 v29.N, vs v29.Name, .slice as32 ns32 cs32, .int .i64 v30.Op, .int .i64 v30.N, vs v30.Name, .slice as33 ns33 cs33, .int .i64 v9.Op, .int .i64 v9.N, vs v9.Name, .slice as16 ns16 cs16] [v29, v30, v9] from ⟨rfl, ⟨_, _, rfl, (expr_iff.2 ⟨as32, ns32, cs32, rfl, (hs32.mono hF35)⟩), ⟨_, _, rfl, (expr_iff.2 ⟨as33, ns33, cs33, rfl, hs33⟩), ⟨_, _, rfl, (expr_iff.2 ⟨as16, ns16, cs16, rfl, (((((hs16.mono hF31).mono hF32).mono hF33).mono hF34).mono hF35)⟩), (rfl : RowR rp_Expr _ [] [])⟩⟩⟩⟩))
         obtain ⟨v31, hv24, hb3⟩ := bind_some hb3
         refine a0i ent28 rfl rfl rfl rfl hx62 (a1r _ _ _ _ hv24 hx62.sat hsx7) ?_
         rintro _ Fx37 _ wx60 hF37 hx63 ⟨as34, ns34, cs34, rfl, rfl, hs34⟩
         refine a0o (hx63.sh ((((((hF31.trans hF32).trans hF33).trans hF34).trans hF35).trans hF36).trans hF37) [1, 2, 3, 4, 5, 6, 7, 8] (by decide) rfl) ?_
         refine a0v 9 rfl (by kernel_rfl) ?_
         refine a0p sz24 rfl hx63 rfl rfl rfl rfl (i := 0) rfl rfl rfl rfl ?_
         intro wx61 hx64
         refine a0o (hx64.sh ((((((hF31.trans hF32).trans hF33).trans hF34).trans hF35).trans hF36).trans hF37) [1, 2, 3, 4, 5, 6, 7, 8] (by decide) rfl) ?_
         refine a2g (by kernel_rfl) ?_
         refine a0n (fun a ha => ?_)
         cases hb3
         exact ⟨_, b16, as34, ns34, cs34, ((((((hF31.trans hF32).trans hF33).trans hF34).trans hF35).trans hF36).trans hF37), hx64.pick [0, 1, 2, 3, 4, 5, 6, 7, 8] (by decide) rfl, hs34, ha.cut (l := [3, 5, 8, 9, 11, 12, 14]) rfl⟩
       ·refine a1b ze24 rfl rfl rfl hx58 ?_
        intro b16 wx57 hx59
        refine a0o (hx59.sh (((hF31.trans hF32).trans hF33).trans hF34) [1, 2, 3, 4, 5, 6, 7, 8] (by decide) rfl) ?_
        refine a0v 4 rfl (by kernel_rfl) ?_
        obtain ⟨v30, hv23, hb3⟩ := bind_some hb3
        refine a0i ent30 rfl rfl rfl rfl hx59 (a3b _ _ _ hv23 hx59.sat) ?_
        rintro _ Fx35 _ wx58 hF35 hx60 ⟨as33, ns33, cs33, rfl, rfl, hs33⟩
        refine a0o (hx60.sh ((((hF31.trans hF32).trans hF33).trans hF34).trans hF35) [1, 2, 3, 4, 5, 6, 7, 8] (by decide) rfl) ?_
        refine a0v 6 rfl (by kernel_rfl) ?_
        refine a1q (e := 24) (cs := [.int .i64 v29.Op, .int .i64 v29.N, vs v29.Name, .slice as32 ns32 cs32, .int .i64 v30.Op, .int .i64 v30.N, vs v30.Name, .slice as33 ns33 cs33, .int .i64 v9.Op, .int .i64 v9.N, vs v9.Name, .slice as16 ns16 cs16]) (q := 4) rfl rfl hx60 rfl (fun _ => by kernel_rfl) rfl rfl ?_
        intro b17 wx59 hx61
        refine a0o (hx61.sh ((((hF31.trans hF32).trans hF33).trans hF34).trans hF35) [2, 3, 4, 5, 6, 7, 8, 9] (by decide) rfl) ?_
        refine a0v 7 rfl (by kernel_rfl) ?_
        obtain ⟨Fx36, hF36, hx62, hsx7⟩ := a1c hx61 (i := 0) rfl ((show RowN rp_Expr Fx35 3 [.int .i64 v29.Op, .int .i64 v29.N, vs v29.Name, .slice as32 ns32 cs32, .int .i64 v30.Op, .int .i64 v30.N, vs v30.Name, .slice as33 ns33 cs33, .int .i64 v9.Op, .int .i64 v9.N, vs v9.Name, .slice as16 ns16 cs16] [v29, v30, v9] from ⟨rfl, ⟨_, _, rfl, (expr_iff.2 ⟨as32, ns32, cs32, rfl, (hs32.mono hF35)⟩), ⟨_, _, rfl, (expr_iff.2 ⟨as33, ns33, cs33, rfl, hs33⟩), ⟨_, _, rfl, (expr_iff.2 ⟨as16, ns16, cs16, rfl, (((((hs16.mono hF31).mono hF32).mono hF33).mono hF34).mono hF35)⟩), (rfl : RowR rp_Expr _ [] [])⟩⟩⟩⟩))
        obtain ⟨v31, hv24, hb3⟩ := bind_some hb3
        refine a0i ent28 rfl rfl rfl rfl hx62 (a1r _ _ _ _ hv24 hx62.sat hsx7) ?_
        rintro _ Fx37 _ wx60 hF37 hx63 ⟨as34, ns34, cs34, rfl, rfl, hs34⟩
        refine a0o (hx63.sh ((((((hF31.trans hF32).trans hF33).trans hF34).trans hF35).trans hF36).trans hF37) [1, 2, 3, 4, 5, 6, 7, 8] (by decide) rfl) ?_
        refine a0v 9 rfl (by kernel_rfl) ?_
        refine a0p sz24 rfl hx63 rfl rfl rfl rfl (i := 0) rfl rfl rfl rfl ?_
        intro wx61 hx64
        refine a0o (hx64.sh ((((((hF31.trans hF32).trans hF33).trans hF34).trans hF35).trans hF36).trans hF37) [1, 2, 3, 4, 5, 6, 7, 8] (by decide) rfl) ?_
        refine a2g (by kernel_rfl) ?_
        refine a0n (fun a ha => ?_)
        cases hb3
        exact ⟨_, b16, as34, ns34, cs34, ((((((hF31.trans hF32).trans hF33).trans hF34).trans hF35).trans hF36).trans hF37), hx64.pick [0, 1, 2, 3, 4, 5, 6, 7, 8] (by decide) rfl, hs34, ha.cut (l := [3, 5, 8, 9, 11, 12, 14]) rfl⟩
      ·refine a1b ze24 rfl rfl rfl hx56 ?_
       intro b16 wx56 hx57
       refine a0o (hx57.sh (hF31.trans hF32) [2, 3, 4, 5, 6, 7, 8, 9] (by decide) rfl) ?_
       refine a0v 3 rfl (by kernel_rfl) ?_
       obtain ⟨Fx33, hF33, hx58, hsx6⟩ := a1c hx57 (i := 1) rfl hs31
       obtain ⟨v29, hv22, hb3⟩ := bind_some hb3
       refine a0i ent28 rfl rfl rfl rfl hx58 (a1r _ _ _ _ hv22 hx58.sat hsx6) ?_
       rintro _ Fx34 _ wx57 hF34 hx59 ⟨as32, ns32, cs32, rfl, rfl, hs32⟩
       refine a0o (hx59.sh (((hF31.trans hF32).trans hF33).trans hF34) [1, 2, 3, 4, 5, 6, 7, 8] (by decide) rfl) ?_
       refine a0v 4 rfl (by kernel_rfl) ?_
       obtain ⟨v30, hv23, hb3⟩ := bind_some hb3
       refine a0i ent30 rfl rfl rfl rfl hx59 (a3b _ _ _ hv23 hx59.sat) ?_
       rintro _ Fx35 _ wx58 hF35 hx60 ⟨as33, ns33, cs33, rfl, rfl, hs33⟩
       refine a0o (hx60.sh ((((hF31.trans hF32).trans hF33).trans hF34).trans hF35) [1, 2, 3, 4, 5, 6, 7, 8] (by decide) rfl) ?_
       refine a0v 6 rfl (by kernel_rfl) ?_
       refine a1q (e := 24) (cs := [.int .i64 v29.Op, .int .i64 v29.N, vs v29.Name, .slice as32 ns32 cs32, .int .i64 v30.Op, .int .i64 v30.N, vs v30.Name, .slice as33 ns33 cs33, .int .i64 v9.Op, .int .i64 v9.N, vs v9.Name, .slice as16 ns16 cs16]) (q := 4) rfl rfl hx60 rfl (fun _ => by kernel_rfl) rfl rfl ?_
       intro b17 wx59 hx61
       refine a0o (hx61.sh ((((hF31.trans hF32).trans hF33).trans hF34).trans hF35) [2, 3, 4, 5, 6, 7, 8, 9] (by decide) rfl) ?_
       refine a0v 7 rfl (by kernel_rfl) ?_
       obtain ⟨Fx36, hF36, hx62, hsx7⟩ := a1c hx61 (i := 0) rfl ((show RowN rp_Expr Fx35 3 [.int .i64 v29.Op, .int .i64 v29.N, vs v29.Name, .slice as32 ns32 cs32, .int .i64 v30.Op, .int .i64 v30.N, vs v30.Name, .slice as33 ns33 cs33, .int .i64 v9.Op, .int .i64 v9.N, vs v9.Name, .slice as16 ns16 cs16] [v29, v30, v9] from ⟨rfl, ⟨_, _, rfl, (expr_iff.2 ⟨as32, ns32, cs32, rfl, (hs32.mono hF35)⟩), ⟨_, _, rfl, (expr_iff.2 ⟨as33, ns33, cs33, rfl, hs33⟩), ⟨_, _, rfl, (expr_iff.2 ⟨as16, ns16, cs16, rfl, (((((hs16.mono hF31).mono hF32).mono hF33).mono hF34).mono hF35)⟩), (rfl : RowR rp_Expr _ [] [])⟩⟩⟩⟩))
       obtain ⟨v31, hv24, hb3⟩ := bind_some hb3
       refine a0i ent28 rfl rfl rfl rfl hx62 (a1r _ _ _ _ hv24 hx62.sat hsx7) ?_
       rintro _ Fx37 _ wx60 hF37 hx63 ⟨as34, ns34, cs34, rfl, rfl, hs34⟩
       refine a0o (hx63.sh ((((((hF31.trans hF32).trans hF33).trans hF34).trans hF35).trans hF36).trans hF37) [1, 2, 3, 4, 5, 6, 7, 8] (by decide) rfl) ?_
       refine a0v 9 rfl (by kernel_rfl) ?_
       refine a0p sz24 rfl hx63 rfl rfl rfl rfl (i := 0) rfl rfl rfl rfl ?_
       intro wx61 hx64
       refine a0o (hx64.sh ((((((hF31.trans hF32).trans hF33).trans hF34).trans hF35).trans hF36).trans hF37) [1, 2, 3, 4, 5, 6, 7, 8] (by decide) rfl) ?_
       refine a2g (by kernel_rfl) ?_
       refine a0n (fun a ha => ?_)
       cases hb3
       exact ⟨_, b16, as34, ns34, cs34, ((((((hF31.trans hF32).trans hF33).trans hF34).trans hF35).trans hF36).trans hF37), hx64.pick [0, 1, 2, 3, 4, 5, 6, 7, 8] (by decide) rfl, hs34, ha.cut (l := [3, 5, 8, 9, 11, 12, 14]) rfl⟩
     ·refine a1b ze24 rfl rfl rfl hx55 ?_
      intro b16 wx55 hx56
      refine a0o (hx56.sh hF31 [1, 2, 3, 4, 5, 6, 7, 8] (by decide) rfl) ?_
      refine a0v 2 rfl (by kernel_rfl) ?_
      obtain ⟨v28, hv21, hb3⟩ := bind_some hb3
      refine a0i ent29 rfl rfl rfl rfl hx56 (a2v _ _ _ _ hv21 hx56.sat (SlR.nil _ _) hs30) ?_
      rintro _ Fx32 _ wx56 hF32 hx57 ⟨as31, ns31, cs31, xss31, rfl, rfl, hs31⟩
      refine a0o (hx57.sh (hF31.trans hF32) [2, 3, 4, 5, 6, 7, 8, 9] (by decide) rfl) ?_
      refine a0v 3 rfl (by kernel_rfl) ?_
      obtain ⟨Fx33, hF33, hx58, hsx6⟩ := a1c hx57 (i := 0) rfl hs31
      obtain ⟨v29, hv22, hb3⟩ := bind_some hb3
      refine a0i ent28 rfl rfl rfl rfl hx58 (a1r _ _ _ _ hv22 hx58.sat hsx6) ?_
      rintro _ Fx34 _ wx57 hF34 hx59 ⟨as32, ns32, cs32, rfl, rfl, hs32⟩
      refine a0o (hx59.sh (((hF31.trans hF32).trans hF33).trans hF34) [1, 2, 3, 4, 5, 6, 7, 8] (by decide) rfl) ?_
      refine a0v 4 rfl (by kernel_rfl) ?_
      obtain ⟨v30, hv23, hb3⟩ := bind_some hb3
      refine a0i ent30 rfl rfl rfl rfl hx59 (a3b _ _ _ hv23 hx59.sat) ?_
      rintro _ Fx35 _ wx58 hF35 hx60 ⟨as33, ns33, cs33, rfl, rfl, hs33⟩
      refine a0o (hx60.sh ((((hF31.trans hF32).trans hF33).trans hF34).trans hF35) [1, 2, 3, 4, 5, 6, 7, 8] (by decide) rfl) ?_
      refine a0v 6 rfl (by kernel_rfl) ?_
      refine a1q (e := 24) (cs := [.int .i64 v29.Op, .int .i64 v29.N, vs v29.Name, .slice as32 ns32 cs32, .int .i64 v30.Op, .int .i64 v30.N, vs v30.Name, .slice as33 ns33 cs33, .int .i64 v9.Op, .int .i64 v9.N, vs v9.Name, .slice as16 ns16 cs16]) (q := 4) rfl rfl hx60 rfl (fun _ => by kernel_rfl) rfl rfl ?_
      intro b17 wx59 hx61
      refine a0o (hx61.sh ((((hF31.trans hF32).trans hF33).trans hF34).trans hF35) [2, 3, 4, 5, 6, 7, 8, 9] (by decide) rfl) ?_
      refine a0v 7 rfl (by kernel_rfl) ?_
      obtain ⟨Fx36, hF36, hx62, hsx7⟩ := a1c hx61 (i := 0) rfl ((show RowN rp_Expr Fx35 3 [.int .i64 v29.Op, .int .i64 v29.N, vs v29.Name, .slice as32 ns32 cs32, .int .i64 v30.Op, .int .i64 v30.N, vs v30.Name, .slice as33 ns33 cs33, .int .i64 v9.Op, .int .i64 v9.N, vs v9.Name, .slice as16 ns16 cs16] [v29, v30, v9] from ⟨rfl, ⟨_, _, rfl, (expr_iff.2 ⟨as32, ns32, cs32, rfl, (hs32.mono hF35)⟩), ⟨_, _, rfl, (expr_iff.2 ⟨as33, ns33, cs33, rfl, hs33⟩), ⟨_, _, rfl, (expr_iff.2 ⟨as16, ns16, cs16, rfl, (((((hs16.mono hF31).mono hF32).mono hF33).mono hF34).mono hF35)⟩), (rfl : RowR rp_Expr _ [] [])⟩⟩⟩⟩))
      obtain ⟨v31, hv24, hb3⟩ := bind_some hb3
      refine a0i ent28 rfl rfl rfl rfl hx62 (a1r _ _ _ _ hv24 hx62.sat hsx7) ?_
      rintro _ Fx37 _ wx60 hF37 hx63 ⟨as34, ns34, cs34, rfl, rfl, hs34⟩
      refine a0o (hx63.sh ((((((hF31.trans hF32).trans hF33).trans hF34).trans hF35).trans hF36).trans hF37) [1, 2, 3, 4, 5, 6, 7, 8] (by decide) rfl) ?_
      refine a0v 9 rfl (by kernel_rfl) ?_
      refine a0p sz24 rfl hx63 rfl rfl rfl rfl (i := 0) rfl rfl rfl rfl ?_
      intro wx61 hx64
      refine a0o (hx64.sh ((((((hF31.trans hF32).trans hF33).trans hF34).trans hF35).trans hF36).trans hF37) [1, 2, 3, 4, 5, 6, 7, 8] (by decide) rfl) ?_
      refine a2g (by kernel_rfl) ?_
      refine a0n (fun a ha => ?_)
      cases hb3
      exact ⟨_, b16, as34, ns34, cs34, ((((((hF31.trans hF32).trans hF33).trans hF34).trans hF35).trans hF36).trans hF37), hx64.pick [0, 1, 2, 3, 4, 5, 6, 7, 8] (by decide) rfl, hs34, ha.cut (l := [3, 5, 8, 9, 11, 12, 14]) rfl⟩
    ·refine a1b ze24 rfl rfl rfl hx54 ?_
     intro b16 wx54 hx55
     refine a0o (hx55.sh (Frz.refl _) [1, 2, 3, 4, 5, 6, 7, 8] (by decide) rfl) ?_
     refine a0v 1 rfl (by kernel_rfl) ?_
     obtain ⟨v27, hv20, hb3⟩ := bind_some hb3
     refine a0i ent30 rfl rfl rfl rfl hx55 (a3b _ _ _ hv20 hx55.sat) ?_
     rintro _ Fx31 _ wx55 hF31 hx56 ⟨as30, ns30, cs30, rfl, rfl, hs30⟩
     refine a0o (hx56.sh hF31 [1, 2, 3, 4, 5, 6, 7, 8] (by decide) rfl) ?_
     refine a0v 2 rfl (by kernel_rfl) ?_
     obtain ⟨v28, hv21, hb3⟩ := bind_some hb3
     refine a0i ent29 rfl rfl rfl rfl hx56 (a2v _ _ _ _ hv21 hx56.sat (SlR.nil _ _) hs30) ?_
     rintro _ Fx32 _ wx56 hF32 hx57 ⟨as31, ns31, cs31, xss31, rfl, rfl, hs31⟩
     refine a0o (hx57.sh (hF31.trans hF32) [2, 3, 4, 5, 6, 7, 8, 9] (by decide) rfl) ?_
     refine a0v 3 rfl (by kernel_rfl) ?_
     obtain ⟨Fx33, hF33, hx58, hsx6⟩ := a1c hx57 (i := 0) rfl hs31
     obtain ⟨v29, hv22, hb3⟩ := bind_some hb3
     refine a0i ent28 rfl rfl rfl rfl hx58 (a1r _ _ _ _ hv22 hx58.sat hsx6) ?_
     rintro _ Fx34 _ wx57 hF34 hx59 ⟨as32, ns32, cs32, rfl, rfl, hs32⟩
     refine a0o (hx59.sh (((hF31.trans hF32).trans hF33).trans hF34) [1, 2, 3, 4, 5, 6, 7, 8] (by decide) rfl) ?_
     refine a0v 4 rfl (by kernel_rfl) ?_
     obtain ⟨v30, hv23, hb3⟩ := bind_some hb3
     refine a0i ent30 rfl rfl rfl rfl hx59 (a3b _ _ _ hv23 hx59.sat) ?_
     rintro _ Fx35 _ wx58 hF35 hx60 ⟨as33, ns33, cs33, rfl, rfl, hs33⟩
     refine a0o (hx60.sh ((((hF31.trans hF32).trans hF33).trans hF34).trans hF35) [1, 2, 3, 4, 5, 6, 7, 8] (by decide) rfl) ?_
     refine a0v 6 rfl (by kernel_rfl) ?_
     refine a1q (e := 24) (cs := [.int .i64 v29.Op, .int .i64 v29.N, vs v29.Name, .slice as32 ns32 cs32, .int .i64 v30.Op, .int .i64 v30.N, vs v30.Name, .slice as33 ns33 cs33, .int .i64 v9.Op, .int .i64 v9.N, vs v9.Name, .slice as16 ns16 cs16]) (q := 4) rfl rfl hx60 rfl (fun _ => by kernel_rfl) rfl rfl ?_
     intro b17 wx59 hx61
     refine a0o (hx61.sh ((((hF31.trans hF32).trans hF33).trans hF34).trans hF35) [2, 3, 4, 5, 6, 7, 8, 9] (by decide) rfl) ?_
     refine a0v 7 rfl (by kernel_rfl) ?_
     obtain ⟨Fx36, hF36, hx62, hsx7⟩ := a1c hx61 (i := 0) rfl ((show RowN rp_Expr Fx35 3 [.int .i64 v29.Op, .int .i64 v29.N, vs v29.Name, .slice as32 ns32 cs32, .int .i64 v30.Op, .int .i64 v30.N, vs v30.Name, .slice as33 ns33 cs33, .int .i64 v9.Op, .int .i64 v9.N, vs v9.Name, .slice as16 ns16 cs16] [v29, v30, v9] from ⟨rfl, ⟨_, _, rfl, (expr_iff.2 ⟨as32, ns32, cs32, rfl, (hs32.mono hF35)⟩), ⟨_, _, rfl, (expr_iff.2 ⟨as33, ns33, cs33, rfl, hs33⟩), ⟨_, _, rfl, (expr_iff.2 ⟨as16, ns16, cs16, rfl, (((((hs16.mono hF31).mono hF32).mono hF33).mono hF34).mono hF35)⟩), (rfl : RowR rp_Expr _ [] [])⟩⟩⟩⟩))
     obtain ⟨v31, hv24, hb3⟩ := bind_some hb3
     refine a0i ent28 rfl rfl rfl rfl hx62 (a1r _ _ _ _ hv24 hx62.sat hsx7) ?_
     rintro _ Fx37 _ wx60 hF37 hx63 ⟨as34, ns34, cs34, rfl, rfl, hs34⟩
     refine a0o (hx63.sh ((((((hF31.trans hF32).trans hF33).trans hF34).trans hF35).trans hF36).trans hF37) [1, 2, 3, 4, 5, 6, 7, 8] (by decide) rfl) ?_
     refine a0v 9 rfl (by kernel_rfl) ?_
     refine a0p sz24 rfl hx63 rfl rfl rfl rfl (i := 0) rfl rfl rfl rfl ?_
     intro wx61 hx64
     refine a0o (hx64.sh ((((((hF31.trans hF32).trans hF33).trans hF34).trans hF35).trans hF36).trans hF37) [1, 2, 3, 4, 5, 6, 7, 8] (by decide) rfl) ?_
     refine a2g (by kernel_rfl) ?_
     refine a0n (fun a ha => ?_)
     cases hb3
     exact ⟨_, b16, as34, ns34, cs34, ((((((hF31.trans hF32).trans hF33).trans hF34).trans hF35).trans hF36).trans hF37), hx64.pick [0, 1, 2, 3, 4, 5, 6, 7, 8] (by decide) rfl, hs34, ha.cut (l := [3, 5, 8, 9, 11, 12, 14]) rfl⟩
  ·clear hm
   refine a1w (SH Fx5 [.box b6 37 [.int .i64 f1, .slice as7 ns7 cs7, .int .i64 f3, .slice as8 ns8 cs8], .box b5 24 [.int .i64 2, .int .i64 0, vs [], .slice none 0 0], .box b4 24 [.int .i64 4, .int .i64 0, vs [112, 97, 112, 101, 114], .slice none 0 0], .box b2 37 [.int .i64 v2.1.P.Sign, .slice as3 ns3 cs3, .int .i64 v2.1.Q.Sign, .slice as4 ns4 cs4], .box b1 37 [.int .i64 v1.1.P.Sign, .slice as1 ns1 cs1, .int .i64 v1.1.Q.Sign, .slice as2 ns2 cs2]]) 9 rfl (by kernel_rfl) hx15 ?_
   intro wx62 hx65
   refine d_tk 0 rfl (by kernel_rfl) rfl rfl rfl rfl (hx65.sh (Frz.refl _) [0, 1, 2, 3, 4] (by decide) rfl) (fun _ _ _ _ hq => a0l ag24 sz24 rfl rfl hq rfl (i := 2) rfl rfl (a0c (qq rfl))) ?_
   refine d_tk 2 rfl (by kernel_rfl) rfl rfl rfl rfl (hx65.sh (Frz.refl _) [0, 1, 2, 3, 4] (by decide) rfl) (fun _ _ _ _ hq => a0l ag24 sz24 rfl rfl hq rfl (i := 1) rfl rfl (a0c (qq rfl))) ?_
   refine a9g 1 7 rfl rfl (by kernel_rfl) ?_ ?_
   ·obtain ⟨v32, hv25, hb2⟩ := bind_some hb2
    refine a0i ent30 rfl rfl rfl rfl hx65 (a3b _ _ _ hv25 hx65.sat) ?_
    rintro _ Fx38 _ wx63 hF38 hx66 ⟨as35, ns35, cs35, rfl, rfl, hs35⟩
    refine a0o (hx66.sh hF38 [0, 1, 2, 3, 4] (by decide) rfl) ?_
    refine a9g 3 7 rfl rfl (by kernel_rfl) ?_ ?_
    ·obtain ⟨v33, hv26, hb2⟩ := bind_some hb2
     refine a0i ent29 rfl rfl rfl rfl hx66 (a2v _ _ _ _ hv26 hx66.sat hs35 (SlR.nil _ _)) ?_
     rintro _ Fx39 _ wx64 hF39 hx67 ⟨as36, ns36, cs36, xss36, rfl, rfl, hs36⟩
     refine a0o (hx67.sh (hF38.trans hF39) [1, 2, 3, 4, 5] (by decide) rfl) ?_
     refine a9g 4 7 rfl rfl (by kernel_rfl) ?_ ?_
     ·obtain ⟨Fx40, hF40, hx68, hsx8⟩ := a1c hx67 (i := 0) rfl hs36
      obtain ⟨v34, hv27, hb2⟩ := bind_some hb2
      refine a0i ent28 rfl rfl rfl rfl hx68 (a1r _ _ _ _ hv27 hx68.sat hsx8) ?_
      rintro _ Fx41 _ wx65 hF41 hx69 ⟨as37, ns37, cs37, rfl, rfl, hs37⟩
      refine a0o (hx69.sh (((hF38.trans hF39).trans hF40).trans hF41) [0, 1, 2, 3, 4] (by decide) rfl) ?_
      refine a9g 5 7 rfl rfl (by kernel_rfl) ?_ ?_
      ·obtain ⟨v35, hv28, hb2⟩ := bind_some hb2
       refine a0i ent29 rfl rfl rfl rfl hx69 (a2v _ _ _ _ hv28 hx69.sat (SlR.nil _ _) hs37) ?_
       rintro _ Fx42 _ wx66 hF42 hx70 ⟨as38, ns38, cs38, xss38, rfl, rfl, hs38⟩
       refine a0o (hx70.sh ((((hF38.trans hF39).trans hF40).trans hF41).trans hF42) [1, 2, 3, 4, 5] (by decide) rfl) ?_
       refine a9g 6 7 rfl rfl (by kernel_rfl) ?_ ?_
       ·obtain ⟨Fx43, hF43, hx71, hsx9⟩ := a1c hx70 (i := 0) rfl hs38
        obtain ⟨v36, hv29, hb2⟩ := bind_some hb2
        refine a0i ent28 rfl rfl rfl rfl hx71 (a1r _ _ _ _ hv29 hx71.sat hsx9) ?_
        rintro _ Fx44 _ wx67 hF44 hx72 ⟨as39, ns39, cs39, rfl, rfl, hs39⟩
        refine a0o (hx72.sh ((((((hF38.trans hF39).trans hF40).trans hF41).trans hF42).trans hF43).trans hF44) [0, 1, 2, 3, 4] (by decide) rfl) ?_
        refine a0v 7 rfl (by kernel_rfl) ?_
        refine a1b ze24 rfl rfl rfl hx72 ?_
        intro b18 wx68 hx73
        refine a0o (hx73.sh ((((((hF38.trans hF39).trans hF40).trans hF41).trans hF42).trans hF43).trans hF44) [1, 2, 3, 4, 5] (by decide) rfl) ?_
        refine a0v 8 rfl (by kernel_rfl) ?_
        refine a0p sz24 rfl hx73 rfl rfl rfl rfl (i := 0) rfl rfl rfl rfl ?_
        intro wx69 hx74
        refine a0o (hx74.sh ((((((hF38.trans hF39).trans hF40).trans hF41).trans hF42).trans hF43).trans hF44) [1, 2, 3, 4, 5] (by decide) rfl) ?_
        refine a2g (by kernel_rfl) ?_
        refine a0n (fun a ha => ?_)
        cases hb2
        exact ⟨_, b18, as39, ns39, cs39, ((((((hF38.trans hF39).trans hF40).trans hF41).trans hF42).trans hF43).trans hF44), hx74.pick [0, 1, 2, 3, 4, 5] (by decide) rfl, hs39, ha.cut (l := [3, 5, 7, 8, 9, 10]) rfl⟩
       ·refine a1b ze24 rfl rfl rfl hx70 ?_
        intro b18 wx67 hx71
        refine a0o (hx71.sh ((((hF38.trans hF39).trans hF40).trans hF41).trans hF42) [2, 3, 4, 5, 6] (by decide) rfl) ?_
        refine a0v 6 rfl (by kernel_rfl) ?_
        obtain ⟨Fx43, hF43, hx72, hsx9⟩ := a1c hx71 (i := 1) rfl hs38
        obtain ⟨v36, hv29, hb2⟩ := bind_some hb2
        refine a0i ent28 rfl rfl rfl rfl hx72 (a1r _ _ _ _ hv29 hx72.sat hsx9) ?_
        rintro _ Fx44 _ wx68 hF44 hx73 ⟨as39, ns39, cs39, rfl, rfl, hs39⟩
        refine a0o (hx73.sh ((((((hF38.trans hF39).trans hF40).trans hF41).trans hF42).trans hF43).trans hF44) [1, 2, 3, 4, 5] (by decide) rfl) ?_
        refine a0v 8 rfl (by kernel_rfl) ?_
        refine a0p sz24 rfl hx73 rfl rfl rfl rfl (i := 0) rfl rfl rfl rfl ?_
        intro wx69 hx74
        refine a0o (hx74.sh ((((((hF38.trans hF39).trans hF40).trans hF41).trans hF42).trans hF43).trans hF44) [1, 2, 3, 4, 5] (by decide) rfl) ?_
        refine a2g (by kernel_rfl) ?_
        refine a0n (fun a ha => ?_)
        cases hb2
        exact ⟨_, b18, as39, ns39, cs39, ((((((hF38.trans hF39).trans hF40).trans hF41).trans hF42).trans hF43).trans hF44), hx74.pick [0, 1, 2, 3, 4, 5] (by decide) rfl, hs39, ha.cut (l := [3, 5, 7, 8, 9, 10]) rfl⟩
      ·refine a1b ze24 rfl rfl rfl hx69 ?_
       intro b18 wx66 hx70
       refine a0o (hx70.sh (((hF38.trans hF39).trans hF40).trans hF41) [1, 2, 3, 4, 5] (by decide) rfl) ?_
       refine a0v 5 rfl (by kernel_rfl) ?_
       obtain ⟨v35, hv28, hb2⟩ := bind_some hb2
       refine a0i ent29 rfl rfl rfl rfl hx70 (a2v _ _ _ _ hv28 hx70.sat (SlR.nil _ _) hs37) ?_
       rintro _ Fx42 _ wx67 hF42 hx71 ⟨as38, ns38, cs38, xss38, rfl, rfl, hs38⟩
       refine a0o (hx71.sh ((((hF38.trans hF39).trans hF40).trans hF41).trans hF42) [2, 3, 4, 5, 6] (by decide) rfl) ?_
       refine a0v 6 rfl (by kernel_rfl) ?_
       obtain ⟨Fx43, hF43, hx72, hsx9⟩ := a1c hx71 (i := 0) rfl hs38
       obtain ⟨v36, hv29, hb2⟩ := bind_some hb2
       refine a0i ent28 rfl rfl rfl rfl hx72 (a1r _ _ _ _ hv29 hx72.sat hsx9) ?_
       rintro _ Fx44 _ wx68 hF44 hx73 ⟨as39, ns39, cs39, rfl, rfl, hs39⟩
       refine a0o (hx73.sh ((((((hF38.trans hF39).trans hF40).trans hF41).trans hF42).trans hF43).trans hF44) [1, 2, 3, 4, 5] (by decide) rfl) ?_
       refine a0v 8 rfl (by kernel_rfl) ?_
       refine a0p sz24 rfl hx73 rfl rfl rfl rfl (i := 0) rfl rfl rfl rfl ?_
       intro wx69 hx74
       refine a0o (hx74.sh ((((((hF38.trans hF39).trans hF40).trans hF41).trans hF42).trans hF43).trans hF44) [1, 2, 3, 4, 5] (by decide) rfl) ?_
       refine a2g (by kernel_rfl) ?_
       refine a0n (fun a ha => ?_)
       cases hb2
       exact ⟨_, b18, as39, ns39, cs39, ((((((hF38.trans hF39).trans hF40).trans hF41).trans hF42).trans hF43).trans hF44), hx74.pick [0, 1, 2, 3, 4, 5] (by decide) rfl, hs39, ha.cut (l := [3, 5, 7, 8, 9, 10]) rfl⟩
     ·refine a1b ze24 rfl rfl rfl hx67 ?_
      intro b18 wx65 hx68
      refine a0o (hx68.sh (hF38.trans hF39) [2, 3, 4, 5, 6] (by decide) rfl) ?_
      refine a0v 4 rfl (by kernel_rfl) ?_
      obtain ⟨Fx40, hF40, hx69, hsx8⟩ := a1c hx68 (i := 1) rfl hs36
      obtain ⟨v34, hv27, hb2⟩ := bind_some hb2
      refine a0i ent28 rfl rfl rfl rfl hx69 (a1r _ _ _ _ hv27 hx69.sat hsx8) ?_
      rintro _ Fx41 _ wx66 hF41 hx70 ⟨as37, ns37, cs37, rfl, rfl, hs37⟩
      refine a0o (hx70.sh (((hF38.trans hF39).trans hF40).trans hF41) [1, 2, 3, 4, 5] (by decide) rfl) ?_
      refine a0v 5 rfl (by kernel_rfl) ?_
      obtain ⟨v35, hv28, hb2⟩ := bind_some hb2
      refine a0i ent29 rfl rfl rfl rfl hx70 (a2v _ _ _ _ hv28 hx70.sat (SlR.nil _ _) hs37) ?_
      rintro _ Fx42 _ wx67 hF42 hx71 ⟨as38, ns38, cs38, xss38, rfl, rfl, hs38⟩
      refine a0o (hx71.sh ((((hF38.trans hF39).trans hF40).trans hF41).trans hF42) [2, 3, 4, 5, 6] (by decide) rfl) ?_
      refine a0v 6 rfl (by kernel_rfl) ?_
      obtain ⟨Fx43, hF43, hx72, hsx9⟩ := a1c hx71 (i := 0) rfl hs38
      obtain ⟨v36, hv29, hb2⟩ := bind_some hb2
      refine a0i ent28 rfl rfl rfl rfl hx72 (a1r _ _ _ _ hv29 hx72.sat hsx9) ?_
      rintro _ Fx44 _ wx68 hF44 hx73 ⟨as39, ns39, cs39, rfl, rfl, hs39⟩
      refine a0o (hx73.sh ((((((hF38.trans hF39).trans hF40).trans hF41).trans hF42).trans hF43).trans hF44) [1, 2, 3, 4, 5] (by decide) rfl) ?_
      refine a0v 8 rfl (by kernel_rfl) ?_
      refine a0p sz24 rfl hx73 rfl rfl rfl rfl (i := 0) rfl rfl rfl rfl ?_
      intro wx69 hx74
      refine a0o (hx74.sh ((((((hF38.trans hF39).trans hF40).trans hF41).trans hF42).trans hF43).trans hF44) [1, 2, 3, 4, 5] (by decide) rfl) ?_
      refine a2g (by kernel_rfl) ?_
      refine a0n (fun a ha => ?_)
      cases hb2
      exact ⟨_, b18, as39, ns39, cs39, ((((((hF38.trans hF39).trans hF40).trans hF41).trans hF42).trans hF43).trans hF44), hx74.pick [0, 1, 2, 3, 4, 5] (by decide) rfl, hs39, ha.cut (l := [3, 5, 7, 8, 9, 10]) rfl⟩
    ·refine a1b ze24 rfl rfl rfl hx66 ?_
     intro b18 wx64 hx67
     refine a0o (hx67.sh hF38 [1, 2, 3, 4, 5] (by decide) rfl) ?_
     refine a0v 3 rfl (by kernel_rfl) ?_
     obtain ⟨v33, hv26, hb2⟩ := bind_some hb2
     refine a0i ent29 rfl rfl rfl rfl hx67 (a2v _ _ _ _ hv26 hx67.sat hs35 (SlR.nil _ _)) ?_
     rintro _ Fx39 _ wx65 hF39 hx68 ⟨as36, ns36, cs36, xss36, rfl, rfl, hs36⟩
     refine a0o (hx68.sh (hF38.trans hF39) [2, 3, 4, 5, 6] (by decide) rfl) ?_
     refine a0v 4 rfl (by kernel_rfl) ?_
     obtain ⟨Fx40, hF40, hx69, hsx8⟩ := a1c hx68 (i := 0) rfl hs36
     obtain ⟨v34, hv27, hb2⟩ := bind_some hb2
     refine a0i ent28 rfl rfl rfl rfl hx69 (a1r _ _ _ _ hv27 hx69.sat hsx8) ?_
     rintro _ Fx41 _ wx66 hF41 hx70 ⟨as37, ns37, cs37, rfl, rfl, hs37⟩
     refine a0o (hx70.sh (((hF38.trans hF39).trans hF40).trans hF41) [1, 2, 3, 4, 5] (by decide) rfl) ?_
     refine a0v 5 rfl (by kernel_rfl) ?_
     obtain ⟨v35, hv28, hb2⟩ := bind_some hb2
     refine a0i ent29 rfl rfl rfl rfl hx70 (a2v _ _ _ _ hv28 hx70.sat (SlR.nil _ _) hs37) ?_
     rintro _ Fx42 _ wx67 hF42 hx71 ⟨as38, ns38, cs38, xss38, rfl, rfl, hs38⟩
     refine a0o (hx71.sh ((((hF38.trans hF39).trans hF40).trans hF41).trans hF42) [2, 3, 4, 5, 6] (by decide) rfl) ?_
     refine a0v 6 rfl (by kernel_rfl) ?_
     obtain ⟨Fx43, hF43, hx72, hsx9⟩ := a1c hx71 (i := 0) rfl hs38
     obtain ⟨v36, hv29, hb2⟩ := bind_some hb2
     refine a0i ent28 rfl rfl rfl rfl hx72 (a1r _ _ _ _ hv29 hx72.sat hsx9) ?_
     rintro _ Fx44 _ wx68 hF44 hx73 ⟨as39, ns39, cs39, rfl, rfl, hs39⟩
     refine a0o (hx73.sh ((((((hF38.trans hF39).trans hF40).trans hF41).trans hF42).trans hF43).trans hF44) [1, 2, 3, 4, 5] (by decide) rfl) ?_
     refine a0v 8 rfl (by kernel_rfl) ?_
     refine a0p sz24 rfl hx73 rfl rfl rfl rfl (i := 0) rfl rfl rfl rfl ?_
     intro wx69 hx74
     refine a0o (hx74.sh ((((((hF38.trans hF39).trans hF40).trans hF41).trans hF42).trans hF43).trans hF44) [1, 2, 3, 4, 5] (by decide) rfl) ?_
     refine a2g (by kernel_rfl) ?_
     refine a0n (fun a ha => ?_)
     cases hb2
     exact ⟨_, b18, as39, ns39, cs39, ((((((hF38.trans hF39).trans hF40).trans hF41).trans hF42).trans hF43).trans hF44), hx74.pick [0, 1, 2, 3, 4, 5] (by decide) rfl, hs39, ha.cut (l := [3, 5, 7, 8, 9, 10]) rfl⟩
   ·refine a1b ze24 rfl rfl rfl hx65 ?_
    intro b18 wx63 hx66
    refine a0o (hx66.sh (Frz.refl _) [1, 2, 3, 4, 5] (by decide) rfl) ?_
    refine a0v 1 rfl (by kernel_rfl) ?_
    obtain ⟨v32, hv25, hb2⟩ := bind_some hb2
    refine a0i ent30 rfl rfl rfl rfl hx66 (a3b _ _ _ hv25 hx66.sat) ?_
    rintro _ Fx38 _ wx64 hF38 hx67 ⟨as35, ns35, cs35, rfl, rfl, hs35⟩
    refine a0o (hx67.sh hF38 [1, 2, 3, 4, 5] (by decide) rfl) ?_
    refine a0v 3 rfl (by kernel_rfl) ?_
    obtain ⟨v33, hv26, hb2⟩ := bind_some hb2
    refine a0i ent29 rfl rfl rfl rfl hx67 (a2v _ _ _ _ hv26 hx67.sat hs35 (SlR.nil _ _)) ?_
    rintro _ Fx39 _ wx65 hF39 hx68 ⟨as36, ns36, cs36, xss36, rfl, rfl, hs36⟩
    refine a0o (hx68.sh (hF38.trans hF39) [2, 3, 4, 5, 6] (by decide) rfl) ?_
    refine a0v 4 rfl (by kernel_rfl) ?_
    obtain ⟨Fx40, hF40, hx69, hsx8⟩ := a1c hx68 (i := 0) rfl hs36
    obtain ⟨v34, hv27, hb2⟩ := bind_some hb2
    refine a0i ent28 rfl rfl rfl rfl hx69 (a1r _ _ _ _ hv27 hx69.sat hsx8) ?_
    rintro _ Fx41 _ wx66 hF41 hx70 ⟨as37, ns37, cs37, rfl, rfl, hs37⟩
    refine a0o (hx70.sh (((hF38.trans hF39).trans hF40).trans hF41) [1, 2, 3, 4, 5] (by decide) rfl) ?_
    refine a0v 5 rfl (by kernel_rfl) ?_
    obtain ⟨v35, hv28, hb2⟩ := bind_some hb2
    refine a0i ent29 rfl rfl rfl rfl hx70 (a2v _ _ _ _ hv28 hx70.sat (SlR.nil _ _) hs37) ?_
    rintro _ Fx42 _ wx67 hF42 hx71 ⟨as38, ns38, cs38, xss38, rfl, rfl, hs38⟩
    refine a0o (hx71.sh ((((hF38.trans hF39).trans hF40).trans hF41).trans hF42) [2, 3, 4, 5, 6] (by decide) rfl) ?_
    refine a0v 6 rfl (by kernel_rfl) ?_
    obtain ⟨Fx43, hF43, hx72, hsx9⟩ := a1c hx71 (i := 0) rfl hs38
    obtain ⟨v36, hv29, hb2⟩ := bind_some hb2
    refine a0i ent28 rfl rfl rfl rfl hx72 (a1r _ _ _ _ hv29 hx72.sat hsx9) ?_
    rintro _ Fx44 _ wx68 hF44 hx73 ⟨as39, ns39, cs39, rfl, rfl, hs39⟩
    refine a0o (hx73.sh ((((((hF38.trans hF39).trans hF40).trans hF41).trans hF42).trans hF43).trans hF44) [1, 2, 3, 4, 5] (by decide) rfl) ?_
    refine a0v 8 rfl (by kernel_rfl) ?_
    refine a0p sz24 rfl hx73 rfl rfl rfl rfl (i := 0) rfl rfl rfl rfl ?_
    intro wx69 hx74
    refine a0o (hx74.sh ((((((hF38.trans hF39).trans hF40).trans hF41).trans hF42).trans hF43).trans hF44) [1, 2, 3, 4, 5] (by decide) rfl) ?_
    refine a2g (by kernel_rfl) ?_
    refine a0n (fun a ha => ?_)
    cases hb2
    exact ⟨_, b18, as39, ns39, cs39, ((((((hF38.trans hF39).trans hF40).trans hF41).trans hF42).trans hF43).trans hF44), hx74.pick [0, 1, 2, 3, 4, 5] (by decide) rfl, hs39, ha.cut (l := [3, 5, 7, 8, 9, 10]) rfl⟩
 ·clear hm
  refine a1w (SH Fx4 [.box b5 24 [.int .i64 2, .int .i64 0, vs [], .slice none 0 0], .box b4 24 [.int .i64 4, .int .i64 0, vs [112, 97, 112, 101, 114], .slice none 0 0], .box b2 37 [.int .i64 v2.1.P.Sign, .slice as3 ns3 cs3, .int .i64 v2.1.Q.Sign, .slice as4 ns4 cs4], .box b1 37 [.int .i64 v1.1.P.Sign, .slice as1 ns1 cs1, .int .i64 v1.1.Q.Sign, .slice as2 ns2 cs2]]) 12 rfl (by kernel_rfl) hx14 ?_
  intro wx70 hx75
  refine d_tk 0 rfl (by kernel_rfl) rfl rfl rfl rfl (hx75.sh (Frz.refl _) [0, 1, 2, 3] (by decide) rfl) (fun _ _ _ _ hq => a0l ag24 sz24 rfl rfl hq rfl (i := 1) rfl rfl (a0c (qq rfl))) ?_
  refine d_tk 4 rfl (by kernel_rfl) rfl rfl rfl rfl (hx75.sh (Frz.refl _) [0, 1, 2, 3] (by decide) rfl) (fun _ _ _ _ _ => a0e rfl rfl rfl (a0c (qq rfl))) ?_
  refine a9g 1 9 rfl rfl (by kernel_rfl) ?_ ?_
  ·obtain ⟨v37, hv30, hb1⟩ := bind_some hb1
   refine a0i ent30 rfl rfl rfl rfl hx75 (a3b _ _ _ hv30 hx75.sat) ?_
   rintro _ Fx45 _ wx71 hF45 hx76 ⟨as40, ns40, cs40, rfl, rfl, hs40⟩
   refine a0o (hx76.sh hF45 [0, 1, 2, 3] (by decide) rfl) ?_
   refine a9g 2 9 rfl rfl (by kernel_rfl) ?_ ?_
   ·obtain ⟨v38, hv31, hb1⟩ := bind_some hb1
    refine a0i ent29 rfl rfl rfl rfl hx76 (a2v _ _ _ _ hv31 hx76.sat (SlR.nil _ _) hs40) ?_
    rintro _ Fx46 _ wx72 hF46 hx77 ⟨as41, ns41, cs41, xss41, rfl, rfl, hs41⟩
    refine a0o (hx77.sh (hF45.trans hF46) [1, 2, 3, 4] (by decide) rfl) ?_
    refine a9g 3 9 rfl rfl (by kernel_rfl) ?_ ?_
    ·obtain ⟨Fx47, hF47, hx78, hsx10⟩ := a1c hx77 (i := 0) rfl hs41
     obtain ⟨v39, hv32, hb1⟩ := bind_some hb1
     refine a0i ent28 rfl rfl rfl rfl hx78 (a1r _ _ _ _ hv32 hx78.sat hsx10) ?_
     rintro _ Fx48 _ wx73 hF48 hx79 ⟨as42, ns42, cs42, rfl, rfl, hs42⟩
     refine a0o (hx79.sh (((hF45.trans hF46).trans hF47).trans hF48) [0, 1, 2, 3] (by decide) rfl) ?_
     refine a9g 5 9 rfl rfl (by kernel_rfl) ?_ ?_
     ·have hG9 := ((hF45.trans hF46).trans hF47).trans hF48
      obtain ⟨v40, hv33, hb1⟩ := bind_some hb1
      refine a0i ent27 rfl rfl rfl rfl hx79 (a5h _ _ _ _ hv33 hx79.sat hs42 (hsx1.mono hG9)) ?_
      rintro _ Fx49 _ wx74 hF49 hx80 ⟨as43, ns43, cs43, as44, ns44, cs44, rfl, rfl, hs43, hs44⟩
      refine a0o (hx80.sh ((((hF45.trans hF46).trans hF47).trans hF48).trans hF49) [0, 1, 2, 3] (by decide) rfl) ?_
      refine d_tk 6 rfl (by kernel_rfl) rfl rfl rfl rfl (hx80.sh ((((hF45.trans hF46).trans hF47).trans hF48).trans hF49) [0, 1, 2, 3] (by decide) rfl) (fun _ _ _ _ _ => a0e rfl rfl rfl (a0c (qq rfl))) ?_
      refine d_tk 7 rfl (by kernel_rfl) rfl rfl rfl rfl (hx80.sh ((((hF45.trans hF46).trans hF47).trans hF48).trans hF49) [0, 1, 2, 3] (by decide) rfl) (fun _ _ _ _ _ => a0j rfl rfl rfl rfl (a0c (qq rfl))) ?_
      refine d_tk 8 rfl (by kernel_rfl) rfl rfl rfl rfl (hx80.sh ((((hF45.trans hF46).trans hF47).trans hF48).trans hF49) [0, 1, 2, 3] (by decide) rfl) (fun _ _ _ _ _ => a0j rfl rfl rfl rfl (a0c (qq rfl))) ?_
      refine a0v 9 rfl (by kernel_rfl) ?_
      refine a1b ze37 rfl rfl rfl hx80 ?_
      intro b19 wx75 hx81
      refine a0o (hx81.sh ((((hF45.trans hF46).trans hF47).trans hF48).trans hF49) [1, 2, 3, 4] (by decide) rfl) ?_
      refine a0v 10 rfl (by kernel_rfl) ?_
      refine a0p sz37 rfl hx81 rfl rfl rfl rfl (i := 0) rfl rfl rfl rfl ?_
      intro wx76 hx82
      refine a0o (hx82.sh ((((hF45.trans hF46).trans hF47).trans hF48).trans hF49) [1, 2, 3, 4] (by decide) rfl) ?_
      refine d_tk 11 rfl (by kernel_rfl) rfl rfl rfl rfl (hx82.sh ((((hF45.trans hF46).trans hF47).trans hF48).trans hF49) [1, 2, 3, 4] (by decide) rfl) (fun _ _ _ _ _ => a0b rfl rfl rfl (a0c (qq rfl))) ?_
      refine a2g (by kernel_rfl) ?_
      refine a0n (fun a ha => ?_)
      cases hb1
      exact ⟨_, b19, as43, ns43, cs43, as44, ns44, cs44, ((((hF45.trans hF46).trans hF47).trans hF48).trans hF49), hx82.pick [0, 1, 2, 3, 4] (by decide) rfl, hs43, hs44, ha.cut (l := [3, 5, 6, 7, 8, 9]) rfl⟩
     ·refine a1b ze37 rfl rfl rfl hx79 ?_
      intro b19 wx74 hx80
      refine a0o (hx80.sh (((hF45.trans hF46).trans hF47).trans hF48) [1, 2, 3, 4] (by decide) rfl) ?_
      refine a0v 5 rfl (by kernel_rfl) ?_
      have hG9 := ((hF45.trans hF46).trans hF47).trans hF48
      obtain ⟨v40, hv33, hb1⟩ := bind_some hb1
      refine a0i ent27 rfl rfl rfl rfl hx80 (a5h _ _ _ _ hv33 hx80.sat hs42 (hsx1.mono hG9)) ?_
      rintro _ Fx49 _ wx75 hF49 hx81 ⟨as43, ns43, cs43, as44, ns44, cs44, rfl, rfl, hs43, hs44⟩
      refine a0o (hx81.sh ((((hF45.trans hF46).trans hF47).trans hF48).trans hF49) [1, 2, 3, 4] (by decide) rfl) ?_
      refine d_tk 6 rfl (by kernel_rfl) rfl rfl rfl rfl (hx81.sh ((((hF45.trans hF46).trans hF47).trans hF48).trans hF49) [1, 2, 3, 4] (by decide) rfl) (fun _ _ _ _ _ => a0e rfl rfl rfl (a0c (qq rfl))) ?_
      refine d_tk 7 rfl (by kernel_rfl) rfl rfl rfl rfl (hx81.sh ((((hF45.trans hF46).trans hF47).trans hF48).trans hF49) [1, 2, 3, 4] (by decide) rfl) (fun _ _ _ _ _ => a0j rfl rfl rfl rfl (a0c (qq rfl))) ?_
      refine d_tk 8 rfl (by kernel_rfl) rfl rfl rfl rfl (hx81.sh ((((hF45.trans hF46).trans hF47).trans hF48).trans hF49) [1, 2, 3, 4] (by decide) rfl) (fun _ _ _ _ _ => a0j rfl rfl rfl rfl (a0c (qq rfl))) ?_
      refine a0v 10 rfl (by kernel_rfl) ?_
      refine a0p sz37 rfl hx81 rfl rfl rfl rfl (i := 0) rfl rfl rfl rfl ?_
      intro wx76 hx82
      refine a0o (hx82.sh ((((hF45.trans hF46).trans hF47).trans hF48).trans hF49) [1, 2, 3, 4] (by decide) rfl) ?_
      refine d_tk 11 rfl (by kernel_rfl) rfl rfl rfl rfl (hx82.sh ((((hF45.trans hF46).trans hF47).trans hF48).trans hF49) [1, 2, 3, 4] (by decide) rfl) (fun _ _ _ _ _ => a0b rfl rfl rfl (a0c (qq rfl))) ?_
      refine a2g (by kernel_rfl) ?_
      refine a0n (fun a ha => ?_)
      cases hb1
      exact ⟨_, b19, as43, ns43, cs43, as44, ns44, cs44, ((((hF45.trans hF46).trans hF47).trans hF48).trans hF49), hx82.pick [0, 1, 2, 3, 4] (by decide) rfl, hs43, hs44, ha.cut (l := [3, 5, 6, 7, 8, 9]) rfl⟩
    ·refine a1b ze37 rfl rfl rfl hx77 ?_
     intro b19 wx73 hx78
     refine a0o (hx78.sh (hF45.trans hF46) [2, 3, 4, 5] (by decide) rfl) ?_
     refine a0v 3 rfl (by kernel_rfl) ?_
     obtain ⟨Fx47, hF47, hx79, hsx10⟩ := a1c hx78 (i := 1) rfl hs41
     obtain ⟨v39, hv32, hb1⟩ := bind_some hb1
     refine a0i ent28 rfl rfl rfl rfl hx79 (a1r _ _ _ _ hv32 hx79.sat hsx10) ?_
     rintro _ Fx48 _ wx74 hF48 hx80 ⟨as42, ns42, cs42, rfl, rfl, hs42⟩
     refine a0o (hx80.sh (((hF45.trans hF46).trans hF47).trans hF48) [1, 2, 3, 4] (by decide) rfl) ?_
     refine a0v 5 rfl (by kernel_rfl) ?_
     have hG9 := ((hF45.trans hF46).trans hF47).trans hF48
     obtain ⟨v40, hv33, hb1⟩ := bind_some hb1
     refine a0i ent27 rfl rfl rfl rfl hx80 (a5h _ _ _ _ hv33 hx80.sat hs42 (hsx1.mono hG9)) ?_
     rintro _ Fx49 _ wx75 hF49 hx81 ⟨as43, ns43, cs43, as44, ns44, cs44, rfl, rfl, hs43, hs44⟩
     refine a0o (hx81.sh ((((hF45.trans hF46).trans hF47).trans hF48).trans hF49) [1, 2, 3, 4] (by decide) rfl) ?_
     refine d_tk 6 rfl (by kernel_rfl) rfl rfl rfl rfl (hx81.sh ((((hF45.trans hF46).trans hF47).trans hF48).trans hF49) [1, 2, 3, 4] (by decide) rfl) (fun _ _ _ _ _ => a0e rfl rfl rfl (a0c (qq rfl))) ?_
     refine d_tk 7 rfl (by kernel_rfl) rfl rfl rfl rfl (hx81.sh ((((hF45.trans hF46).trans hF47).trans hF48).trans hF49) [1, 2, 3, 4] (by decide) rfl) (fun _ _ _ _ _ => a0j rfl rfl rfl rfl (a0c (qq rfl))) ?_
     refine d_tk 8 rfl (by kernel_rfl) rfl rfl rfl rfl (hx81.sh ((((hF45.trans hF46).trans hF47).trans hF48).trans hF49) [1, 2, 3, 4] (by decide) rfl) (fun _ _ _ _ _ => a0j rfl rfl rfl rfl (a0c (qq rfl))) ?_
     refine a0v 10 rfl (by kernel_rfl) ?_
     refine a0p sz37 rfl hx81 rfl rfl rfl rfl (i := 0) rfl rfl rfl rfl ?_
     intro wx76 hx82
     refine a0o (hx82.sh ((((hF45.trans hF46).trans hF47).trans hF48).trans hF49) [1, 2, 3, 4] (by decide) rfl) ?_
     refine d_tk 11 rfl (by kernel_rfl) rfl rfl rfl rfl (hx82.sh ((((hF45.trans hF46).trans hF47).trans hF48).trans hF49) [1, 2, 3, 4] (by decide) rfl) (fun _ _ _ _ _ => a0b rfl rfl rfl (a0c (qq rfl))) ?_
     refine a2g (by kernel_rfl) ?_
     refine a0n (fun a ha => ?_)
     cases hb1
     exact ⟨_, b19, as43, ns43, cs43, as44, ns44, cs44, ((((hF45.trans hF46).trans hF47).trans hF48).trans hF49), hx82.pick [0, 1, 2, 3, 4] (by decide) rfl, hs43, hs44, ha.cut (l := [3, 5, 6, 7, 8, 9]) rfl⟩
   ·refine a1b ze37 rfl rfl rfl hx76 ?_
    intro b19 wx72 hx77
    refine a0o (hx77.sh hF45 [1, 2, 3, 4] (by decide) rfl) ?_
    refine a0v 2 rfl (by kernel_rfl) ?_
    obtain ⟨v38, hv31, hb1⟩ := bind_some hb1
    refine a0i ent29 rfl rfl rfl rfl hx77 (a2v _ _ _ _ hv31 hx77.sat (SlR.nil _ _) hs40) ?_
    rintro _ Fx46 _ wx73 hF46 hx78 ⟨as41, ns41, cs41, xss41, rfl, rfl, hs41⟩
    refine a0o (hx78.sh (hF45.trans hF46) [2, 3, 4, 5] (by decide) rfl) ?_
    refine a0v 3 rfl (by kernel_rfl) ?_
    obtain ⟨Fx47, hF47, hx79, hsx10⟩ := a1c hx78 (i := 0) rfl hs41
    obtain ⟨v39, hv32, hb1⟩ := bind_some hb1
    refine a0i ent28 rfl rfl rfl rfl hx79 (a1r _ _ _ _ hv32 hx79.sat hsx10) ?_
    rintro _ Fx48 _ wx74 hF48 hx80 ⟨as42, ns42, cs42, rfl, rfl, hs42⟩
    refine a0o (hx80.sh (((hF45.trans hF46).trans hF47).trans hF48) [1, 2, 3, 4] (by decide) rfl) ?_
    refine a0v 5 rfl (by kernel_rfl) ?_
    have hG9 := ((hF45.trans hF46).trans hF47).trans hF48
    obtain ⟨v40, hv33, hb1⟩ := bind_some hb1
    refine a0i ent27 rfl rfl rfl rfl hx80 (a5h _ _ _ _ hv33 hx80.sat hs42 (hsx1.mono hG9)) ?_
    rintro _ Fx49 _ wx75 hF49 hx81 ⟨as43, ns43, cs43, as44, ns44, cs44, rfl, rfl, hs43, hs44⟩
    refine a0o (hx81.sh ((((hF45.trans hF46).trans hF47).trans hF48).trans hF49) [1, 2, 3, 4] (by decide) rfl) ?_
    refine d_tk 6 rfl (by kernel_rfl) rfl rfl rfl rfl (hx81.sh ((((hF45.trans hF46).trans hF47).trans hF48).trans hF49) [1, 2, 3, 4] (by decide) rfl) (fun _ _ _ _ _ => a0e rfl rfl rfl (a0c (qq rfl))) ?_
    refine d_tk 7 rfl (by kernel_rfl) rfl rfl rfl rfl (hx81.sh ((((hF45.trans hF46).trans hF47).trans hF48).trans hF49) [1, 2, 3, 4] (by decide) rfl) (fun _ _ _ _ _ => a0j rfl rfl rfl rfl (a0c (qq rfl))) ?_
    refine d_tk 8 rfl (by kernel_rfl) rfl rfl rfl rfl (hx81.sh ((((hF45.trans hF46).trans hF47).trans hF48).trans hF49) [1, 2, 3, 4] (by decide) rfl) (fun _ _ _ _ _ => a0j rfl rfl rfl rfl (a0c (qq rfl))) ?_
    refine a0v 10 rfl (by kernel_rfl) ?_
    refine a0p sz37 rfl hx81 rfl rfl rfl rfl (i := 0) rfl rfl rfl rfl ?_
    intro wx76 hx82
    refine a0o (hx82.sh ((((hF45.trans hF46).trans hF47).trans hF48).trans hF49) [1, 2, 3, 4] (by decide) rfl) ?_
    refine d_tk 11 rfl (by kernel_rfl) rfl rfl rfl rfl (hx82.sh ((((hF45.trans hF46).trans hF47).trans hF48).trans hF49) [1, 2, 3, 4] (by decide) rfl) (fun _ _ _ _ _ => a0b rfl rfl rfl (a0c (qq rfl))) ?_
    refine a2g (by kernel_rfl) ?_
    refine a0n (fun a ha => ?_)
    cases hb1
    exact ⟨_, b19, as43, ns43, cs43, as44, ns44, cs44, ((((hF45.trans hF46).trans hF47).trans hF48).trans hF49), hx82.pick [0, 1, 2, 3, 4] (by decide) rfl, hs43, hs44, ha.cut (l := [3, 5, 6, 7, 8, 9]) rfl⟩
  ·refine a1b ze37 rfl rfl rfl hx75 ?_
   intro b19 wx71 hx76
   refine a0o (hx76.sh (Frz.refl _) [1, 2, 3, 4] (by decide) rfl) ?_
   refine a0v 1 rfl (by kernel_rfl) ?_
   obtain ⟨v37, hv30, hb1⟩ := bind_some hb1
   refine a0i ent30 rfl rfl rfl rfl hx76 (a3b _ _ _ hv30 hx76.sat) ?_
   rintro _ Fx45 _ wx72 hF45 hx77 ⟨as40, ns40, cs40, rfl, rfl, hs40⟩
   refine a0o (hx77.sh hF45 [1, 2, 3, 4] (by decide) rfl) ?_
   refine a0v 2 rfl (by kernel_rfl) ?_
   obtain ⟨v38, hv31, hb1⟩ := bind_some hb1
   refine a0i ent29 rfl rfl rfl rfl hx77 (a2v _ _ _ _ hv31 hx77.sat (SlR.nil _ _) hs40) ?_
   rintro _ Fx46 _ wx73 hF46 hx78 ⟨as41, ns41, cs41, xss41, rfl, rfl, hs41⟩
   refine a0o (hx78.sh (hF45.trans hF46) [2, 3, 4, 5] (by decide) rfl) ?_
   refine a0v 3 rfl (by kernel_rfl) ?_
   obtain ⟨Fx47, hF47, hx79, hsx10⟩ := a1c hx78 (i := 0) rfl hs41
   obtain ⟨v39, hv32, hb1⟩ := bind_some hb1
   refine a0i ent28 rfl rfl rfl rfl hx79 (a1r _ _ _ _ hv32 hx79.sat hsx10) ?_
   rintro _ Fx48 _ wx74 hF48 hx80 ⟨as42, ns42, cs42, rfl, rfl, hs42⟩
   refine a0o (hx80.sh (((hF45.trans hF46).trans hF47).trans hF48) [1, 2, 3, 4] (by decide) rfl) ?_
   refine a0v 5 rfl (by kernel_rfl) ?_
   have hG9 := ((hF45.trans hF46).trans hF47).trans hF48
   obtain ⟨v40, hv33, hb1⟩ := bind_some hb1
   refine a0i ent27 rfl rfl rfl rfl hx80 (a5h _ _ _ _ hv33 hx80.sat hs42 (hsx1.mono hG9)) ?_
   rintro _ Fx49 _ wx75 hF49 hx81 ⟨as43, ns43, cs43, as44, ns44, cs44, rfl, rfl, hs43, hs44⟩
   refine a0o (hx81.sh ((((hF45.trans hF46).trans hF47).trans hF48).trans hF49) [1, 2, 3, 4] (by decide) rfl) ?_
   refine d_tk 6 rfl (by kernel_rfl) rfl rfl rfl rfl (hx81.sh ((((hF45.trans hF46).trans hF47).trans hF48).trans hF49) [1, 2, 3, 4] (by decide) rfl) (fun _ _ _ _ _ => a0e rfl rfl rfl (a0c (qq rfl))) ?_
   refine d_tk 7 rfl (by kernel_rfl) rfl rfl rfl rfl (hx81.sh ((((hF45.trans hF46).trans hF47).trans hF48).trans hF49) [1, 2, 3, 4] (by decide) rfl) (fun _ _ _ _ _ => a0j rfl rfl rfl rfl (a0c (qq rfl))) ?_
   refine d_tk 8 rfl (by kernel_rfl) rfl rfl rfl rfl (hx81.sh ((((hF45.trans hF46).trans hF47).trans hF48).trans hF49) [1, 2, 3, 4] (by decide) rfl) (fun _ _ _ _ _ => a0j rfl rfl rfl rfl (a0c (qq rfl))) ?_
   refine a0v 10 rfl (by kernel_rfl) ?_
   refine a0p sz37 rfl hx81 rfl rfl rfl rfl (i := 0) rfl rfl rfl rfl ?_
   intro wx76 hx82
   refine a0o (hx82.sh ((((hF45.trans hF46).trans hF47).trans hF48).trans hF49) [1, 2, 3, 4] (by decide) rfl) ?_
   refine d_tk 11 rfl (by kernel_rfl) rfl rfl rfl rfl (hx82.sh ((((hF45.trans hF46).trans hF47).trans hF48).trans hF49) [1, 2, 3, 4] (by decide) rfl) (fun _ _ _ _ _ => a0b rfl rfl rfl (a0c (qq rfl))) ?_
   refine a2g (by kernel_rfl) ?_
   refine a0n (fun a ha => ?_)
   cases hb1
   exact ⟨_, b19, as43, ns43, cs43, as44, ns44, cs44, ((((hF45.trans hF46).trans hF47).trans hF48).trans hF49), hx82.pick [0, 1, 2, 3, 4] (by decide) rfl, hs43, hs44, ha.cut (l := [3, 5, 6, 7, 8, 9]) rfl⟩
end Go.Proofs.YtknpjecpcmajiaaGreat.M

namespace Go.Proofs.YtknpjecpcmajiaaGreat.M
open Go Go.RowKit Rt
theorem ent56 : Ent Tryz.prog 56 := fun _ _ => by kernel_rfl
def a3n (n : Nat) (f1 : Frac) : Option Frac :=
 ((b4s n f1).bind fun v1 =>
 (a5x n f1 v1).bind fun v2 =>
 some (v2.1.P.Sign, v2.1.P.Digits, v2.1.Q.Sign, v2.1.Q.Digits)).bind fun (f2, f3, f4, f5) =>
 some (⟨(⟨f2, f3⟩ : Big), (⟨f4, f5⟩ : Big)⟩ : Frac)
set_option maxHeartbeats 1000000 in
set_option maxRecDepth 1000000 in
theorem a6m (n : Nat) (f1 : Frac) (r : Frac) (hm : a3n n f1 = some r) {w : World} {F : Frz} (hs : Sat F w) {as1 : Option Addr} {ns1 : Nat} {cs1 : Nat} {as2 : Option Addr} {ns2 : Nat} {cs2 : Nat} (hs1 : SlR (Rp.int .i64) F as1 ns1 cs1 f1.P.Digits) (hs2 : SlR (Rp.int .i64) F as2 ns2 cs2 f1.Q.Digits) :
  Calls Tryz.prog 24 #[.agg #[.int .i64 f1.P.Sign, .slice as1 ns1 cs1, .int .i64 f1.Q.Sign, .slice as2 ns2 cs2]] w fun e w' => ∃ v F' O', e = .returned v ∧ HS F w [] F' O' w' ∧ (∃ (a0_1 : Option Addr) (n0_1 : Nat) (c0_1 : Nat) (a0_3 : Option Addr) (n0_3 : Nat) (c0_3 : Nat), v = .agg #[.int .i64 r.P.Sign, .slice a0_1 n0_1 c0_1, .int .i64 r.Q.Sign, .slice a0_3 n0_3 c0_3] ∧ O' = [] ∧ SlR (Rp.int .i64) F' a0_1 n0_1 c0_1 r.P.Digits ∧ SlR (Rp.int .i64) F' a0_3 n0_3 c0_3 r.Q.Digits) := by
 unfold a3n at hm
 have h := HS.init hs
 refine a1a 13 Tryz.func24 rfl rfl rfl ?_
 refine a0f (a0a ?_)
 refine a2t rfl rfl rfl rfl h ?_
 intro b1 wx1 hx1
 refine a1b ze37 rfl rfl rfl hx1 ?_
 intro b2 wx2 hx2
 refine a0c (a0d ?_)
 obtain ⟨⟨f2, f3, f4, f5⟩, hb1, hm⟩ := bind_some hm
 refine c1n (fun a w' => ∃ (Fx1 : Frz) (b3 : Nat) (as3 : Option Addr) (ns3 : Nat) (cs3 : Nat) (as4 : Option Addr) (ns4 : Nat) (cs4 : Nat), Frz.le F Fx1 ∧ HS F w [] Fx1 [.box b3 37 [.int .i64 f2, .slice as3 ns3 cs3, .int .i64 f4, .slice as4 ns4 cs4], .box b2 37 [.int .i64 0, .slice none 0 0, .int .i64 0, .slice none 0 0], .box b1 37 [.int .i64 f1.P.Sign, .slice as1 ns1 cs1, .int .i64 f1.Q.Sign, .slice as2 ns2 cs2]] w' ∧ (SlR (Rp.int .i64) Fx1 as3 ns3 cs3 f3) ∧ (SlR (Rp.int .i64) Fx1 as4 ns4 cs4 f5) ∧ Has 13 a [(2, .pointer (some ⟨b2, 0, none⟩)), (3, .pointer (some ⟨b3, 0, none⟩))]) ?_ ?_
 ·rintro a wx3 ⟨Fx1, b3, as3, ns3, cs3, as4, ns4, cs4, hF1, hx3, hs3, hs4, hax1⟩
  refine a1i hax1 ?_
  refine a0f (a0a ?_)
  refine a0l ag37 sz37 rfl rfl hx3 rfl (i := 0) rfl rfl ?_
  refine a0p sz37 rfl hx3 rfl rfl rfl rfl (i := 1) rfl rfl rfl rfl ?_
  intro wx4 hx4
  refine a0c (a0d (a1d ?_))
  refine a3r rfl ag37 sz37 rfl hx4 rfl (i := 1) rfl ?_
  obtain rfl := Option.some.inj hm
  exact ⟨_, _, _, rfl, hx4.pick [] (by decide) rfl, as3, ns3, cs3, as4, ns4, cs4, rfl, rfl, hs3, hs4⟩
 ·clear hm
  refine a1w (SH F [.box b2 37 [.int .i64 0, .slice none 0 0, .int .i64 0, .slice none 0 0], .box b1 37 [.int .i64 f1.P.Sign, .slice as1 ns1 cs1, .int .i64 f1.Q.Sign, .slice as2 ns2 cs2]]) 10 rfl (by kernel_rfl) hx2 ?_
  intro wx5 hx5
  refine d_tk 0 rfl (by kernel_rfl) rfl rfl rfl rfl (hx5.sh (Frz.refl _) [0, 1] (by decide) rfl) (fun _ _ _ _ hq => a0l ag37 sz37 rfl rfl hq rfl (i := 1) rfl rfl (a0c (qq rfl))) ?_
  refine d_tk 1 rfl (by kernel_rfl) rfl rfl rfl rfl (hx5.sh (Frz.refl _) [0, 1] (by decide) rfl) (fun _ _ _ _ hq => a0l ag37 sz37 rfl rfl hq rfl (i := 1) rfl rfl (a0c (qq rfl))) ?_
  refine a9g 2 7 rfl rfl (by kernel_rfl) ?_ ?_
  ·obtain ⟨v1, hv1, hb1⟩ := bind_some hb1
   refine a0i ent56 rfl rfl rfl rfl hx5 (b7m _ _ _ hv1 hx5.sat hs1 hs2) ?_
   rintro _ Fx2 _ wx6 hF2 hx6 ⟨as5, ns5, cs5, as6, ns6, cs6, rfl, rfl, hs5, hs6⟩
   refine a0o (hx6.sh hF2 [0, 1] (by decide) rfl) ?_
   refine a9g 3 7 rfl rfl (by kernel_rfl) ?_ ?_
   ·obtain ⟨v2, hv2, hb1⟩ := bind_some hb1
    refine a0i ent23 rfl rfl rfl rfl hx6 (a7a _ _ _ _ hv2 hx6.sat (hs1.mono hF2) (hs2.mono hF2) hs5 hs6) ?_
    rintro _ Fx3 _ wx7 hF3 hx7 ⟨as7, ns7, cs7, as8, ns8, cs8, rfl, rfl, hs7, hs8⟩
    refine a0o (hx7.sh (hF2.trans hF3) [0, 1] (by decide) rfl) ?_
    refine d_tk 4 rfl (by kernel_rfl) rfl rfl rfl rfl (hx7.sh (hF2.trans hF3) [0, 1] (by decide) rfl) (fun _ _ _ _ _ => a0e rfl rfl rfl (a0c (qq rfl))) ?_
    refine d_tk 5 rfl (by kernel_rfl) rfl rfl rfl rfl (hx7.sh (hF2.trans hF3) [0, 1] (by decide) rfl) (fun _ _ _ _ _ => a0j rfl rfl rfl rfl (a0c (qq rfl))) ?_
    refine d_tk 6 rfl (by kernel_rfl) rfl rfl rfl rfl (hx7.sh (hF2.trans hF3) [0, 1] (by decide) rfl) (fun _ _ _ _ _ => a0j rfl rfl rfl rfl (a0c (qq rfl))) ?_
    refine a0v 7 rfl (by kernel_rfl) ?_
    refine a1b ze37 rfl rfl rfl hx7 ?_
    intro b4 wx8 hx8
    refine a0o (hx8.sh (hF2.trans hF3) [1, 2] (by decide) rfl) ?_
    refine a0v 8 rfl (by kernel_rfl) ?_
    refine a0p sz37 rfl hx8 rfl rfl rfl rfl (i := 0) rfl rfl rfl rfl ?_
    intro wx9 hx9
    refine a0o (hx9.sh (hF2.trans hF3) [1, 2] (by decide) rfl) ?_
    refine d_tk 9 rfl (by kernel_rfl) rfl rfl rfl rfl (hx9.sh (hF2.trans hF3) [1, 2] (by decide) rfl) (fun _ _ _ _ _ => a0b rfl rfl rfl (a0c (qq rfl))) ?_
    refine a2g (by kernel_rfl) ?_
    refine a0n (fun a ha => ?_)
    cases hb1
    exact ⟨_, b4, as7, ns7, cs7, as8, ns8, cs8, (hF2.trans hF3), hx9.pick [0, 1, 2] (by decide) rfl, hs7, hs8, ha.cut (l := [2, 3]) rfl⟩
   ·refine a1b ze37 rfl rfl rfl hx6 ?_
    intro b4 wx7 hx7
    refine a0o (hx7.sh hF2 [1, 2] (by decide) rfl) ?_
    refine a0v 3 rfl (by kernel_rfl) ?_
    obtain ⟨v2, hv2, hb1⟩ := bind_some hb1
    refine a0i ent23 rfl rfl rfl rfl hx7 (a7a _ _ _ _ hv2 hx7.sat (hs1.mono hF2) (hs2.mono hF2) hs5 hs6) ?_
    rintro _ Fx3 _ wx8 hF3 hx8 ⟨as7, ns7, cs7, as8, ns8, cs8, rfl, rfl, hs7, hs8⟩
    refine a0o (hx8.sh (hF2.trans hF3) [1, 2] (by decide) rfl) ?_
    refine d_tk 4 rfl (by kernel_rfl) rfl rfl rfl rfl (hx8.sh (hF2.trans hF3) [1, 2] (by decide) rfl) (fun _ _ _ _ _ => a0e rfl rfl rfl (a0c (qq rfl))) ?_
    refine d_tk 5 rfl (by kernel_rfl) rfl rfl rfl rfl (hx8.sh (hF2.trans hF3) [1, 2] (by decide) rfl) (fun _ _ _ _ _ => a0j rfl rfl rfl rfl (a0c (qq rfl))) ?_
    refine d_tk 6 rfl (by kernel_rfl) rfl rfl rfl rfl (hx8.sh (hF2.trans hF3) [1, 2] (by decide) rfl) (fun _ _ _ _ _ => a0j rfl rfl rfl rfl (a0c (qq rfl))) ?_
    refine a0v 8 rfl (by kernel_rfl) ?_
    refine a0p sz37 rfl hx8 rfl rfl rfl rfl (i := 0) rfl rfl rfl rfl ?_
    intro wx9 hx9
    refine a0o (hx9.sh (hF2.trans hF3) [1, 2] (by decide) rfl) ?_
    refine d_tk 9 rfl (by kernel_rfl) rfl rfl rfl rfl (hx9.sh (hF2.trans hF3) [1, 2] (by decide) rfl) (fun _ _ _ _ _ => a0b rfl rfl rfl (a0c (qq rfl))) ?_
    refine a2g (by kernel_rfl) ?_
    refine a0n (fun a ha => ?_)
    cases hb1
    exact ⟨_, b4, as7, ns7, cs7, as8, ns8, cs8, (hF2.trans hF3), hx9.pick [0, 1, 2] (by decide) rfl, hs7, hs8, ha.cut (l := [2, 3]) rfl⟩
  ·refine a1b ze37 rfl rfl rfl hx5 ?_
   intro b4 wx6 hx6
   refine a0o (hx6.sh (Frz.refl _) [1, 2] (by decide) rfl) ?_
   refine a0v 2 rfl (by kernel_rfl) ?_
   obtain ⟨v1, hv1, hb1⟩ := bind_some hb1
   refine a0i ent56 rfl rfl rfl rfl hx6 (b7m _ _ _ hv1 hx6.sat hs1 hs2) ?_
   rintro _ Fx2 _ wx7 hF2 hx7 ⟨as5, ns5, cs5, as6, ns6, cs6, rfl, rfl, hs5, hs6⟩
   refine a0o (hx7.sh hF2 [1, 2] (by decide) rfl) ?_
   refine a0v 3 rfl (by kernel_rfl) ?_
   obtain ⟨v2, hv2, hb1⟩ := bind_some hb1
   refine a0i ent23 rfl rfl rfl rfl hx7 (a7a _ _ _ _ hv2 hx7.sat (hs1.mono hF2) (hs2.mono hF2) hs5 hs6) ?_
   rintro _ Fx3 _ wx8 hF3 hx8 ⟨as7, ns7, cs7, as8, ns8, cs8, rfl, rfl, hs7, hs8⟩
   refine a0o (hx8.sh (hF2.trans hF3) [1, 2] (by decide) rfl) ?_
   refine d_tk 4 rfl (by kernel_rfl) rfl rfl rfl rfl (hx8.sh (hF2.trans hF3) [1, 2] (by decide) rfl) (fun _ _ _ _ _ => a0e rfl rfl rfl (a0c (qq rfl))) ?_
   refine d_tk 5 rfl (by kernel_rfl) rfl rfl rfl rfl (hx8.sh (hF2.trans hF3) [1, 2] (by decide) rfl) (fun _ _ _ _ _ => a0j rfl rfl rfl rfl (a0c (qq rfl))) ?_
   refine d_tk 6 rfl (by kernel_rfl) rfl rfl rfl rfl (hx8.sh (hF2.trans hF3) [1, 2] (by decide) rfl) (fun _ _ _ _ _ => a0j rfl rfl rfl rfl (a0c (qq rfl))) ?_
   refine a0v 8 rfl (by kernel_rfl) ?_
   refine a0p sz37 rfl hx8 rfl rfl rfl rfl (i := 0) rfl rfl rfl rfl ?_
   intro wx9 hx9
   refine a0o (hx9.sh (hF2.trans hF3) [1, 2] (by decide) rfl) ?_
   refine d_tk 9 rfl (by kernel_rfl) rfl rfl rfl rfl (hx9.sh (hF2.trans hF3) [1, 2] (by decide) rfl) (fun _ _ _ _ _ => a0b rfl rfl rfl (a0c (qq rfl))) ?_
   refine a2g (by kernel_rfl) ?_
   refine a0n (fun a ha => ?_)
   cases hb1
   exact ⟨_, b4, as7, ns7, cs7, as8, ns8, cs8, (hF2.trans hF3), hx9.pick [0, 1, 2] (by decide) rfl, hs7, hs8, ha.cut (l := [2, 3]) rfl⟩
theorem ent18 : Ent Tryz.prog 18 := fun _ _ => by kernel_rfl
theorem ent24 : Ent Tryz.prog 24 := fun _ _ => by kernel_rfl
theorem ent25 : Ent Tryz.prog 25 := fun _ _ => by kernel_rfl
theorem ap31 : AppIs Tryz.prog 31 37 4 64 := AppIs.of (z := .agg #[.int .i64 0, .slice none 0 0, .int .i64 0, .slice none 0 0]) (by kernel_rfl) (by kernel_rfl) rfl (by decide) (by decide)
def a4n (n : Nat) (rec_law36_slope : Expr → (List Bs) → Facts → (List Frac) → Option Frac) (x1 : Expr) (names1 : (List Bs)) (f1 : Facts) (weights1 : (List Frac)) (kont1 : (List Frac) → Option Frac) : Nat → Int → (List Frac) → Option Frac
 | 0, _, _ => none
 | mx1 + 1, i1, l1 =>
  bif decide (i1 < (x1.Args.length : Int)) then
   (ix x1.Args i1).bind fun ex12 =>
   (rec_law36_slope ex12 names1 f1 weights1).bind fun v14 =>
   (app 64 l1 [v14]).bind fun l3 =>
   a4n n rec_law36_slope x1 names1 f1 weights1 kont1 mx1 (iadd .i64 i1 1) l3
  else
   kont1 l1
theorem a9x (n : Nat) (rec_law36_slope : Expr → (List Bs) → Facts → (List Frac) → Option Frac) (x1 : Expr) (names1 : (List Bs)) (f1 : Facts) (weights1 : (List Frac)) (kont1 : (List Frac) → Option Frac) (mx1 : Nat) (i1 : Int) (l1 : List Frac) : a4n n rec_law36_slope x1 names1 f1 weights1 kont1 (mx1 + 1) i1 l1 =
  bif decide (i1 < (x1.Args.length : Int)) then
   (ix x1.Args i1).bind fun ex12 =>
   (rec_law36_slope ex12 names1 f1 weights1).bind fun v14 =>
   (app 64 l1 [v14]).bind fun l3 =>
   a4n n rec_law36_slope x1 names1 f1 weights1 kont1 mx1 (iadd .i64 i1 1) l3
  else
   kont1 l1 := rfl
def law36_slope : Nat → Expr → (List Bs) → Facts → (List Frac) → Option Frac
 | 0, _, _, _, _ => none
 | n + 1, x1, names1, f1, weights1 =>
  a4n n (law36_slope n) x1 names1 f1 weights1 (fun (l2 : List Frac) =>
   (a3x n 0).bind fun v1 =>
   bif x1.Op == 4 then
    (a3x n 1).bind fun v2 =>
    some v2
   else
    (bif x1.Op == 5 then
     some true
    else
     some (x1.Op == 6)).bind fun v3 =>
    bif v3 then
     (ix l2 0).bind fun ex1 =>
     (ix l2 1).bind fun ex2 =>
     (b0c n ex1 ex2).bind fun v4 =>
     some v4.1
    else
     (bif x1.Op == 9 then
      some true
     else
      some (x1.Op == 10)).bind fun v5 =>
     bif v5 then
      (ix l2 0).bind fun ex3 =>
      (ix l2 1).bind fun ex4 =>
      (a5x n ex3 ex4).bind fun v6 =>
      some v6.1
     else
      bif x1.Op == 11 then
       (ix l2 1).bind fun ex5 =>
       (ix l2 2).bind fun ex6 =>
       (a5x n ex5 ex6).bind fun v7 =>
       some v7.1
      else
       bif x1.Op == 8 then
        (ix l2 0).bind fun ex7 =>
        (ix x1.Args 1).bind fun ex8 =>
        (a3x n ex8.N).bind fun v8 =>
        (b0s n ex7 v8).bind fun v9 =>
        some v9.1
       else
        bif x1.Op == 7 then
         (ix x1.Args 0).bind fun ex9 =>
         (a7y n ex9 names1).bind fun v10 =>
         (bif v10.1 == 2 then
          some 1
         else
          some 0).bind fun k1 =>
         ((ix x1.Args k1).bind fun ex11 =>
         (a4q n (⟨[97], ex11, (-1)⟩ : Tariff) names1 f1 weights1).bind fun v13 =>
         some (v13.1.P.Sign, v13.1.P.Digits, v13.1.Q.Sign, v13.1.Q.Digits)).bind fun (f2, f3, f4, f5) =>
         (ix l2 (isub .i64 1 k1)).bind fun ex10 =>
         (a3n n (⟨(⟨f2, f3⟩ : Big), (⟨f4, f5⟩ : Big)⟩ : Frac)).bind fun v11 =>
         (a9j n ex10 v11).bind fun v12 =>
         some v12.1
        else
         some v1) n 0 []
theorem a4x (n : Nat) (x1 : Expr) (names1 : (List Bs)) (f1 : Facts) (weights1 : (List Frac)) : law36_slope (n + 1) x1 names1 f1 weights1 =
  a4n n (law36_slope n) x1 names1 f1 weights1 (fun (l2 : List Frac) =>
   (a3x n 0).bind fun v1 =>
   bif x1.Op == 4 then
    (a3x n 1).bind fun v2 =>
    some v2
   else
    (bif x1.Op == 5 then
     some true
    else
     some (x1.Op == 6)).bind fun v3 =>
    bif v3 then
     (ix l2 0).bind fun ex1 =>
     (ix l2 1).bind fun ex2 =>
     (b0c n ex1 ex2).bind fun v4 =>
     some v4.1
    else
     (bif x1.Op == 9 then
      some true
     else
      some (x1.Op == 10)).bind fun v5 =>
     bif v5 then
      (ix l2 0).bind fun ex3 =>
      (ix l2 1).bind fun ex4 =>
      (a5x n ex3 ex4).bind fun v6 =>
      some v6.1
     else
      bif x1.Op == 11 then
       (ix l2 1).bind fun ex5 =>
       (ix l2 2).bind fun ex6 =>
       (a5x n ex5 ex6).bind fun v7 =>
       some v7.1
      else
       bif x1.Op == 8 then
        (ix l2 0).bind fun ex7 =>
        (ix x1.Args 1).bind fun ex8 =>
        (a3x n ex8.N).bind fun v8 =>
        (b0s n ex7 v8).bind fun v9 =>
        some v9.1
       else
        bif x1.Op == 7 then
         (ix x1.Args 0).bind fun ex9 =>
         (a7y n ex9 names1).bind fun v10 =>
         (bif v10.1 == 2 then
          some 1
         else
          some 0).bind fun k1 =>
         ((ix x1.Args k1).bind fun ex11 =>
         (a4q n (⟨[97], ex11, (-1)⟩ : Tariff) names1 f1 weights1).bind fun v13 =>
         some (v13.1.P.Sign, v13.1.P.Digits, v13.1.Q.Sign, v13.1.Q.Digits)).bind fun (f2, f3, f4, f5) =>
         (ix l2 (isub .i64 1 k1)).bind fun ex10 =>
         (a3n n (⟨(⟨f2, f3⟩ : Big), (⟨f4, f5⟩ : Big)⟩ : Frac)).bind fun v11 =>
         (a9j n ex10 v11).bind fun v12 =>
         some v12.1
        else
         some v1) n 0 [] := rfl
set_option maxHeartbeats 1000000 in
set_option maxRecDepth 1000000 in
theorem b8d (n : Nat) : (∀ (x1 : Expr) (names1 : (List Bs)) (f1 : Facts) (weights1 : (List Frac)) (r : Frac) (_ : law36_slope n x1 names1 f1 weights1 = some r) {w : World} {F : Frz} (_ : Sat F w) {as1 : Option Addr} {ns1 : Nat} {cs1 : Nat} {as2 : Option Addr} {ns2 : Nat} {cs2 : Nat} {as3 : Option Addr} {ns3 : Nat} {cs3 : Nat} {as4 : Option Addr} {ns4 : Nat} {cs4 : Nat} (_ : SlR rp_Expr F as1 ns1 cs1 x1.Args) (_ : SlR Rp.str F as2 ns2 cs2 names1) (_ : SlR (Rp.int .i64) F as3 ns3 cs3 f1.Lifts) (_ : SlR rp_Frac F as4 ns4 cs4 weights1), Calls Tryz.prog 25 #[.agg #[.int .i64 x1.Op, .int .i64 x1.N, vs x1.Name, .slice as1 ns1 cs1], .slice as2 ns2 cs2, .agg #[.slice as3 ns3 cs3, .int .i64 f1.Persons, .int .i64 f1.Flats], .slice as4 ns4 cs4] w fun e w' => ∃ v F' O', e = .returned v ∧ HS F w [] F' O' w' ∧ (∃ (a0_1 : Option Addr) (n0_1 : Nat) (c0_1 : Nat) (a0_3 : Option Addr) (n0_3 : Nat) (c0_3 : Nat), v = .agg #[.int .i64 r.P.Sign, .slice a0_1 n0_1 c0_1, .int .i64 r.Q.Sign, .slice a0_3 n0_3 c0_3] ∧ O' = [] ∧ SlR (Rp.int .i64) F' a0_1 n0_1 c0_1 r.P.Digits ∧ SlR (Rp.int .i64) F' a0_3 n0_3 c0_3 r.Q.Digits)) := by
 induction n with
 | zero =>
  ·intro x1 names1 f1 weights1 r hm
   exact absurd (show (none : Option Frac) = some r from hm) (by simp)
 | succ n ih =>
  ·intro x1 names1 f1 weights1 r hm w F hs as1 ns1 cs1 as2 ns2 cs2 as3 ns3 cs3 as4 ns4 cs4 hs1 hs2 hs3 hs4
   rw [a4x] at hm
   have h := HS.init hs
   refine a1a 134 Tryz.func25 rfl rfl rfl ?_
   refine a0f (a0a ?_)
   refine a2t rfl rfl rfl rfl h ?_
   intro b1 wx1 hx1
   refine a2t rfl rfl rfl rfl hx1 ?_
   intro b2 wx2 hx2
   refine a1b ze37 rfl rfl rfl hx2 ?_
   intro b3 wx3 hx3
   refine a0c (a0d (a0f (a0a ?_)))
   refine a1q (e := 37) (cs := []) (q := 4) rfl rfl hx3 rfl (fun _ => by kernel_rfl) rfl rfl ?_
   intro b4 wx4 hx4
   refine a0b rfl rfl rfl (a0c (a0d (a0f (a0f (a0a (a0b rfl rfl rfl (a0c (a0d (a1g ?_)))))))))
   intro a hax15
   obtain ⟨kont1, hkont1⟩ : ∃ kont1 : (List Frac) → Option Frac, kont1 = (fun (l2 : List Frac) =>
       (a3x n 0).bind fun v1 =>
       bif x1.Op == 4 then
        (a3x n 1).bind fun v2 =>
        some v2
       else
        (bif x1.Op == 5 then
         some true
        else
         some (x1.Op == 6)).bind fun v3 =>
        bif v3 then
         (ix l2 0).bind fun ex1 =>
         (ix l2 1).bind fun ex2 =>
         (b0c n ex1 ex2).bind fun v4 =>
         some v4.1
        else
         (bif x1.Op == 9 then
          some true
         else
          some (x1.Op == 10)).bind fun v5 =>
         bif v5 then
          (ix l2 0).bind fun ex3 =>
          (ix l2 1).bind fun ex4 =>
          (a5x n ex3 ex4).bind fun v6 =>
          some v6.1
         else
          bif x1.Op == 11 then
           (ix l2 1).bind fun ex5 =>
           (ix l2 2).bind fun ex6 =>
           (a5x n ex5 ex6).bind fun v7 =>
           some v7.1
          else
           bif x1.Op == 8 then
            (ix l2 0).bind fun ex7 =>
            (ix x1.Args 1).bind fun ex8 =>
            (a3x n ex8.N).bind fun v8 =>
            (b0s n ex7 v8).bind fun v9 =>
            some v9.1
           else
            bif x1.Op == 7 then
             (ix x1.Args 0).bind fun ex9 =>
             (a7y n ex9 names1).bind fun v10 =>
             (bif v10.1 == 2 then
              some 1
             else
              some 0).bind fun k1 =>
             ((ix x1.Args k1).bind fun ex11 =>
             (a4q n (⟨[97], ex11, (-1)⟩ : Tariff) names1 f1 weights1).bind fun v13 =>
             some (v13.1.P.Sign, v13.1.P.Digits, v13.1.Q.Sign, v13.1.Q.Digits)).bind fun (f2, f3, f4, f5) =>
             (ix l2 (isub .i64 1 k1)).bind fun ex10 =>
             (a3n n (⟨(⟨f2, f3⟩ : Big), (⟨f4, f5⟩ : Big)⟩ : Frac)).bind fun v11 =>
             (a9j n ex10 v11).bind fun v12 =>
             some v12.1
            else
             some v1) := ⟨_, rfl⟩
   replace hm : (fun m (s : Int × List Frac) => a4n n (law36_slope n) x1 names1 f1 weights1 kont1 m s.1 s.2) n (0, []) = some r := by rw [hkont1]; exact hm
   refine a5w (id := 0) (fun m (s : Int × List Frac) => a4n n (law36_slope n) x1 names1 f1 weights1 kont1 m s.1 s.2) (fun (y : List Frac) => kont1 y) r (fun (s : Int × List Frac) a w' => ∃ (Fx1 : Frz) (as5 : Option Addr) (ns5 : Nat) (cs5 : Nat) (xss5 : List Value), Frz.le F Fx1 ∧ HS F w [] Fx1 [.row 37 4 as5 ns5 cs5 xss5, .box b3 37 [.int .i64 0, .slice none 0 0, .int .i64 0, .slice none 0 0], .box b2 30 [.slice as3 ns3 cs3, .int .i64 f1.Persons, .int .i64 f1.Flats], .box b1 24 [.int .i64 x1.Op, .int .i64 x1.N, vs x1.Name, .slice as1 ns1 cs1]] w' ∧ (RowN rp_Frac Fx1 ns5 xss5 s.2) ∧ Has 134 a [(1, .slice as2 ns2 cs2), (3, .slice as4 ns4 cs4), (4, .pointer (some ⟨b1, 0, none⟩)), (6, .pointer (some ⟨b2, 0, none⟩)), (8, .pointer (some ⟨b3, 0, none⟩)), (9, .slice as5 ns5 cs5), (10, .int .i64 s.1)]) (fun (y : List Frac) a w' => ∃ (Fx2 : Frz) (as6 : Option Addr) (ns6 : Nat) (cs6 : Nat) (xss6 : List Value), Frz.le F Fx2 ∧ HS F w [] Fx2 [.row 37 4 as6 ns6 cs6 xss6, .box b3 37 [.int .i64 0, .slice none 0 0, .int .i64 0, .slice none 0 0], .box b2 30 [.slice as3 ns3 cs3, .int .i64 f1.Persons, .int .i64 f1.Flats], .box b1 24 [.int .i64 x1.Op, .int .i64 x1.N, vs x1.Name, .slice as1 ns1 cs1]] w' ∧ (RowN rp_Frac Fx2 ns6 xss6 y) ∧ Has 134 a [(1, .slice as2 ns2 cs2), (3, .slice as4 ns4 cs4), (4, .pointer (some ⟨b1, 0, none⟩)), (6, .pointer (some ⟨b2, 0, none⟩)), (8, .pointer (some ⟨b3, 0, none⟩)), (9, .slice as6 ns6 cs6)]) (fun _ => rfl) ?_ ?_ hm ⟨_, (some ⟨b4, 0, none⟩), 0, 0, [], Frz.refl _, hx4.pick [0, 1, 2, 3] (by decide) rfl, ((show RowN rp_Frac F 0 [] [] from ⟨rfl, (rfl : RowR rp_Frac _ [] [])⟩)), hax15.cut (l := [1, 3, 4, 6, 8, 9, 10]) rfl⟩
   ·clear hm; rintro l2 a wx5 hm ⟨Fx2, as6, ns6, cs6, xss6, hF2, hx6, hs6, hax1⟩
    rw [hkont1] at hm
    replace hm := hm
    refine a2f (e := .exit 0) hax1 ?_
    refine a1k (a0d (a0f (a0a ?_)))
    obtain ⟨v1, hv1, hm⟩ := bind_some hm
    refine a0i ent17 rfl rfl rfl rfl hx6 (a6a _ _ _ hv1 hx6.sat) ?_
    rintro _ Fx3 _ wx6 hF3 hx7 ⟨as7, ns7, cs7, as8, ns8, cs8, rfl, rfl, hs7, hs8⟩
    refine a1b ze37 rfl rfl rfl hx7 ?_
    intro b5 wx7 hx8
    refine a0p sz37 rfl hx8 rfl rfl rfl rfl (i := 0) rfl rfl rfl rfl ?_
    intro wx8 hx9
    refine a0c (a0d (a0f (a0f (a0a ?_))))
    refine a0h fa24_0 rfl rfl rfl ?_
    refine a0r ag3 rfl rfl hx9 rfl (i := 4) rfl rfl ?_
    refine a0c (a0d (a1g (a0f (a0a ?_))))
    refine a0u rfl rfl rfl rfl rfl ?_
    refine a0b rfl rfl rfl (a0c (a0d ?_))
    rcases a0g hm with ⟨hb1, hm⟩ | ⟨hb1, hm⟩
    ·refine a0t 40 rfl hb1 ?_
     refine a0y rfl (a0a ?_)
     obtain ⟨v2, hv2, hm⟩ := bind_some hm
     refine a0i ent17 rfl rfl rfl rfl hx9 (a6a _ _ _ hv2 hx9.sat) ?_
     rintro _ Fx4 _ wx9 hF4 hx10 ⟨as9, ns9, cs9, as10, ns10, cs10, rfl, rfl, hs9, hs10⟩
     refine a0p sz37 rfl hx10 rfl rfl rfl rfl (i := 0) rfl rfl rfl rfl ?_
     intro wx10 hx11
     refine a0c (a1m (a0d (a0f (a0a ?_))))
     refine a0l ag37 sz37 rfl rfl hx11 rfl (i := 0) rfl rfl ?_
     refine a0p sz37 rfl hx11 rfl rfl rfl rfl (i := 2) rfl rfl rfl rfl ?_
     intro wx11 hx12
     refine a0c (a0d (a1d ?_))
     refine a3r rfl ag37 sz37 rfl hx12 rfl (i := 2) rfl ?_
     obtain rfl := Option.some.inj hm
     exact ⟨_, _, _, rfl, hx12.pick [] (by decide) rfl, as9, ns9, cs9, as10, ns10, cs10, rfl, rfl, hs9, hs10⟩
    ·refine a0t 40 rfl hb1 ?_
     refine a0s rfl (a0f (a0f (a0a ?_)))
     refine a0u rfl rfl rfl rfl rfl ?_
     refine a0b rfl rfl rfl (a0c (a0d ?_))
     obtain ⟨v3, hb2, hm⟩ := bind_some hm
     refine a8f (fun a w' => wx8 = w' ∧ Has 134 a [(1, .slice as2 ns2 cs2), (3, .slice as4 ns4 cs4), (4, .pointer (some ⟨b1, 0, none⟩)), (6, .pointer (some ⟨b2, 0, none⟩)), (8, .pointer (some ⟨b3, 0, none⟩)), (9, .slice as6 ns6 cs6), (11, .pointer (some ⟨b5, 0, none⟩)), (39, .int .i64 x1.Op), (43, .bool v3)]) ?_ ?_
     ·rintro a wx12 ⟨rfl, hax2⟩
      refine a1i hax2 ?_
      rcases a0g hm with ⟨hb3, hm⟩ | ⟨hb3, hm⟩
      ·refine a0t 43 rfl hb3 ?_
       refine a0y rfl ?_
       refine a1w (SH Fx3 [.row 37 4 as6 ns6 cs6 xss6, .box b3 37 [.int .i64 0, .slice none 0 0, .int .i64 0, .slice none 0 0], .box b2 30 [.slice as3 ns3 cs3, .int .i64 f1.Persons, .int .i64 f1.Flats], .box b1 24 [.int .i64 x1.Op, .int .i64 x1.N, vs x1.Name, .slice as1 ns1 cs1]]) 11 rfl (by kernel_rfl) hx9 ?_
       intro wx13 hx13
       refine d_tk 0 rfl (by kernel_rfl) rfl rfl rfl rfl (hx13.sh (Frz.refl _) [1, 2, 3, 4] (by decide) rfl) (fun _ _ _ _ _ => a0e rfl rfl rfl (a0c (qq rfl))) ?_
       obtain ⟨ex1, he1, hm⟩ := bind_some hm
       obtain ⟨b6, o1, cs1, hax3, ho1, hr1, hp1, hrun1⟩ := a3y (P := Tryz.prog) (r := rp_Frac) u31 sz37 hx13 (p := 1) rfl rfl (hs6.mono hF3) he1
       obtain ⟨as11, ns11, cs11, as12, ns12, cs12, hc1, hs11, hs12⟩ := hr1
       subst hc1
       refine a5b 1 rfl (by kernel_rfl) (by kernel_rfl) (by kernel_rfl) rfl rfl rfl rfl hrun1 (hx13.sh (Frz.refl _) [1, 2, 3, 4] (by decide) rfl) ?_
       refine d_tk 2 rfl (by kernel_rfl) rfl rfl rfl rfl (hx13.sh (Frz.refl _) [1, 2, 3, 4] (by decide) rfl) (fun _ _ _ _ hq => b0y (j := 0) (cs' := [.int .i64 ex1.P.Sign, .slice as11 ns11 cs11, .int .i64 ex1.Q.Sign, .slice as12 ns12 cs12]) ag37 sz37 rfl rfl hq rfl (p := 0) rfl rfl hax3 ho1 hp1 rfl rfl (a0c (qq rfl))) ?_
       refine d_tk 3 rfl (by kernel_rfl) rfl rfl rfl rfl (hx13.sh (Frz.refl _) [1, 2, 3, 4] (by decide) rfl) (fun _ _ _ _ _ => a0e rfl rfl rfl (a0c (qq rfl))) ?_
       obtain ⟨ex2, he2, hm⟩ := bind_some hm
       obtain ⟨b7, o2, cs2, hax4, ho2, hr2, hp2, hrun2⟩ := a3y (P := Tryz.prog) (r := rp_Frac) u31 sz37 hx13 (p := 1) rfl rfl (hs6.mono hF3) he2
       obtain ⟨as13, ns13, cs13, as14, ns14, cs14, hc2, hs13, hs14⟩ := hr2
       subst hc2
       refine a5b 4 rfl (by kernel_rfl) (by kernel_rfl) (by kernel_rfl) rfl rfl rfl rfl hrun2 (hx13.sh (Frz.refl _) [1, 2, 3, 4] (by decide) rfl) ?_
       refine d_tk 5 rfl (by kernel_rfl) rfl rfl rfl rfl (hx13.sh (Frz.refl _) [1, 2, 3, 4] (by decide) rfl) (fun _ _ _ _ hq => b0y (j := 0) (cs' := [.int .i64 ex2.P.Sign, .slice as13 ns13 cs13, .int .i64 ex2.Q.Sign, .slice as14 ns14 cs14]) ag37 sz37 rfl rfl hq rfl (p := 0) rfl rfl hax4 ho2 hp2 rfl rfl (a0c (qq rfl))) ?_
       refine a0v 6 rfl (by kernel_rfl) ?_
       obtain ⟨v4, hv3, hm⟩ := bind_some hm
       refine a0i ent21 rfl rfl rfl rfl hx13 (b4d _ _ _ _ hv3 hx13.sat hs11 hs12 hs13 hs14) ?_
       rintro _ Fx5 _ wx14 hF5 hx14 ⟨as15, ns15, cs15, as16, ns16, cs16, rfl, rfl, hs15, hs16⟩
       refine a0o (hx14.sh hF5 [1, 2, 3, 4] (by decide) rfl) ?_
       refine d_tk 7 rfl (by kernel_rfl) rfl rfl rfl rfl (hx14.sh hF5 [1, 2, 3, 4] (by decide) rfl) (fun _ _ _ _ _ => a0e rfl rfl rfl (a0c (qq rfl))) ?_
       refine d_tk 8 rfl (by kernel_rfl) rfl rfl rfl rfl (hx14.sh hF5 [1, 2, 3, 4] (by decide) rfl) (fun _ _ _ _ _ => a0j rfl rfl rfl rfl (a0c (qq rfl))) ?_
       refine d_tk 9 rfl (by kernel_rfl) rfl rfl rfl rfl (hx14.sh hF5 [1, 2, 3, 4] (by decide) rfl) (fun _ _ _ _ _ => a0j rfl rfl rfl rfl (a0c (qq rfl))) ?_
       refine a0v 10 rfl (by kernel_rfl) ?_
       refine a0p sz37 rfl hx14 rfl rfl rfl rfl (i := 0) rfl rfl rfl rfl ?_
       intro wx15 hx15
       refine a0o (hx15.sh hF5 [1, 2, 3, 4] (by decide) rfl) ?_
       refine a2g (by kernel_rfl) ?_
       refine a1m (a0d (a0f (a0a ?_)))
       refine a0l ag37 sz37 rfl rfl hx15 rfl (i := 0) rfl rfl ?_
       refine a0p sz37 rfl hx15 rfl rfl rfl rfl (i := 2) rfl rfl rfl rfl ?_
       intro wx16 hx16
       refine a0c (a0d (a1d ?_))
       refine a3r rfl ag37 sz37 rfl hx16 rfl (i := 2) rfl ?_
       obtain rfl := Option.some.inj hm
       exact ⟨_, _, _, rfl, hx16.pick [] (by decide) rfl, as15, ns15, cs15, as16, ns16, cs16, rfl, rfl, hs15, hs16⟩
      ·refine a0t 43 rfl hb3 ?_
       refine a0s rfl (a0f (a0f (a0a ?_)))
       refine a0u rfl rfl rfl rfl rfl ?_
       refine a0b rfl rfl rfl (a0c (a0d ?_))
       obtain ⟨v5, hb4, hm⟩ := bind_some hm
       refine a8f (fun a w' => wx8 = w' ∧ Has 134 a [(1, .slice as2 ns2 cs2), (3, .slice as4 ns4 cs4), (4, .pointer (some ⟨b1, 0, none⟩)), (6, .pointer (some ⟨b2, 0, none⟩)), (8, .pointer (some ⟨b3, 0, none⟩)), (9, .slice as6 ns6 cs6), (11, .pointer (some ⟨b5, 0, none⟩)), (39, .int .i64 x1.Op), (56, .bool v5)]) ?_ ?_
       ·rintro a wx17 ⟨rfl, hax5⟩
        refine a1i hax5 ?_
        rcases a0g hm with ⟨hb5, hm⟩ | ⟨hb5, hm⟩
        ·refine a0t 56 rfl hb5 ?_
         refine a0y rfl ?_
         refine a1w (SH Fx3 [.row 37 4 as6 ns6 cs6 xss6, .box b3 37 [.int .i64 0, .slice none 0 0, .int .i64 0, .slice none 0 0], .box b2 30 [.slice as3 ns3 cs3, .int .i64 f1.Persons, .int .i64 f1.Flats], .box b1 24 [.int .i64 x1.Op, .int .i64 x1.N, vs x1.Name, .slice as1 ns1 cs1]]) 11 rfl (by kernel_rfl) hx9 ?_
         intro wx18 hx17
         refine d_tk 0 rfl (by kernel_rfl) rfl rfl rfl rfl (hx17.sh (Frz.refl _) [1, 2, 3, 4] (by decide) rfl) (fun _ _ _ _ _ => a0e rfl rfl rfl (a0c (qq rfl))) ?_
         obtain ⟨ex3, he3, hm⟩ := bind_some hm
         obtain ⟨b8, o3, cs3, hax6, ho3, hr3, hp3, hrun3⟩ := a3y (P := Tryz.prog) (r := rp_Frac) u31 sz37 hx17 (p := 1) rfl rfl (hs6.mono hF3) he3
         obtain ⟨as17, ns17, cs17, as18, ns18, cs18, hc3, hs17, hs18⟩ := hr3
         subst hc3
         refine a5b 1 rfl (by kernel_rfl) (by kernel_rfl) (by kernel_rfl) rfl rfl rfl rfl hrun3 (hx17.sh (Frz.refl _) [1, 2, 3, 4] (by decide) rfl) ?_
         refine d_tk 2 rfl (by kernel_rfl) rfl rfl rfl rfl (hx17.sh (Frz.refl _) [1, 2, 3, 4] (by decide) rfl) (fun _ _ _ _ hq => b0y (j := 0) (cs' := [.int .i64 ex3.P.Sign, .slice as17 ns17 cs17, .int .i64 ex3.Q.Sign, .slice as18 ns18 cs18]) ag37 sz37 rfl rfl hq rfl (p := 0) rfl rfl hax6 ho3 hp3 rfl rfl (a0c (qq rfl))) ?_
         refine d_tk 3 rfl (by kernel_rfl) rfl rfl rfl rfl (hx17.sh (Frz.refl _) [1, 2, 3, 4] (by decide) rfl) (fun _ _ _ _ _ => a0e rfl rfl rfl (a0c (qq rfl))) ?_
         obtain ⟨ex4, he4, hm⟩ := bind_some hm
         obtain ⟨b9, o4, cs4, hax7, ho4, hr4, hp4, hrun4⟩ := a3y (P := Tryz.prog) (r := rp_Frac) u31 sz37 hx17 (p := 1) rfl rfl (hs6.mono hF3) he4
         obtain ⟨as19, ns19, cs19, as20, ns20, cs20, hc4, hs19, hs20⟩ := hr4
         subst hc4
         refine a5b 4 rfl (by kernel_rfl) (by kernel_rfl) (by kernel_rfl) rfl rfl rfl rfl hrun4 (hx17.sh (Frz.refl _) [1, 2, 3, 4] (by decide) rfl) ?_
         refine d_tk 5 rfl (by kernel_rfl) rfl rfl rfl rfl (hx17.sh (Frz.refl _) [1, 2, 3, 4] (by decide) rfl) (fun _ _ _ _ hq => b0y (j := 0) (cs' := [.int .i64 ex4.P.Sign, .slice as19 ns19 cs19, .int .i64 ex4.Q.Sign, .slice as20 ns20 cs20]) ag37 sz37 rfl rfl hq rfl (p := 0) rfl rfl hax7 ho4 hp4 rfl rfl (a0c (qq rfl))) ?_
         refine a0v 6 rfl (by kernel_rfl) ?_
         obtain ⟨v6, hv4, hm⟩ := bind_some hm
         refine a0i ent23 rfl rfl rfl rfl hx17 (a7a _ _ _ _ hv4 hx17.sat hs17 hs18 hs19 hs20) ?_
         rintro _ Fx6 _ wx19 hF6 hx18 ⟨as21, ns21, cs21, as22, ns22, cs22, rfl, rfl, hs21, hs22⟩
         refine a0o (hx18.sh hF6 [1, 2, 3, 4] (by decide) rfl) ?_
         refine d_tk 7 rfl (by kernel_rfl) rfl rfl rfl rfl (hx18.sh hF6 [1, 2, 3, 4] (by decide) rfl) (fun _ _ _ _ _ => a0e rfl rfl rfl (a0c (qq rfl))) ?_
         refine d_tk 8 rfl (by kernel_rfl) rfl rfl rfl rfl (hx18.sh hF6 [1, 2, 3, 4] (by decide) rfl) (fun _ _ _ _ _ => a0j rfl rfl rfl rfl (a0c (qq rfl))) ?_
         refine d_tk 9 rfl (by kernel_rfl) rfl rfl rfl rfl (hx18.sh hF6 [1, 2, 3, 4] (by decide) rfl) (fun _ _ _ _ _ => a0j rfl rfl rfl rfl (a0c (qq rfl))) ?_
         refine a0v 10 rfl (by kernel_rfl) ?_
         refine a0p sz37 rfl hx18 rfl rfl rfl rfl (i := 0) rfl rfl rfl rfl ?_
         intro wx20 hx19
         refine a0o (hx19.sh hF6 [1, 2, 3, 4] (by decide) rfl) ?_
         refine a2g (by kernel_rfl) ?_
         refine a1m (a0d (a0f (a0a ?_)))
         refine a0l ag37 sz37 rfl rfl hx19 rfl (i := 0) rfl rfl ?_
         refine a0p sz37 rfl hx19 rfl rfl rfl rfl (i := 2) rfl rfl rfl rfl ?_
         intro wx21 hx20
         refine a0c (a0d (a1d ?_))
         refine a3r rfl ag37 sz37 rfl hx20 rfl (i := 2) rfl ?_
         obtain rfl := Option.some.inj hm
         exact ⟨_, _, _, rfl, hx20.pick [] (by decide) rfl, as21, ns21, cs21, as22, ns22, cs22, rfl, rfl, hs21, hs22⟩
        ·refine a0t 56 rfl hb5 ?_
         refine a0s rfl (a0f (a0a ?_))
         refine a0u rfl rfl rfl rfl rfl ?_
         refine a0b rfl rfl rfl (a0c (a0d ?_))
         rcases a0g hm with ⟨hb6, hm⟩ | ⟨hb6, hm⟩
         ·refine a0t 69 rfl hb6 ?_
          refine a0y rfl ?_
          refine a1w (SH Fx3 [.row 37 4 as6 ns6 cs6 xss6, .box b3 37 [.int .i64 0, .slice none 0 0, .int .i64 0, .slice none 0 0], .box b2 30 [.slice as3 ns3 cs3, .int .i64 f1.Persons, .int .i64 f1.Flats], .box b1 24 [.int .i64 x1.Op, .int .i64 x1.N, vs x1.Name, .slice as1 ns1 cs1]]) 11 rfl (by kernel_rfl) hx9 ?_
          intro wx22 hx21
          refine d_tk 0 rfl (by kernel_rfl) rfl rfl rfl rfl (hx21.sh (Frz.refl _) [1, 2, 3, 4] (by decide) rfl) (fun _ _ _ _ _ => a0e rfl rfl rfl (a0c (qq rfl))) ?_
          obtain ⟨ex5, he5, hm⟩ := bind_some hm
          obtain ⟨b10, o5, cs5, hax8, ho5, hr5, hp5, hrun5⟩ := a3y (P := Tryz.prog) (r := rp_Frac) u31 sz37 hx21 (p := 1) rfl rfl (hs6.mono hF3) he5
          obtain ⟨as23, ns23, cs23, as24, ns24, cs24, hc5, hs23, hs24⟩ := hr5
          subst hc5
          refine a5b 1 rfl (by kernel_rfl) (by kernel_rfl) (by kernel_rfl) rfl rfl rfl rfl hrun5 (hx21.sh (Frz.refl _) [1, 2, 3, 4] (by decide) rfl) ?_
          refine d_tk 2 rfl (by kernel_rfl) rfl rfl rfl rfl (hx21.sh (Frz.refl _) [1, 2, 3, 4] (by decide) rfl) (fun _ _ _ _ hq => b0y (j := 0) (cs' := [.int .i64 ex5.P.Sign, .slice as23 ns23 cs23, .int .i64 ex5.Q.Sign, .slice as24 ns24 cs24]) ag37 sz37 rfl rfl hq rfl (p := 0) rfl rfl hax8 ho5 hp5 rfl rfl (a0c (qq rfl))) ?_
          refine d_tk 3 rfl (by kernel_rfl) rfl rfl rfl rfl (hx21.sh (Frz.refl _) [1, 2, 3, 4] (by decide) rfl) (fun _ _ _ _ _ => a0e rfl rfl rfl (a0c (qq rfl))) ?_
          obtain ⟨ex6, he6, hm⟩ := bind_some hm
          obtain ⟨b11, o6, cs6, hax9, ho6, hr6, hp6, hrun6⟩ := a3y (P := Tryz.prog) (r := rp_Frac) u31 sz37 hx21 (p := 1) rfl rfl (hs6.mono hF3) he6
          obtain ⟨as25, ns25, cs25, as26, ns26, cs26, hc6, hs25, hs26⟩ := hr6
          subst hc6
          refine a5b 4 rfl (by kernel_rfl) (by kernel_rfl) (by kernel_rfl) rfl rfl rfl rfl hrun6 (hx21.sh (Frz.refl _) [1, 2, 3, 4] (by decide) rfl) ?_
          refine d_tk 5 rfl (by kernel_rfl) rfl rfl rfl rfl (hx21.sh (Frz.refl _) [1, 2, 3, 4] (by decide) rfl) (fun _ _ _ _ hq => b0y (j := 0) (cs' := [.int .i64 ex6.P.Sign, .slice as25 ns25 cs25, .int .i64 ex6.Q.Sign, .slice as26 ns26 cs26]) ag37 sz37 rfl rfl hq rfl (p := 0) rfl rfl hax9 ho6 hp6 rfl rfl (a0c (qq rfl))) ?_
          refine a0v 6 rfl (by kernel_rfl) ?_
          obtain ⟨v7, hv5, hm⟩ := bind_some hm
          refine a0i ent23 rfl rfl rfl rfl hx21 (a7a _ _ _ _ hv5 hx21.sat hs23 hs24 hs25 hs26) ?_
          rintro _ Fx7 _ wx23 hF7 hx22 ⟨as27, ns27, cs27, as28, ns28, cs28, rfl, rfl, hs27, hs28⟩
          refine a0o (hx22.sh hF7 [1, 2, 3, 4] (by decide) rfl) ?_
          refine d_tk 7 rfl (by kernel_rfl) rfl rfl rfl rfl (hx22.sh hF7 [1, 2, 3, 4] (by decide) rfl) (fun _ _ _ _ _ => a0e rfl rfl rfl (a0c (qq rfl))) ?_
          refine d_tk 8 rfl (by kernel_rfl) rfl rfl rfl rfl (hx22.sh hF7 [1, 2, 3, 4] (by decide) rfl) (fun _ _ _ _ _ => a0j rfl rfl rfl rfl (a0c (qq rfl))) ?_
          refine d_tk 9 rfl (by kernel_rfl) rfl rfl rfl rfl (hx22.sh hF7 [1, 2, 3, 4] (by decide) rfl) (fun _ _ _ _ _ => a0j rfl rfl rfl rfl (a0c (qq rfl))) ?_
          refine a0v 10 rfl (by kernel_rfl) ?_
          refine a0p sz37 rfl hx22 rfl rfl rfl rfl (i := 0) rfl rfl rfl rfl ?_
          intro wx24 hx23
          refine a0o (hx23.sh hF7 [1, 2, 3, 4] (by decide) rfl) ?_
          refine a2g (by kernel_rfl) ?_
          refine a1m (a0d (a0f (a0a ?_)))
          refine a0l ag37 sz37 rfl rfl hx23 rfl (i := 0) rfl rfl ?_
          refine a0p sz37 rfl hx23 rfl rfl rfl rfl (i := 2) rfl rfl rfl rfl ?_
          intro wx25 hx24
          refine a0c (a0d (a1d ?_))
          refine a3r rfl ag37 sz37 rfl hx24 rfl (i := 2) rfl ?_
          obtain rfl := Option.some.inj hm
          exact ⟨_, _, _, rfl, hx24.pick [] (by decide) rfl, as27, ns27, cs27, as28, ns28, cs28, rfl, rfl, hs27, hs28⟩
         ·refine a0t 69 rfl hb6 ?_
          refine a0s rfl (a0f (a0a ?_))
          refine a0u rfl rfl rfl rfl rfl ?_
          refine a0b rfl rfl rfl (a0c (a0d ?_))
          rcases a0g hm with ⟨hb7, hm⟩ | ⟨hb7, hm⟩
          ·refine a0t 81 rfl hb7 ?_
           refine a0y rfl ?_
           refine a1w (SH Fx3 [.row 37 4 as6 ns6 cs6 xss6, .box b3 37 [.int .i64 0, .slice none 0 0, .int .i64 0, .slice none 0 0], .box b2 30 [.slice as3 ns3 cs3, .int .i64 f1.Persons, .int .i64 f1.Flats], .box b1 24 [.int .i64 x1.Op, .int .i64 x1.N, vs x1.Name, .slice as1 ns1 cs1]]) 14 rfl (by kernel_rfl) hx9 ?_
           intro wx26 hx25
           refine d_tk 0 rfl (by kernel_rfl) rfl rfl rfl rfl (hx25.sh (Frz.refl _) [1, 2, 3, 4] (by decide) rfl) (fun _ _ _ _ _ => a0e rfl rfl rfl (a0c (qq rfl))) ?_
           obtain ⟨ex7, he7, hm⟩ := bind_some hm
           obtain ⟨b12, o7, cs7, hax10, ho7, hr7, hp7, hrun7⟩ := a3y (P := Tryz.prog) (r := rp_Frac) u31 sz37 hx25 (p := 1) rfl rfl (hs6.mono hF3) he7
           obtain ⟨as29, ns29, cs29, as30, ns30, cs30, hc7, hs29, hs30⟩ := hr7
           subst hc7
           refine a5b 1 rfl (by kernel_rfl) (by kernel_rfl) (by kernel_rfl) rfl rfl rfl rfl hrun7 (hx25.sh (Frz.refl _) [1, 2, 3, 4] (by decide) rfl) ?_
           refine d_tk 2 rfl (by kernel_rfl) rfl rfl rfl rfl (hx25.sh (Frz.refl _) [1, 2, 3, 4] (by decide) rfl) (fun _ _ _ _ hq => b0y (j := 0) (cs' := [.int .i64 ex7.P.Sign, .slice as29 ns29 cs29, .int .i64 ex7.Q.Sign, .slice as30 ns30 cs30]) ag37 sz37 rfl rfl hq rfl (p := 0) rfl rfl hax10 ho7 hp7 rfl rfl (a0c (qq rfl))) ?_
           refine d_tk 3 rfl (by kernel_rfl) rfl rfl rfl rfl (hx25.sh (Frz.refl _) [1, 2, 3, 4] (by decide) rfl) (fun _ _ _ _ _ => a0h fa24_3 rfl rfl rfl (a0c (qq rfl))) ?_
           refine d_tk 4 rfl (by kernel_rfl) rfl rfl rfl rfl (hx25.sh (Frz.refl _) [1, 2, 3, 4] (by decide) rfl) (fun _ _ _ _ hq => a0r ag22 rfl rfl hq rfl (i := 3) rfl rfl (a0c (qq rfl))) ?_
           obtain ⟨ex8, he8, hm⟩ := bind_some hm
           obtain ⟨b13, o8, cs8, hf1, hr8, hrun8⟩ := a2s (P := Tryz.prog) (r := rp_Expr) u22 sz24 ((hs1.mono hF2).mono hF3) he8
           obtain ⟨as31, ns31, cs31, hc8, hs31⟩ := expr_iff.1 hr8
           subst hc8
           refine a5b 5 rfl (by kernel_rfl) (by kernel_rfl) (by kernel_rfl) rfl rfl rfl rfl hrun8 (hx25.sh (Frz.refl _) [1, 2, 3, 4] (by decide) rfl) ?_
           refine d_tk 6 rfl (by kernel_rfl) rfl rfl rfl rfl (hx25.sh (Frz.refl _) [1, 2, 3, 4] (by decide) rfl) (fun _ _ _ _ _ => a0h fa24_1 rfl rfl rfl (a0c (qq rfl))) ?_
           refine d_tk 7 rfl (by kernel_rfl) rfl rfl rfl rfl (hx25.sh (Frz.refl _) [1, 2, 3, 4] (by decide) rfl) (fun _ _ _ hleq hq => a2h (j := 1) ag3 rfl rfl hq (hf1.mono hleq) rfl rfl (a0c (qq rfl))) ?_
           refine a0v 8 rfl (by kernel_rfl) ?_
           obtain ⟨v8, hv6, hm⟩ := bind_some hm
           refine a0i ent17 rfl rfl rfl rfl hx25 (a6a _ _ _ hv6 hx25.sat) ?_
           rintro _ Fx8 _ wx27 hF8 hx26 ⟨as32, ns32, cs32, as33, ns33, cs33, rfl, rfl, hs32, hs33⟩
           refine a0o (hx26.sh hF8 [1, 2, 3, 4] (by decide) rfl) ?_
           refine a0v 9 rfl (by kernel_rfl) ?_
           obtain ⟨v9, hv7, hm⟩ := bind_some hm
           refine a0i ent57 rfl rfl rfl rfl hx26 (b7t _ _ _ _ hv7 hx26.sat (hs29.mono hF8) (hs30.mono hF8) hs32 hs33) ?_
           rintro _ Fx9 _ wx28 hF9 hx27 ⟨as34, ns34, cs34, as35, ns35, cs35, rfl, rfl, hs34, hs35⟩
           refine a0o (hx27.sh (hF8.trans hF9) [1, 2, 3, 4] (by decide) rfl) ?_
           refine d_tk 10 rfl (by kernel_rfl) rfl rfl rfl rfl (hx27.sh (hF8.trans hF9) [1, 2, 3, 4] (by decide) rfl) (fun _ _ _ _ _ => a0e rfl rfl rfl (a0c (qq rfl))) ?_
           refine d_tk 11 rfl (by kernel_rfl) rfl rfl rfl rfl (hx27.sh (hF8.trans hF9) [1, 2, 3, 4] (by decide) rfl) (fun _ _ _ _ _ => a0j rfl rfl rfl rfl (a0c (qq rfl))) ?_
           refine d_tk 12 rfl (by kernel_rfl) rfl rfl rfl rfl (hx27.sh (hF8.trans hF9) [1, 2, 3, 4] (by decide) rfl) (fun _ _ _ _ _ => a0j rfl rfl rfl rfl (a0c (qq rfl))) ?_
           refine a0v 13 rfl (by kernel_rfl) ?_
           refine a0p sz37 rfl hx27 rfl rfl rfl rfl (i := 0) rfl rfl rfl rfl ?_
           intro wx29 hx28
           refine a0o (hx28.sh (hF8.trans hF9) [1, 2, 3, 4] (by decide) rfl) ?_
           refine a2g (by kernel_rfl) ?_
           refine a1m (a0d (a0f (a0a ?_)))
           refine a0l ag37 sz37 rfl rfl hx28 rfl (i := 0) rfl rfl ?_
           refine a0p sz37 rfl hx28 rfl rfl rfl rfl (i := 2) rfl rfl rfl rfl ?_
           intro wx30 hx29
           refine a0c (a0d (a1d ?_))
           refine a3r rfl ag37 sz37 rfl hx29 rfl (i := 2) rfl ?_
           obtain rfl := Option.some.inj hm
           exact ⟨_, _, _, rfl, hx29.pick [] (by decide) rfl, as34, ns34, cs34, as35, ns35, cs35, rfl, rfl, hs34, hs35⟩
          ·refine a0t 81 rfl hb7 ?_
           refine a0s rfl (a0f (a0a ?_))
           refine a0u rfl rfl rfl rfl rfl ?_
           refine a0b rfl rfl rfl (a0c (a0d ?_))
           rcases a0g hm with ⟨hb8, hm⟩ | ⟨hb8, hm⟩
           ·refine a0t 96 rfl hb8 ?_
            refine a0y rfl (a0f (a0a (a0b rfl rfl rfl (a0c (a0d (a0f (a0a ?_)))))))
            refine a0h fa24_3 rfl rfl rfl ?_
            refine a0r ag22 rfl rfl hx9 rfl (i := 4) rfl rfl ?_
            obtain ⟨ex9, he9, hm⟩ := bind_some hm
            refine a2n (r := rp_Expr) u22 sz24 rfl rfl rfl rfl ((hs1.mono hF2).mono hF3) he9 ?_
            intro b14 o9 cs9 hf2 hr9
            obtain ⟨as36, ns36, cs36, hc9, hs36⟩ := expr_iff.1 hr9
            subst hc9
            refine a3s ag24 sz24 rfl rfl hx9 hf2 rfl rfl ?_
            refine a0e rfl rfl rfl ?_
            obtain ⟨v10, hv8, hm⟩ := bind_some hm
            refine a0i ent18 rfl rfl rfl rfl hx9 (b8s _ _ _ _ hv8 hx9.sat hs36 ((hs2.mono hF2).mono hF3)) ?_
            rintro _ Fx10 _ wx31 hF10 hx30 ⟨rfl, rfl⟩
            refine a0e rfl rfl rfl (a0j rfl rfl rfl rfl (a0j rfl rfl rfl rfl (a0b rfl rfl rfl (a0b rfl rfl rfl (a0c (a0d (a0f (a0f (a0a (a0e rfl rfl rfl ?_))))))))))
            refine a0u rfl rfl rfl rfl rfl ?_
            refine a0c (a0d ?_)
            obtain ⟨k1, hb9, hm⟩ := bind_some hm
            refine a8f (fun a w' => wx31 = w' ∧ Has 134 a [(1, .slice as2 ns2 cs2), (3, .slice as4 ns4 cs4), (4, .pointer (some ⟨b1, 0, none⟩)), (6, .pointer (some ⟨b2, 0, none⟩)), (8, .pointer (some ⟨b3, 0, none⟩)), (9, .slice as6 ns6 cs6), (11, .pointer (some ⟨b5, 0, none⟩)), (12, .int .i64 k1)]) ?_ ?_
            ·rintro a wx32 ⟨rfl, hax11⟩
             refine a1i hax11 ?_
             obtain ⟨⟨f2, f3, f4, f5⟩, hb10, hm⟩ := bind_some hm
             refine c1n (fun a w' => ∃ (Fx11 : Frz) (b15 : Nat) (as37 : Option Addr) (ns37 : Nat) (cs37 : Nat) (as38 : Option Addr) (ns38 : Nat) (cs38 : Nat), Frz.le Fx10 Fx11 ∧ HS F w [] Fx11 [.box b15 37 [.int .i64 f2, .slice as37 ns37 cs37, .int .i64 f4, .slice as38 ns38 cs38], .box b5 37 [.int .i64 v1.P.Sign, .slice as7 ns7 cs7, .int .i64 v1.Q.Sign, .slice as8 ns8 cs8], .row 37 4 as6 ns6 cs6 xss6, .box b3 37 [.int .i64 0, .slice none 0 0, .int .i64 0, .slice none 0 0], .box b2 30 [.slice as3 ns3 cs3, .int .i64 f1.Persons, .int .i64 f1.Flats], .box b1 24 [.int .i64 x1.Op, .int .i64 x1.N, vs x1.Name, .slice as1 ns1 cs1]] w' ∧ (SlR (Rp.int .i64) Fx11 as37 ns37 cs37 f3) ∧ (SlR (Rp.int .i64) Fx11 as38 ns38 cs38 f5) ∧ Has 134 a [(8, .pointer (some ⟨b3, 0, none⟩)), (9, .slice as6 ns6 cs6), (11, .pointer (some ⟨b5, 0, none⟩)), (12, .int .i64 k1), (15, .pointer (some ⟨b15, 0, none⟩))]) ?_ ?_
             ·rintro a wx33 ⟨Fx11, b15, as37, ns37, cs37, as38, ns38, cs38, hF11, hx31, hs37, hs38, hax12⟩
              refine a1i hax12 ?_
              refine a1w (SH Fx11 [.box b15 37 [.int .i64 f2, .slice as37 ns37 cs37, .int .i64 f4, .slice as38 ns38 cs38], .row 37 4 as6 ns6 cs6 xss6, .box b3 37 [.int .i64 0, .slice none 0 0, .int .i64 0, .slice none 0 0], .box b2 30 [.slice as3 ns3 cs3, .int .i64 f1.Persons, .int .i64 f1.Flats], .box b1 24 [.int .i64 x1.Op, .int .i64 x1.N, vs x1.Name, .slice as1 ns1 cs1]]) 12 rfl (by kernel_rfl) hx31 ?_
              intro wx34 hx32
              refine d_tk 0 rfl (by kernel_rfl) rfl rfl rfl rfl (hx32.sh (Frz.refl _) [0, 2, 3, 4, 5] (by decide) rfl) (fun _ _ _ _ _ => a0e rfl rfl rfl (a0c (qq rfl))) ?_
              refine d_tk 1 rfl (by kernel_rfl) rfl rfl rfl rfl (hx32.sh (Frz.refl _) [0, 2, 3, 4, 5] (by decide) rfl) (fun _ _ _ _ _ => a0e rfl rfl rfl (a0c (qq rfl))) ?_
              refine d_tk 2 rfl (by kernel_rfl) rfl rfl rfl rfl (hx32.sh (Frz.refl _) [0, 2, 3, 4, 5] (by decide) rfl) (fun _ _ _ _ _ => a0u rfl rfl rfl rfl rfl (a0c (qq rfl))) ?_
              obtain ⟨ex10, he10, hm⟩ := bind_some hm
              obtain ⟨b16, o10, cs10, hax13, ho8, hr10, hp8, hrun9⟩ := a3y (P := Tryz.prog) (r := rp_Frac) u31 sz37 hx32 (p := 2) rfl rfl (((hs6.mono hF3).mono hF10).mono hF11) he10
              obtain ⟨as39, ns39, cs39, as40, ns40, cs40, hc10, hs39, hs40⟩ := hr10
              subst hc10
              refine a5b 3 rfl (by kernel_rfl) (by kernel_rfl) (by kernel_rfl) rfl rfl rfl rfl hrun9 (hx32.sh (Frz.refl _) [0, 2, 3, 4, 5] (by decide) rfl) ?_
              refine d_tk 4 rfl (by kernel_rfl) rfl rfl rfl rfl (hx32.sh (Frz.refl _) [0, 2, 3, 4, 5] (by decide) rfl) (fun _ _ _ _ hq => b0y (j := 0) (cs' := [.int .i64 ex10.P.Sign, .slice as39 ns39 cs39, .int .i64 ex10.Q.Sign, .slice as40 ns40 cs40]) ag37 sz37 rfl rfl hq rfl (p := 1) rfl rfl hax13 ho8 hp8 rfl rfl (a0c (qq rfl))) ?_
              refine d_tk 5 rfl (by kernel_rfl) rfl rfl rfl rfl (hx32.sh (Frz.refl _) [0, 2, 3, 4, 5] (by decide) rfl) (fun _ _ _ _ hq => a0l ag37 sz37 rfl rfl hq rfl (i := 0) rfl rfl (a0c (qq rfl))) ?_
              refine a0v 6 rfl (by kernel_rfl) ?_
              obtain ⟨v11, hv9, hm⟩ := bind_some hm
              refine a0i ent24 rfl rfl rfl rfl hx32 (a6m _ _ _ hv9 hx32.sat hs37 hs38) ?_
              rintro _ Fx12 _ wx35 hF12 hx33 ⟨as41, ns41, cs41, as42, ns42, cs42, rfl, rfl, hs41, hs42⟩
              refine a0o (hx33.sh hF12 [0, 2, 3, 4, 5] (by decide) rfl) ?_
              refine a0v 7 rfl (by kernel_rfl) ?_
              obtain ⟨v12, hv10, hm⟩ := bind_some hm
              refine a0i ent20 rfl rfl rfl rfl hx33 (b4n _ _ _ _ hv10 hx33.sat (hs39.mono hF12) (hs40.mono hF12) hs41 hs42) ?_
              rintro _ Fx13 _ wx36 hF13 hx34 ⟨as43, ns43, cs43, as44, ns44, cs44, rfl, rfl, hs43, hs44⟩
              refine a0o (hx34.sh (hF12.trans hF13) [0, 2, 3, 4, 5] (by decide) rfl) ?_
              refine d_tk 8 rfl (by kernel_rfl) rfl rfl rfl rfl (hx34.sh (hF12.trans hF13) [0, 2, 3, 4, 5] (by decide) rfl) (fun _ _ _ _ _ => a0e rfl rfl rfl (a0c (qq rfl))) ?_
              refine d_tk 9 rfl (by kernel_rfl) rfl rfl rfl rfl (hx34.sh (hF12.trans hF13) [0, 2, 3, 4, 5] (by decide) rfl) (fun _ _ _ _ _ => a0j rfl rfl rfl rfl (a0c (qq rfl))) ?_
              refine d_tk 10 rfl (by kernel_rfl) rfl rfl rfl rfl (hx34.sh (hF12.trans hF13) [0, 2, 3, 4, 5] (by decide) rfl) (fun _ _ _ _ _ => a0j rfl rfl rfl rfl (a0c (qq rfl))) ?_
              refine a0v 11 rfl (by kernel_rfl) ?_
              refine a0p sz37 rfl hx34 rfl rfl rfl rfl (i := 1) rfl rfl rfl rfl ?_
              intro wx37 hx35
              refine a0o (hx35.sh (hF12.trans hF13) [0, 2, 3, 4, 5] (by decide) rfl) ?_
              refine a2g (by kernel_rfl) ?_
              refine a1m (a0d (a0f (a0a ?_)))
              refine a0l ag37 sz37 rfl rfl hx35 rfl (i := 1) rfl rfl ?_
              refine a0p sz37 rfl hx35 rfl rfl rfl rfl (i := 3) rfl rfl rfl rfl ?_
              intro wx38 hx36
              refine a0c (a0d (a1d ?_))
              refine a3r rfl ag37 sz37 rfl hx36 rfl (i := 3) rfl ?_
              obtain rfl := Option.some.inj hm
              exact ⟨_, _, _, rfl, hx36.pick [] (by decide) rfl, as43, ns43, cs43, as44, ns44, cs44, rfl, rfl, hs43, hs44⟩
             ·clear hm
              refine a1w (SH Fx10 [.box b5 37 [.int .i64 v1.P.Sign, .slice as7 ns7 cs7, .int .i64 v1.Q.Sign, .slice as8 ns8 cs8], .row 37 4 as6 ns6 cs6 xss6, .box b3 37 [.int .i64 0, .slice none 0 0, .int .i64 0, .slice none 0 0], .box b2 30 [.slice as3 ns3 cs3, .int .i64 f1.Persons, .int .i64 f1.Flats], .box b1 24 [.int .i64 x1.Op, .int .i64 x1.N, vs x1.Name, .slice as1 ns1 cs1]]) 16 rfl (by kernel_rfl) hx30 ?_
              intro wx39 hx37
              refine d_tk 0 rfl (by kernel_rfl) rfl rfl rfl rfl (hx37.sh (Frz.refl _) [0, 1, 2, 3, 4] (by decide) rfl) (fun _ _ _ _ _ => a0h fa24_3 rfl rfl rfl (a0c (qq rfl))) ?_
              refine d_tk 1 rfl (by kernel_rfl) rfl rfl rfl rfl (hx37.sh (Frz.refl _) [0, 1, 2, 3, 4] (by decide) rfl) (fun _ _ _ _ hq => a0r ag22 rfl rfl hq rfl (i := 4) rfl rfl (a0c (qq rfl))) ?_
              refine d_tk 2 rfl (by kernel_rfl) rfl rfl rfl rfl (hx37.sh (Frz.refl _) [0, 1, 2, 3, 4] (by decide) rfl) (fun _ _ _ _ _ => a0e rfl rfl rfl (a0c (qq rfl))) ?_
              obtain ⟨ex11, he11, hb10⟩ := bind_some hb10
              obtain ⟨b17, o11, cs11, hf3, hr11, hrun10⟩ := a2s (P := Tryz.prog) (r := rp_Expr) u22 sz24 (((hs1.mono hF2).mono hF3).mono hF10) he11
              obtain ⟨as45, ns45, cs45, hc11, hs45⟩ := expr_iff.1 hr11
              subst hc11
              refine a5b 3 rfl (by kernel_rfl) (by kernel_rfl) (by kernel_rfl) rfl rfl rfl rfl hrun10 (hx37.sh (Frz.refl _) [0, 1, 2, 3, 4] (by decide) rfl) ?_
              refine d_tk 4 rfl (by kernel_rfl) rfl rfl rfl rfl (hx37.sh (Frz.refl _) [0, 1, 2, 3, 4] (by decide) rfl) (fun _ _ _ hleq hq => a3s ag24 sz24 rfl rfl hq (hf3.mono hleq) rfl rfl (a0c (qq rfl))) ?_
              refine d_tk 5 rfl (by kernel_rfl) rfl rfl rfl rfl (hx37.sh (Frz.refl _) [0, 1, 2, 3, 4] (by decide) rfl) (fun _ _ _ _ _ => a2b (v := .agg #[vs [97], .int .i64 ex11.Op, .int .i64 ex11.N, vs ex11.Name, .slice as45 ns45 cs45, .int .i64 (-1)]) rfl rfl rfl (fun _ => by kernel_rfl) (a0c (qq rfl))) ?_
              refine d_tk 6 rfl (by kernel_rfl) rfl rfl rfl rfl (hx37.sh (Frz.refl _) [0, 1, 2, 3, 4] (by decide) rfl) (fun _ _ _ _ _ => a0e rfl rfl rfl (a0c (qq rfl))) ?_
              refine d_tk 7 rfl (by kernel_rfl) rfl rfl rfl rfl (hx37.sh (Frz.refl _) [0, 1, 2, 3, 4] (by decide) rfl) (fun _ _ _ _ hq => a0l ag30 sz30 rfl rfl hq rfl (i := 3) rfl rfl (a0c (qq rfl))) ?_
              refine d_tk 8 rfl (by kernel_rfl) rfl rfl rfl rfl (hx37.sh (Frz.refl _) [0, 1, 2, 3, 4] (by decide) rfl) (fun _ _ _ _ _ => a0e rfl rfl rfl (a0c (qq rfl))) ?_
              refine a9g 9 13 rfl rfl (by kernel_rfl) ?_ ?_
              ·obtain ⟨v13, hv11, hb10⟩ := bind_some hb10
               refine a0i ent8 rfl rfl rfl rfl hx37 (a8j _ _ _ _ _ _ hv11 hx37.sat hs45 (((hs2.mono hF2).mono hF3).mono hF10) (((hs3.mono hF2).mono hF3).mono hF10) (((hs4.mono hF2).mono hF3).mono hF10)) ?_
               rintro _ Fx14 _ wx40 hF14 hx38 ⟨as46, ns46, cs46, as47, ns47, cs47, rfl, rfl, hs46, hs47⟩
               refine a0o (hx38.sh hF14 [0, 1, 2, 3, 4] (by decide) rfl) ?_
               refine d_tk 10 rfl (by kernel_rfl) rfl rfl rfl rfl (hx38.sh hF14 [0, 1, 2, 3, 4] (by decide) rfl) (fun _ _ _ _ _ => a0e rfl rfl rfl (a0c (qq rfl))) ?_
               refine d_tk 11 rfl (by kernel_rfl) rfl rfl rfl rfl (hx38.sh hF14 [0, 1, 2, 3, 4] (by decide) rfl) (fun _ _ _ _ _ => a0j rfl rfl rfl rfl (a0c (qq rfl))) ?_
               refine d_tk 12 rfl (by kernel_rfl) rfl rfl rfl rfl (hx38.sh hF14 [0, 1, 2, 3, 4] (by decide) rfl) (fun _ _ _ _ _ => a0j rfl rfl rfl rfl (a0c (qq rfl))) ?_
               refine a0v 13 rfl (by kernel_rfl) ?_
               refine a1b ze37 rfl rfl rfl hx38 ?_
               intro b18 wx41 hx39
               refine a0o (hx39.sh hF14 [1, 2, 3, 4, 5] (by decide) rfl) ?_
               refine a0v 14 rfl (by kernel_rfl) ?_
               refine a0p sz37 rfl hx39 rfl rfl rfl rfl (i := 0) rfl rfl rfl rfl ?_
               intro wx42 hx40
               refine a0o (hx40.sh hF14 [1, 2, 3, 4, 5] (by decide) rfl) ?_
               refine d_tk 15 rfl (by kernel_rfl) rfl rfl rfl rfl (hx40.sh hF14 [1, 2, 3, 4, 5] (by decide) rfl) (fun _ _ _ _ _ => a0b rfl rfl rfl (a0c (qq rfl))) ?_
               refine a2g (by kernel_rfl) ?_
               refine a0n (fun a ha => ?_)
               cases hb10
               exact ⟨_, b18, as46, ns46, cs46, as47, ns47, cs47, hF14, hx40.pick [0, 1, 2, 3, 4, 5] (by decide) rfl, hs46, hs47, ha.cut (l := [8, 9, 11, 12, 15]) rfl⟩
              ·refine a1b ze37 rfl rfl rfl hx37 ?_
               intro b18 wx40 hx38
               refine a0o (hx38.sh (Frz.refl _) [1, 2, 3, 4, 5] (by decide) rfl) ?_
               refine a0v 9 rfl (by kernel_rfl) ?_
               obtain ⟨v13, hv11, hb10⟩ := bind_some hb10
               refine a0i ent8 rfl rfl rfl rfl hx38 (a8j _ _ _ _ _ _ hv11 hx38.sat hs45 (((hs2.mono hF2).mono hF3).mono hF10) (((hs3.mono hF2).mono hF3).mono hF10) (((hs4.mono hF2).mono hF3).mono hF10)) ?_
               rintro _ Fx14 _ wx41 hF14 hx39 ⟨as46, ns46, cs46, as47, ns47, cs47, rfl, rfl, hs46, hs47⟩
               refine a0o (hx39.sh hF14 [1, 2, 3, 4, 5] (by decide) rfl) ?_
               refine d_tk 10 rfl (by kernel_rfl) rfl rfl rfl rfl (hx39.sh hF14 [1, 2, 3, 4, 5] (by decide) rfl) (fun _ _ _ _ _ => a0e rfl rfl rfl (a0c (qq rfl))) ?_
               refine d_tk 11 rfl (by kernel_rfl) rfl rfl rfl rfl (hx39.sh hF14 [1, 2, 3, 4, 5] (by decide) rfl) (fun _ _ _ _ _ => a0j rfl rfl rfl rfl (a0c (qq rfl))) ?_
               refine d_tk 12 rfl (by kernel_rfl) rfl rfl rfl rfl (hx39.sh hF14 [1, 2, 3, 4, 5] (by decide) rfl) (fun _ _ _ _ _ => a0j rfl rfl rfl rfl (a0c (qq rfl))) ?_
               refine a0v 14 rfl (by kernel_rfl) ?_
               refine a0p sz37 rfl hx39 rfl rfl rfl rfl (i := 0) rfl rfl rfl rfl ?_
               intro wx42 hx40
               refine a0o (hx40.sh hF14 [1, 2, 3, 4, 5] (by decide) rfl) ?_
               refine d_tk 15 rfl (by kernel_rfl) rfl rfl rfl rfl (hx40.sh hF14 [1, 2, 3, 4, 5] (by decide) rfl) (fun _ _ _ _ _ => a0b rfl rfl rfl (a0c (qq rfl))) ?_
               refine a2g (by kernel_rfl) ?_
               refine a0n (fun a ha => ?_)
               cases hb10
               exact ⟨_, b18, as46, ns46, cs46, as47, ns47, cs47, hF14, hx40.pick [0, 1, 2, 3, 4, 5] (by decide) rfl, hs46, hs47, ha.cut (l := [8, 9, 11, 12, 15]) rfl⟩
            ·clear hm
             rcases a0g hb9 with ⟨hb11, hb9⟩ | ⟨hb11, hb9⟩
             ·refine a0t 108 rfl hb11 ?_
              refine a0y rfl (a0a (a0b rfl rfl rfl (a0c ?_)))
              refine a0n (fun a ha => ?_)
              cases hb9
              exact ⟨rfl, ha.cut (l := [1, 3, 4, 6, 8, 9, 11, 12]) rfl⟩
             ·refine a0t 108 rfl hb11 ?_
              refine a0s rfl (a1e ?_)
              refine a0n (fun a ha => ?_)
              cases hb9
              exact ⟨rfl, ha.cut (l := [1, 3, 4, 6, 8, 9, 11, 12]) rfl⟩
           ·refine a0t 96 rfl hb8 ?_
            refine a0s rfl (a1e (a1m (a0d (a0f (a0a ?_)))))
            refine a0l ag37 sz37 rfl rfl hx9 rfl (i := 0) rfl rfl ?_
            refine a0p sz37 rfl hx9 rfl rfl rfl rfl (i := 2) rfl rfl rfl rfl ?_
            intro wx43 hx41
            refine a0c (a0d (a1d ?_))
            refine a3r rfl ag37 sz37 rfl hx41 rfl (i := 2) rfl ?_
            obtain rfl := Option.some.inj hm
            exact ⟨_, _, _, rfl, hx41.pick [] (by decide) rfl, as7, ns7, cs7, as8, ns8, cs8, rfl, rfl, hs7, hs8⟩
       ·clear hm
        rcases a0g hb4 with ⟨hb12, hb4⟩ | ⟨hb12, hb4⟩
        ·refine a0t 56 rfl hb12 ?_
         refine a0y rfl (a1e ?_)
         refine a0n (fun a ha => ?_)
         cases hb4
         exact ⟨rfl, ha.cut (l := [1, 3, 4, 6, 8, 9, 11, 39, 56]) rfl⟩
        ·refine a0t 56 rfl hb12 ?_
         refine a0s rfl (a0a ?_)
         refine a0u rfl rfl rfl rfl rfl ?_
         refine a0b rfl rfl rfl (a0c ?_)
         refine a0n (fun a ha => ?_)
         cases hb4
         exact ⟨rfl, ha.cut (l := [1, 3, 4, 6, 8, 9, 11, 39, 56]) rfl⟩
     ·clear hm
      rcases a0g hb2 with ⟨hb13, hb2⟩ | ⟨hb13, hb2⟩
      ·refine a0t 43 rfl hb13 ?_
       refine a0y rfl (a1e ?_)
       refine a0n (fun a ha => ?_)
       cases hb2
       exact ⟨rfl, ha.cut (l := [1, 3, 4, 6, 8, 9, 11, 39, 43]) rfl⟩
      ·refine a0t 43 rfl hb13 ?_
       refine a0s rfl (a0a ?_)
       refine a0u rfl rfl rfl rfl rfl ?_
       refine a0b rfl rfl rfl (a0c ?_)
       refine a0n (fun a ha => ?_)
       cases hb2
       exact ⟨rfl, ha.cut (l := [1, 3, 4, 6, 8, 9, 11, 39, 43]) rfl⟩
   ·clear hm hkont1; intro hk1 mx1 K ihx1
    rintro ⟨i1, l1⟩ a wx44 hm ⟨Fx1, as5, ns5, cs5, xss5, hF1, hx5, hs5, hax14⟩
    simp only [a9x] at hm
    refine a1i hax14 ?_
    refine a0f (a0f (a0a (a0e rfl rfl rfl ?_)))
    refine a0h fa24_3 rfl rfl rfl ?_
    refine a0r ag22 rfl rfl hx5 rfl (i := 3) rfl rfl ?_
    refine a1u hs1.len u22 rfl rfl rfl ?_
    refine a0u rfl rfl rfl rfl rfl ?_
    refine a0c (a0d ?_)
    rcases a0g hm with ⟨hb14, hm⟩ | ⟨hb14, hm⟩
    ·refine a0t 22 rfl hb14 ?_
     refine a0y rfl (a1e (a0d (a0f (a1g ?_))))
     refine a1w (SH Fx1 [.box b3 37 [.int .i64 0, .slice none 0 0, .int .i64 0, .slice none 0 0], .box b2 30 [.slice as3 ns3 cs3, .int .i64 f1.Persons, .int .i64 f1.Flats], .box b1 24 [.int .i64 x1.Op, .int .i64 x1.N, vs x1.Name, .slice as1 ns1 cs1]]) 13 rfl (by kernel_rfl) hx5 ?_
     intro wx45 hx42
     refine d_tk 0 rfl (by kernel_rfl) rfl rfl rfl rfl (hx42.sh (Frz.refl _) [1, 2, 3] (by decide) rfl) (fun _ _ _ _ _ => a0e rfl rfl rfl (a0c (qq rfl))) ?_
     refine d_tk 1 rfl (by kernel_rfl) rfl rfl rfl rfl (hx42.sh (Frz.refl _) [1, 2, 3] (by decide) rfl) (fun _ _ _ _ _ => a0h fa24_3 rfl rfl rfl (a0c (qq rfl))) ?_
     refine d_tk 2 rfl (by kernel_rfl) rfl rfl rfl rfl (hx42.sh (Frz.refl _) [1, 2, 3] (by decide) rfl) (fun _ _ _ _ hq => a0r ag22 rfl rfl hq rfl (i := 2) rfl rfl (a0c (qq rfl))) ?_
     refine d_tk 3 rfl (by kernel_rfl) rfl rfl rfl rfl (hx42.sh (Frz.refl _) [1, 2, 3] (by decide) rfl) (fun _ _ _ _ _ => a0e rfl rfl rfl (a0c (qq rfl))) ?_
     obtain ⟨ex12, he12, hm⟩ := bind_some hm
     obtain ⟨b19, o12, cs12, hf4, hr12, hrun11⟩ := a2s (P := Tryz.prog) (r := rp_Expr) u22 sz24 (hs1.mono hF1) he12
     obtain ⟨as48, ns48, cs48, hc12, hs48⟩ := expr_iff.1 hr12
     subst hc12
     refine a5b 4 rfl (by kernel_rfl) (by kernel_rfl) (by kernel_rfl) rfl rfl rfl rfl hrun11 (hx42.sh (Frz.refl _) [1, 2, 3] (by decide) rfl) ?_
     refine d_tk 5 rfl (by kernel_rfl) rfl rfl rfl rfl (hx42.sh (Frz.refl _) [1, 2, 3] (by decide) rfl) (fun _ _ _ hleq hq => a3s ag24 sz24 rfl rfl hq (hf4.mono hleq) rfl rfl (a0c (qq rfl))) ?_
     refine d_tk 6 rfl (by kernel_rfl) rfl rfl rfl rfl (hx42.sh (Frz.refl _) [1, 2, 3] (by decide) rfl) (fun _ _ _ _ _ => a0e rfl rfl rfl (a0c (qq rfl))) ?_
     refine d_tk 7 rfl (by kernel_rfl) rfl rfl rfl rfl (hx42.sh (Frz.refl _) [1, 2, 3] (by decide) rfl) (fun _ _ _ _ hq => a0l ag30 sz30 rfl rfl hq rfl (i := 1) rfl rfl (a0c (qq rfl))) ?_
     refine d_tk 8 rfl (by kernel_rfl) rfl rfl rfl rfl (hx42.sh (Frz.refl _) [1, 2, 3] (by decide) rfl) (fun _ _ _ _ _ => a0e rfl rfl rfl (a0c (qq rfl))) ?_
     refine a0v 9 rfl (by kernel_rfl) ?_
     obtain ⟨v14, hv12, hm⟩ := bind_some hm
     refine a0i ent25 rfl rfl rfl rfl hx42 (ih _ _ _ _ _ hv12 hx42.sat hs48 (hs2.mono hF1) (hs3.mono hF1) (hs4.mono hF1)) ?_
     rintro _ Fx15 _ wx46 hF15 hx43 ⟨as49, ns49, cs49, as50, ns50, cs50, rfl, rfl, hs49, hs50⟩
     refine a0o (hx43.sh hF15 [1, 2, 3] (by decide) rfl) ?_
     refine a0v 10 rfl (by kernel_rfl) ?_
     refine a1q (e := 37) (cs := [.int .i64 v14.P.Sign, .slice as49 ns49 cs49, .int .i64 v14.Q.Sign, .slice as50 ns50 cs50]) (q := 4) rfl rfl hx43 rfl (fun _ => by kernel_rfl) rfl rfl ?_
     intro b20 wx47 hx44
     refine a0o (hx44.sh hF15 [2, 3, 4] (by decide) rfl) ?_
     refine a0v 11 rfl (by kernel_rfl) ?_
     obtain ⟨l3, hr13, hm⟩ := bind_some hm
     refine a9n (r := rp_Frac) ap31 rfl rfl hx44 rfl rfl (i := 1) (j := 0) rfl rfl (hs5.mono hF15) ((show RowN rp_Frac Fx15 1 [.int .i64 v14.P.Sign, .slice as49 ns49 cs49, .int .i64 v14.Q.Sign, .slice as50 ns50 cs50] [v14] from ⟨rfl, ⟨_, _, rfl, ⟨as49, ns49, cs49, as50, ns50, cs50, rfl, hs49, hs50⟩, (rfl : RowR rp_Frac _ [] [])⟩⟩)) hr13 ?_
     intro as51 cs51 wx48 hx45 hs51
     refine a0o (hx45.sh hF15 [2, 3, 4] (by decide) rfl) ?_
     refine d_tk 12 rfl (by kernel_rfl) rfl rfl rfl rfl (hx45.sh hF15 [2, 3, 4] (by decide) rfl) (fun _ _ _ _ _ => a0b rfl rfl rfl (a0c (qq rfl))) ?_
     refine a2g (by kernel_rfl) ?_
     refine a1m (a0d (a0a (a0e rfl rfl rfl ?_)))
     refine a0u rfl rfl rfl rfl rfl ?_
     refine a0b rfl rfl rfl (a0c ?_)
     refine a0n (fun a ha => ihx1 ((iadd .i64 i1 1), l3) a _ hm ?_)
     exact ⟨_, as51, (ns5 + 1), cs51, (xss5 ++ [.int .i64 v14.P.Sign, .slice as49 ns49 cs49, .int .i64 v14.Q.Sign, .slice as50 ns50 cs50]), (hF1.trans hF15), hx45.pick [1, 2, 3, 4] (by decide) rfl, hs51, ha.cut (l := [1, 3, 4, 6, 8, 9, 10]) rfl⟩
    ·refine a0t 22 rfl hb14 ?_
     refine a0s rfl (a3u (a0w (a0w ?_)))
     refine fun a ha => hk1 l1 a _ hm ?_
     exact ⟨_, as5, ns5, cs5, xss5, hF1, hx5.pick [0, 1, 2, 3] (by decide) rfl, hs5, ha.cut (l := [1, 3, 4, 6, 8, 9]) rfl⟩
theorem b8m (n : Nat) (x1 : Expr) (names1 : (List Bs)) (f1 : Facts) (weights1 : (List Frac)) (r : Frac) (hm : law36_slope n x1 names1 f1 weights1 = some r) {w : World} {F : Frz} (hs : Sat F w) {as1 : Option Addr} {ns1 : Nat} {cs1 : Nat} {as2 : Option Addr} {ns2 : Nat} {cs2 : Nat} {as3 : Option Addr} {ns3 : Nat} {cs3 : Nat} {as4 : Option Addr} {ns4 : Nat} {cs4 : Nat} (hs1 : SlR rp_Expr F as1 ns1 cs1 x1.Args) (hs2 : SlR Rp.str F as2 ns2 cs2 names1) (hs3 : SlR (Rp.int .i64) F as3 ns3 cs3 f1.Lifts) (hs4 : SlR rp_Frac F as4 ns4 cs4 weights1) :
  Calls Tryz.prog 25 #[.agg #[.int .i64 x1.Op, .int .i64 x1.N, vs x1.Name, .slice as1 ns1 cs1], .slice as2 ns2 cs2, .agg #[.slice as3 ns3 cs3, .int .i64 f1.Persons, .int .i64 f1.Flats], .slice as4 ns4 cs4] w fun e w' => ∃ v F' O', e = .returned v ∧ HS F w [] F' O' w' ∧ (∃ (a0_1 : Option Addr) (n0_1 : Nat) (c0_1 : Nat) (a0_3 : Option Addr) (n0_3 : Nat) (c0_3 : Nat), v = .agg #[.int .i64 r.P.Sign, .slice a0_1 n0_1 c0_1, .int .i64 r.Q.Sign, .slice a0_3 n0_3 c0_3] ∧ O' = [] ∧ SlR (Rp.int .i64) F' a0_1 n0_1 c0_1 r.P.Digits ∧ SlR (Rp.int .i64) F' a0_3 n0_3 c0_3 r.Q.Digits) :=
 (b8d n) x1 names1 f1 weights1 r hm hs hs1 hs2 hs3 hs4
theorem ent6 : Ent Tryz.prog 6 := fun _ _ => by kernel_rfl
theorem ent7 : Ent Tryz.prog 7 := fun _ _ => by kernel_rfl
def a3h (n : Nat) (weights1 : (List Frac)) (others1 : (List Frac)) (kont1 : Int → (List Int) → Int → (List Int) → Option Bool) : Nat → Int → Int → (List Int) → Int → (List Int) → Option Bool
 | 0, _, _, _, _, _ => none
 | mx1 + 1, k1, f2, f3, f4, f5 =>
  bif decide (k1 < (weights1.length : Int)) then
   ((ix weights1 k1).bind fun ex1 =>
   (ix others1 k1).bind fun ex2 =>
   (a7w n ex1 ex2).bind fun v27 =>
   some (v27.1.P.Sign, v27.1.P.Digits, v27.1.Q.Sign, v27.1.Q.Digits)).bind fun (f10, f11, f12, f13) =>
   (a3n n (⟨(⟨f10, f11⟩ : Big), (⟨f12, f13⟩ : Big)⟩ : Frac)).bind fun v25 =>
   (a5x n (⟨(⟨f2, f3⟩ : Big), (⟨f4, f5⟩ : Big)⟩ : Frac) v25).bind fun v26 =>
   a3h n weights1 others1 kont1 mx1 (iadd .i64 k1 1) v26.1.P.Sign v26.1.P.Digits v26.1.Q.Sign v26.1.Q.Digits
  else
   kont1 f2 f3 f4 f5
theorem a7r (n : Nat) (weights1 : (List Frac)) (others1 : (List Frac)) (kont1 : Int → (List Int) → Int → (List Int) → Option Bool) (mx1 : Nat) (k1 : Int) (f2 : Int) (f3 : (List Int)) (f4 : Int) (f5 : (List Int)) : a3h n weights1 others1 kont1 (mx1 + 1) k1 f2 f3 f4 f5 =
  bif decide (k1 < (weights1.length : Int)) then
   ((ix weights1 k1).bind fun ex1 =>
   (ix others1 k1).bind fun ex2 =>
   (a7w n ex1 ex2).bind fun v27 =>
   some (v27.1.P.Sign, v27.1.P.Digits, v27.1.Q.Sign, v27.1.Q.Digits)).bind fun (f10, f11, f12, f13) =>
   (a3n n (⟨(⟨f10, f11⟩ : Big), (⟨f12, f13⟩ : Big)⟩ : Frac)).bind fun v25 =>
   (a5x n (⟨(⟨f2, f3⟩ : Big), (⟨f4, f5⟩ : Big)⟩ : Frac) v25).bind fun v26 =>
   a3h n weights1 others1 kont1 mx1 (iadd .i64 k1 1) v26.1.P.Sign v26.1.P.Digits v26.1.Q.Sign v26.1.Q.Digits
  else
   kont1 f2 f3 f4 f5 := rfl
def a8q (n : Nat) (t1 : Tariff) (names1 : (List Bs)) (f1 : Facts) (weights1 : (List Frac)) (others1 : (List Frac)) : Option Bool :=
 (b0i n).bind fun v1 =>
 (b1m n t1 names1 f1 weights1).bind fun v2 =>
 (bif !v2 then
  some true
 else
  (b1m n t1 names1 f1 others1).bind fun v28 =>
  some (!v28)).bind fun v3 =>
 bif v3 then
  some v1
 else
  (a4q n t1 names1 f1 weights1).bind fun v4 =>
  (a4q n t1 names1 f1 others1).bind fun v5 =>
  (a6l n t1 names1 f1 weights1).bind fun v6 =>
  (a6l n t1 names1 f1 others1).bind fun v7 =>
  (bif v4.2 != 0 then
   some true
  else
   some (v5.2 != 0)).bind fun v8 =>
  bif v8 then
   some v1
  else
   (bif v6.2 != 0 then
    some true
   else
    some (v7.2 != 0)).bind fun v9 =>
   (bif v9 then
    some true
   else
    some ((weights1.length : Int) != (others1.length : Int))).bind fun v10 =>
   bif v10 then
    some false
   else
    (a3x n 0).bind fun v11 =>
    a3h n weights1 others1 (fun (f6 : Int) (f7 : (List Int)) (f8 : Int) (f9 : (List Int)) =>
     (law36_slope n t1.Fee names1 f1 weights1).bind fun v12 =>
     (a9j n v12 (⟨(⟨f6, f7⟩ : Big), (⟨f8, f9⟩ : Big)⟩ : Frac)).bind fun v13 =>
     (a7w n v4.1 v5.1).bind fun v14 =>
     (a7w n v6.1 v7.1).bind fun v15 =>
     (bif v1 then
      (a2z n v13.1).bind fun v24 =>
      some v24
     else
      some false).bind fun v16 =>
     (bif v16 then
      (a3n n v14.1).bind fun v22 =>
      (a4e n v22 v13.1).bind fun v23 =>
      some (decide (v23 ≤ 0))
     else
      some false).bind fun v17 =>
     (bif v17 then
      (a3n n v15.1).bind fun v19 =>
      (a3n n v14.1).bind fun v20 =>
      (a4e n v19 v20).bind fun v21 =>
      some (decide (v21 ≤ 0))
     else
      some false).bind fun v18 =>
     some v18) n 0 v11.P.Sign v11.P.Digits v11.Q.Sign v11.Q.Digits
set_option maxHeartbeats 1000000 in
set_option maxRecDepth 1000000 in
theorem law36_FeeSmooth_ok (n : Nat) (t1 : Tariff) (names1 : (List Bs)) (f1 : Facts) (weights1 : (List Frac)) (others1 : (List Frac)) (r : Bool) (hm : a8q n t1 names1 f1 weights1 others1 = some r) {w : World} {F : Frz} (hs : Sat F w) {as1 : Option Addr} {ns1 : Nat} {cs1 : Nat} {as2 : Option Addr} {ns2 : Nat} {cs2 : Nat} {as3 : Option Addr} {ns3 : Nat} {cs3 : Nat} {as4 : Option Addr} {ns4 : Nat} {cs4 : Nat} {as5 : Option Addr} {ns5 : Nat} {cs5 : Nat} (hs1 : SlR rp_Expr F as1 ns1 cs1 t1.Fee.Args) (hs2 : SlR Rp.str F as2 ns2 cs2 names1) (hs3 : SlR (Rp.int .i64) F as3 ns3 cs3 f1.Lifts) (hs4 : SlR rp_Frac F as4 ns4 cs4 weights1) (hs5 : SlR rp_Frac F as5 ns5 cs5 others1) :
  Calls Tryz.prog 5 #[.agg #[vs t1.Name, .int .i64 t1.Fee.Op, .int .i64 t1.Fee.N, vs t1.Fee.Name, .slice as1 ns1 cs1, .int .i64 t1.Cap], .slice as2 ns2 cs2, .agg #[.slice as3 ns3 cs3, .int .i64 f1.Persons, .int .i64 f1.Flats], .slice as4 ns4 cs4, .slice as5 ns5 cs5] w fun e w' => ∃ v F' O', e = .returned v ∧ HS F w [] F' O' w' ∧ (v = .bool r ∧ O' = []) := by
 unfold a8q at hm
 have h := HS.init hs
 refine a1a 169 Tryz.func5 rfl rfl rfl ?_
 refine a0f (a0a ?_)
 refine a2t rfl rfl rfl rfl h ?_
 intro b1 wx1 hx1
 refine a2t rfl rfl rfl rfl hx1 ?_
 intro b2 wx2 hx2
 refine a0b rfl rfl rfl (a0c (a0d (a0f (a0a ?_))))
 obtain ⟨v1, hv1, hm⟩ := bind_some hm
 refine a0i ent6 rfl rfl rfl rfl hx2 (b8l _ _ hv1 hx2.sat) ?_
 rintro _ Fx1 _ wx3 hF1 hx3 ⟨rfl, rfl⟩
 refine a0b rfl rfl rfl (a0c (a0d (a0f (a0f (a0a ?_)))))
 refine a0l ag26 sz26 rfl rfl hx3 rfl (i := 1) rfl rfl ?_
 refine a0e rfl rfl rfl ?_
 refine a0l ag30 sz30 rfl rfl hx3 rfl (i := 0) rfl rfl ?_
 refine a0e rfl rfl rfl ?_
 obtain ⟨v2, hv2, hm⟩ := bind_some hm
 refine a0i ent7 rfl rfl rfl rfl hx3 (b5v _ _ _ _ _ _ hv2 hx3.sat (hs1.mono hF1) (hs2.mono hF1) (hs3.mono hF1) (hs4.mono hF1)) ?_
 rintro _ Fx2 _ wx4 hF2 hx4 ⟨rfl, rfl⟩
 refine a4g rfl rfl rfl (a0e rfl rfl rfl ?_)
 obtain ⟨v3, hb1, hm⟩ := bind_some hm
 refine a2r 7 (fun a w' => ∃ (Fx3 : Frz), Frz.le Fx2 Fx3 ∧ HS F w [] Fx3 [.box b2 30 [.slice as3 ns3 cs3, .int .i64 f1.Persons, .int .i64 f1.Flats], .box b1 26 [vs t1.Name, .int .i64 t1.Fee.Op, .int .i64 t1.Fee.N, vs t1.Fee.Name, .slice as1 ns1 cs1, .int .i64 t1.Cap]] w' ∧ Has 169 a [(1, .slice as2 ns2 cs2), (3, .slice as4 ns4 cs4), (4, .slice as5 ns5 cs5), (5, .pointer (some ⟨b1, 0, none⟩)), (7, .pointer (some ⟨b2, 0, none⟩)), (11, .bool v1), (45, .bool v3)]) ?_ ?_
 ·rintro a wx5 ⟨Fx3, hF3, hx5, hax1⟩
  refine a1f hax1 ?_
  refine a0c (a0d ?_)
  rcases a0g hm with ⟨hb2, hm⟩ | ⟨hb2, hm⟩
  ·refine a0t 45 rfl hb2 ?_
   refine a0y rfl (a0f (a0a (a0e rfl rfl rfl (a0b rfl rfl rfl (a0c (a0d (a1d (a0k ?_))))))))
   refine a1l rfl rfl ?_
   obtain rfl := Option.some.inj hm
   exact ⟨_, _, _, rfl, hx5.pick [] (by decide) rfl, rfl, rfl⟩
  ·refine a0t 45 rfl hb2 ?_
   refine a0s rfl (a1e (a0d (a0f (a0a ?_))))
   refine a0l ag26 sz26 rfl rfl hx5 rfl (i := 1) rfl rfl ?_
   refine a0e rfl rfl rfl ?_
   refine a0l ag30 sz30 rfl rfl hx5 rfl (i := 0) rfl rfl ?_
   refine a0e rfl rfl rfl ?_
   obtain ⟨v4, hv3, hm⟩ := bind_some hm
   refine a0i ent8 rfl rfl rfl rfl hx5 (a8j _ _ _ _ _ _ hv3 hx5.sat (((hs1.mono hF1).mono hF2).mono hF3) (((hs2.mono hF1).mono hF2).mono hF3) (((hs3.mono hF1).mono hF2).mono hF3) (((hs4.mono hF1).mono hF2).mono hF3)) ?_
   rintro _ Fx4 _ wx6 hF4 hx6 ⟨as6, ns6, cs6, as7, ns7, cs7, rfl, rfl, hs6, hs7⟩
   refine a0e rfl rfl rfl (a0j rfl rfl rfl rfl (a0j rfl rfl rfl rfl ?_))
   refine a1b ze37 rfl rfl rfl hx6 ?_
   intro b3 wx7 hx7
   refine a0p sz37 rfl hx7 rfl rfl rfl rfl (i := 0) rfl rfl rfl rfl ?_
   intro wx8 hx8
   refine a0b rfl rfl rfl (a0c (a0d (a0f (a0a ?_))))
   refine a0l ag26 sz26 rfl rfl hx8 rfl (i := 2) rfl rfl ?_
   refine a0e rfl rfl rfl ?_
   refine a0l ag30 sz30 rfl rfl hx8 rfl (i := 1) rfl rfl ?_
   refine a0e rfl rfl rfl ?_
   have hG1 := ((hF1.trans hF2).trans hF3).trans hF4
   obtain ⟨v5, hv4, hm⟩ := bind_some hm
   refine a0i ent8 rfl rfl rfl rfl hx8 (a8j _ _ _ _ _ _ hv4 hx8.sat (hs1.mono hG1) (hs2.mono hG1) (hs3.mono hG1) (hs5.mono hG1)) ?_
   rintro _ Fx5 _ wx9 hF5 hx9 ⟨as8, ns8, cs8, as9, ns9, cs9, rfl, rfl, hs8, hs9⟩
   refine a0e rfl rfl rfl (a0j rfl rfl rfl rfl (a0j rfl rfl rfl rfl ?_))
   refine a1b ze37 rfl rfl rfl hx9 ?_
   intro b4 wx10 hx10
   refine a0p sz37 rfl hx10 rfl rfl rfl rfl (i := 0) rfl rfl rfl rfl ?_
   intro wx11 hx11
   refine a0b rfl rfl rfl (a0c (a0d (a0f (a0a ?_))))
   refine a0l ag26 sz26 rfl rfl hx11 rfl (i := 3) rfl rfl ?_
   refine a0e rfl rfl rfl ?_
   refine a0l ag30 sz30 rfl rfl hx11 rfl (i := 2) rfl rfl ?_
   refine a0e rfl rfl rfl ?_
   obtain ⟨v6, hv5, hm⟩ := bind_some hm
   refine a0i ent10 rfl rfl rfl rfl hx11 (b1v _ _ _ _ _ _ hv5 hx11.sat ((hs1.mono hG1).mono hF5) ((hs2.mono hG1).mono hF5) ((hs3.mono hG1).mono hF5) ((hs4.mono hG1).mono hF5)) ?_
   rintro _ Fx6 _ wx12 hF6 hx12 ⟨as10, ns10, cs10, as11, ns11, cs11, rfl, rfl, hs10, hs11⟩
   refine a0e rfl rfl rfl (a0j rfl rfl rfl rfl (a0j rfl rfl rfl rfl ?_))
   refine a1b ze37 rfl rfl rfl hx12 ?_
   intro b5 wx13 hx13
   refine a0p sz37 rfl hx13 rfl rfl rfl rfl (i := 0) rfl rfl rfl rfl ?_
   intro wx14 hx14
   refine a0b rfl rfl rfl (a0c (a0d (a0f (a0a ?_))))
   refine a0l ag26 sz26 rfl rfl hx14 rfl (i := 4) rfl rfl ?_
   refine a0e rfl rfl rfl ?_
   refine a0l ag30 sz30 rfl rfl hx14 rfl (i := 3) rfl rfl ?_
   refine a0e rfl rfl rfl ?_
   obtain ⟨v7, hv6, hm⟩ := bind_some hm
   refine a0i ent10 rfl rfl rfl rfl hx14 (b1v _ _ _ _ _ _ hv6 hx14.sat (((hs1.mono hG1).mono hF5).mono hF6) (((hs2.mono hG1).mono hF5).mono hF6) (((hs3.mono hG1).mono hF5).mono hF6) (((hs5.mono hG1).mono hF5).mono hF6)) ?_
   rintro _ Fx7 _ wx15 hF7 hx15 ⟨as12, ns12, cs12, as13, ns13, cs13, rfl, rfl, hs12, hs13⟩
   refine a0e rfl rfl rfl (a0j rfl rfl rfl rfl (a0j rfl rfl rfl rfl ?_))
   refine a1b ze37 rfl rfl rfl hx15 ?_
   intro b6 wx16 hx16
   refine a0p sz37 rfl hx16 rfl rfl rfl rfl (i := 0) rfl rfl rfl rfl ?_
   intro wx17 hx17
   refine a0b rfl rfl rfl (a0c (a0d (a0f (a0f (a0a (a0e rfl rfl rfl ?_))))))
   refine a0u rfl rfl rfl rfl rfl ?_
   refine a0e rfl rfl rfl ?_
   obtain ⟨v8, hb3, hm⟩ := bind_some hm
   refine a2r 3 (fun a w' => wx17 = w' ∧ Has 169 a [(1, .slice as2 ns2 cs2), (3, .slice as4 ns4 cs4), (4, .slice as5 ns5 cs5), (5, .pointer (some ⟨b1, 0, none⟩)), (7, .pointer (some ⟨b2, 0, none⟩)), (11, .bool v1), (12, .pointer (some ⟨b3, 0, none⟩)), (14, .pointer (some ⟨b4, 0, none⟩)), (16, .pointer (some ⟨b5, 0, none⟩)), (17, .int .i64 v6.2), (18, .pointer (some ⟨b6, 0, none⟩)), (19, .int .i64 v7.2), (84, .bool v8)]) ?_ ?_
   ·rintro a wx18 ⟨rfl, hax2⟩
    refine a1f hax2 ?_
    refine a0c (a0d ?_)
    rcases a0g hm with ⟨hb4, hm⟩ | ⟨hb4, hm⟩
    ·refine a0t 84 rfl hb4 ?_
     refine a0y rfl (a0f (a0a (a0e rfl rfl rfl (a0b rfl rfl rfl (a0c (a0d (a1d (a0k ?_))))))))
     refine a1l rfl rfl ?_
     obtain rfl := Option.some.inj hm
     exact ⟨_, _, _, rfl, hx17.pick [] (by decide) rfl, rfl, rfl⟩
    ·refine a0t 84 rfl hb4 ?_
     refine a0s rfl (a1e (a0d (a0f (a0f (a0a (a0e rfl rfl rfl ?_))))))
     refine a0u rfl rfl rfl rfl rfl ?_
     refine a0e rfl rfl rfl ?_
     obtain ⟨v9, hb5, hm⟩ := bind_some hm
     refine a2r 3 (fun a w' => wx17 = w' ∧ Has 169 a [(1, .slice as2 ns2 cs2), (3, .slice as4 ns4 cs4), (4, .slice as5 ns5 cs5), (5, .pointer (some ⟨b1, 0, none⟩)), (7, .pointer (some ⟨b2, 0, none⟩)), (11, .bool v1), (12, .pointer (some ⟨b3, 0, none⟩)), (14, .pointer (some ⟨b4, 0, none⟩)), (16, .pointer (some ⟨b5, 0, none⟩)), (18, .pointer (some ⟨b6, 0, none⟩)), (91, .bool v9)]) ?_ ?_
     ·rintro a wx19 ⟨rfl, hax3⟩
      refine a1f hax3 ?_
      refine a0e rfl rfl rfl ?_
      obtain ⟨v10, hb6, hm⟩ := bind_some hm
      refine a2r 6 (fun a w' => wx17 = w' ∧ Has 169 a [(1, .slice as2 ns2 cs2), (3, .slice as4 ns4 cs4), (4, .slice as5 ns5 cs5), (5, .pointer (some ⟨b1, 0, none⟩)), (7, .pointer (some ⟨b2, 0, none⟩)), (11, .bool v1), (12, .pointer (some ⟨b3, 0, none⟩)), (14, .pointer (some ⟨b4, 0, none⟩)), (16, .pointer (some ⟨b5, 0, none⟩)), (18, .pointer (some ⟨b6, 0, none⟩)), (98, .bool v10)]) ?_ ?_
      ·rintro a wx20 ⟨rfl, hax4⟩
       refine a1f hax4 ?_
       refine a0c (a0d ?_)
       rcases a0g hm with ⟨hb7, hm⟩ | ⟨hb7, hm⟩
       ·refine a0t 98 rfl hb7 ?_
        refine a0y rfl (a0f (a0a (a0b rfl rfl rfl (a0c (a0d (a1d (a0k ?_)))))))
        refine a1l rfl rfl ?_
        obtain rfl := Option.some.inj hm
        exact ⟨_, _, _, rfl, hx17.pick [] (by decide) rfl, rfl, rfl⟩
       ·refine a0t 98 rfl hb7 ?_
        refine a0s rfl (a1e (a0d (a0f (a0a ?_))))
        obtain ⟨v11, hv7, hm⟩ := bind_some hm
        refine a0i ent17 rfl rfl rfl rfl hx17 (a6a _ _ _ hv7 hx17.sat) ?_
        rintro _ Fx8 _ wx21 hF8 hx18 ⟨as14, ns14, cs14, as15, ns15, cs15, rfl, rfl, hs14, hs15⟩
        refine a1b ze37 rfl rfl rfl hx18 ?_
        intro b7 wx22 hx19
        refine a0p sz37 rfl hx19 rfl rfl rfl rfl (i := 0) rfl rfl rfl rfl ?_
        intro wx23 hx20
        refine a0c (a0d (a0f (a0f (a0a (a0b rfl rfl rfl (a0c (a0d (a1g ?_))))))))
        intro a hax11
        obtain ⟨kont1, hkont1⟩ : ∃ kont1 : Int → (List Int) → Int → (List Int) → Option Bool, kont1 = (fun (f6 : Int) (f7 : (List Int)) (f8 : Int) (f9 : (List Int)) =>
       (law36_slope n t1.Fee names1 f1 weights1).bind fun v12 =>
       (a9j n v12 (⟨(⟨f6, f7⟩ : Big), (⟨f8, f9⟩ : Big)⟩ : Frac)).bind fun v13 =>
       (a7w n v4.1 v5.1).bind fun v14 =>
       (a7w n v6.1 v7.1).bind fun v15 =>
       (bif v1 then
        (a2z n v13.1).bind fun v24 =>
        some v24
       else
        some false).bind fun v16 =>
       (bif v16 then
        (a3n n v14.1).bind fun v22 =>
        (a4e n v22 v13.1).bind fun v23 =>
        some (decide (v23 ≤ 0))
       else
        some false).bind fun v17 =>
       (bif v17 then
        (a3n n v15.1).bind fun v19 =>
        (a3n n v14.1).bind fun v20 =>
        (a4e n v19 v20).bind fun v21 =>
        some (decide (v21 ≤ 0))
       else
        some false).bind fun v18 =>
       some v18) := ⟨_, rfl⟩
        replace hm : (fun m (s : Int × Int × (List Int) × Int × (List Int)) => a3h n weights1 others1 kont1 m s.1 s.2.1 s.2.2.1 s.2.2.2.1 s.2.2.2.2) n (0, v11.P.Sign, v11.P.Digits, v11.Q.Sign, v11.Q.Digits) = some r := by rw [hkont1]; exact hm
        refine a5w (id := 0) (fun m (s : Int × Int × (List Int) × Int × (List Int)) => a3h n weights1 others1 kont1 m s.1 s.2.1 s.2.2.1 s.2.2.2.1 s.2.2.2.2) (fun (y : Int × (List Int) × Int × (List Int)) => kont1 y.1 y.2.1 y.2.2.1 y.2.2.2) r (fun (s : Int × Int × (List Int) × Int × (List Int)) a w' => ∃ (Fx9 : Frz) (as16 : Option Addr) (ns16 : Nat) (cs16 : Nat) (as17 : Option Addr) (ns17 : Nat) (cs17 : Nat), Frz.le Fx8 Fx9 ∧ HS F w [] Fx9 [.box b7 37 [.int .i64 s.2.1, .slice as16 ns16 cs16, .int .i64 s.2.2.2.1, .slice as17 ns17 cs17], .box b6 37 [.int .i64 v7.1.P.Sign, .slice as12 ns12 cs12, .int .i64 v7.1.Q.Sign, .slice as13 ns13 cs13], .box b5 37 [.int .i64 v6.1.P.Sign, .slice as10 ns10 cs10, .int .i64 v6.1.Q.Sign, .slice as11 ns11 cs11], .box b4 37 [.int .i64 v5.1.P.Sign, .slice as8 ns8 cs8, .int .i64 v5.1.Q.Sign, .slice as9 ns9 cs9], .box b3 37 [.int .i64 v4.1.P.Sign, .slice as6 ns6 cs6, .int .i64 v4.1.Q.Sign, .slice as7 ns7 cs7], .box b2 30 [.slice as3 ns3 cs3, .int .i64 f1.Persons, .int .i64 f1.Flats], .box b1 26 [vs t1.Name, .int .i64 t1.Fee.Op, .int .i64 t1.Fee.N, vs t1.Fee.Name, .slice as1 ns1 cs1, .int .i64 t1.Cap]] w' ∧ (SlR (Rp.int .i64) Fx9 as16 ns16 cs16 s.2.2.1) ∧ (SlR (Rp.int .i64) Fx9 as17 ns17 cs17 s.2.2.2.2) ∧ Has 169 a [(1, .slice as2 ns2 cs2), (3, .slice as4 ns4 cs4), (4, .slice as5 ns5 cs5), (5, .pointer (some ⟨b1, 0, none⟩)), (7, .pointer (some ⟨b2, 0, none⟩)), (11, .bool v1), (12, .pointer (some ⟨b3, 0, none⟩)), (14, .pointer (some ⟨b4, 0, none⟩)), (16, .pointer (some ⟨b5, 0, none⟩)), (18, .pointer (some ⟨b6, 0, none⟩)), (20, .pointer (some ⟨b7, 0, none⟩)), (21, .int .i64 s.1)]) (fun (y : Int × (List Int) × Int × (List Int)) a w' => ∃ (Fx10 : Frz) (as18 : Option Addr) (ns18 : Nat) (cs18 : Nat) (as19 : Option Addr) (ns19 : Nat) (cs19 : Nat), Frz.le Fx8 Fx10 ∧ HS F w [] Fx10 [.box b7 37 [.int .i64 y.1, .slice as18 ns18 cs18, .int .i64 y.2.2.1, .slice as19 ns19 cs19], .box b6 37 [.int .i64 v7.1.P.Sign, .slice as12 ns12 cs12, .int .i64 v7.1.Q.Sign, .slice as13 ns13 cs13], .box b5 37 [.int .i64 v6.1.P.Sign, .slice as10 ns10 cs10, .int .i64 v6.1.Q.Sign, .slice as11 ns11 cs11], .box b4 37 [.int .i64 v5.1.P.Sign, .slice as8 ns8 cs8, .int .i64 v5.1.Q.Sign, .slice as9 ns9 cs9], .box b3 37 [.int .i64 v4.1.P.Sign, .slice as6 ns6 cs6, .int .i64 v4.1.Q.Sign, .slice as7 ns7 cs7], .box b2 30 [.slice as3 ns3 cs3, .int .i64 f1.Persons, .int .i64 f1.Flats], .box b1 26 [vs t1.Name, .int .i64 t1.Fee.Op, .int .i64 t1.Fee.N, vs t1.Fee.Name, .slice as1 ns1 cs1, .int .i64 t1.Cap]] w' ∧ (SlR (Rp.int .i64) Fx10 as18 ns18 cs18 y.2.1) ∧ (SlR (Rp.int .i64) Fx10 as19 ns19 cs19 y.2.2.2) ∧ Has 169 a [(1, .slice as2 ns2 cs2), (3, .slice as4 ns4 cs4), (5, .pointer (some ⟨b1, 0, none⟩)), (7, .pointer (some ⟨b2, 0, none⟩)), (11, .bool v1), (12, .pointer (some ⟨b3, 0, none⟩)), (14, .pointer (some ⟨b4, 0, none⟩)), (16, .pointer (some ⟨b5, 0, none⟩)), (18, .pointer (some ⟨b6, 0, none⟩)), (20, .pointer (some ⟨b7, 0, none⟩))]) (fun _ => rfl) ?_ ?_ hm ⟨_, as14, ns14, cs14, as15, ns15, cs15, Frz.refl _, hx20.pick [0, 1, 2, 3, 4, 5, 6] (by decide) rfl, hs14, hs15, hax11.cut (l := [1, 3, 4, 5, 7, 11, 12, 14, 16, 18, 20, 21]) rfl⟩
        ·clear hm; rintro ⟨f6, f7, f8, f9⟩ a wx24 hm ⟨Fx10, as18, ns18, cs18, as19, ns19, cs19, hF10, hx22, hs18, hs19, hax5⟩
         rw [hkont1] at hm
         replace hm := hm
         refine a2f (e := .exit 0) hax5 ?_
         refine a1k (a0d (a0f (a0a ?_)))
         refine a0h fa26_1 rfl rfl rfl ?_
         refine a2m (cs' := [.int .i64 t1.Fee.Op, .int .i64 t1.Fee.N, vs t1.Fee.Name, .slice as1 ns1 cs1]) ag24 sz24 rfl rfl hx22 rfl (i := 6) rfl rfl rfl ?_
         refine a0e rfl rfl rfl ?_
         refine a0l ag30 sz30 rfl rfl hx22 rfl (i := 5) rfl rfl ?_
         refine a0e rfl rfl rfl ?_
         have hG2 := ((((hG1.trans hF5).trans hF6).trans hF7).trans hF8).trans hF10
         obtain ⟨v12, hv8, hm⟩ := bind_some hm
         refine a0i ent25 rfl rfl rfl rfl hx22 (b8m _ _ _ _ _ _ hv8 hx22.sat (hs1.mono hG2) (hs2.mono hG2) (hs3.mono hG2) (hs4.mono hG2)) ?_
         rintro _ Fx11 _ wx25 hF11 hx23 ⟨as20, ns20, cs20, as21, ns21, cs21, rfl, rfl, hs20, hs21⟩
         refine a1b ze37 rfl rfl rfl hx23 ?_
         intro b8 wx26 hx24
         refine a0p sz37 rfl hx24 rfl rfl rfl rfl (i := 0) rfl rfl rfl rfl ?_
         intro wx27 hx25
         refine a0c (a0d (a0f (a0a ?_)))
         refine a0l ag37 sz37 rfl rfl hx25 rfl (i := 0) rfl rfl ?_
         refine a0l ag37 sz37 rfl rfl hx25 rfl (i := 1) rfl rfl ?_
         obtain ⟨v13, hv9, hm⟩ := bind_some hm
         refine a0i ent20 rfl rfl rfl rfl hx25 (b4n _ _ _ _ hv9 hx25.sat hs20 hs21 (hs18.mono hF11) (hs19.mono hF11)) ?_
         rintro _ Fx12 _ wx28 hF12 hx26 ⟨as22, ns22, cs22, as23, ns23, cs23, rfl, rfl, hs22, hs23⟩
         refine a0e rfl rfl rfl (a0j rfl rfl rfl rfl (a0j rfl rfl rfl rfl ?_))
         refine a1b ze37 rfl rfl rfl hx26 ?_
         intro b9 wx29 hx27
         refine a0p sz37 rfl hx27 rfl rfl rfl rfl (i := 0) rfl rfl rfl rfl ?_
         intro wx30 hx28
         refine a0b rfl rfl rfl (a0c (a0d (a0f (a0a ?_))))
         refine a0l ag37 sz37 rfl rfl hx28 rfl (i := 6) rfl rfl ?_
         refine a0l ag37 sz37 rfl rfl hx28 rfl (i := 5) rfl rfl ?_
         have hG3 := (((((hF5.trans hF6).trans hF7).trans hF8).trans hF10).trans hF11).trans hF12
         have hG4 := ((((hF6.trans hF7).trans hF8).trans hF10).trans hF11).trans hF12
         obtain ⟨v14, hv10, hm⟩ := bind_some hm
         refine a0i ent19 rfl rfl rfl rfl hx28 (b0p _ _ _ _ hv10 hx28.sat (hs6.mono hG3) (hs7.mono hG3) (hs8.mono hG4) (hs9.mono hG4)) ?_
         rintro _ Fx13 _ wx31 hF13 hx29 ⟨as24, ns24, cs24, as25, ns25, cs25, rfl, rfl, hs24, hs25⟩
         refine a0e rfl rfl rfl (a0j rfl rfl rfl rfl (a0j rfl rfl rfl rfl ?_))
         refine a1b ze37 rfl rfl rfl hx29 ?_
         intro b10 wx32 hx30
         refine a0p sz37 rfl hx30 rfl rfl rfl rfl (i := 0) rfl rfl rfl rfl ?_
         intro wx33 hx31
         refine a0b rfl rfl rfl (a0c (a0d (a0f (a0a ?_))))
         refine a0l ag37 sz37 rfl rfl hx31 rfl (i := 5) rfl rfl ?_
         refine a0l ag37 sz37 rfl rfl hx31 rfl (i := 4) rfl rfl ?_
         have hG5 := ((((hF7.trans hF8).trans hF10).trans hF11).trans hF12).trans hF13
         have hG6 := (((hF8.trans hF10).trans hF11).trans hF12).trans hF13
         obtain ⟨v15, hv11, hm⟩ := bind_some hm
         refine a0i ent19 rfl rfl rfl rfl hx31 (b0p _ _ _ _ hv11 hx31.sat (hs10.mono hG5) (hs11.mono hG5) (hs12.mono hG6) (hs13.mono hG6)) ?_
         rintro _ Fx14 _ wx34 hF14 hx32 ⟨as26, ns26, cs26, as27, ns27, cs27, rfl, rfl, hs26, hs27⟩
         refine a0e rfl rfl rfl (a0j rfl rfl rfl rfl (a0j rfl rfl rfl rfl ?_))
         refine a1b ze37 rfl rfl rfl hx32 ?_
         intro b11 wx35 hx33
         refine a0p sz37 rfl hx33 rfl rfl rfl rfl (i := 0) rfl rfl rfl rfl ?_
         intro wx36 hx34
         refine a0b rfl rfl rfl (a0c (a0d (a0f ?_)))
         refine a1w (SH Fx14 [.box b11 37 [.int .i64 v15.1.P.Sign, .slice as26 ns26 cs26, .int .i64 v15.1.Q.Sign, .slice as27 ns27 cs27], .box b10 37 [.int .i64 v14.1.P.Sign, .slice as24 ns24 cs24, .int .i64 v14.1.Q.Sign, .slice as25 ns25 cs25], .box b9 37 [.int .i64 v13.1.P.Sign, .slice as22 ns22 cs22, .int .i64 v13.1.Q.Sign, .slice as23 ns23 cs23], .box b8 37 [.int .i64 v12.P.Sign, .slice as20 ns20 cs20, .int .i64 v12.Q.Sign, .slice as21 ns21 cs21], .box b7 37 [.int .i64 f6, .slice as18 ns18 cs18, .int .i64 f8, .slice as19 ns19 cs19], .box b6 37 [.int .i64 v7.1.P.Sign, .slice as12 ns12 cs12, .int .i64 v7.1.Q.Sign, .slice as13 ns13 cs13], .box b5 37 [.int .i64 v6.1.P.Sign, .slice as10 ns10 cs10, .int .i64 v6.1.Q.Sign, .slice as11 ns11 cs11], .box b4 37 [.int .i64 v5.1.P.Sign, .slice as8 ns8 cs8, .int .i64 v5.1.Q.Sign, .slice as9 ns9 cs9], .box b3 37 [.int .i64 v4.1.P.Sign, .slice as6 ns6 cs6, .int .i64 v4.1.Q.Sign, .slice as7 ns7 cs7], .box b2 30 [.slice as3 ns3 cs3, .int .i64 f1.Persons, .int .i64 f1.Flats], .box b1 26 [vs t1.Name, .int .i64 t1.Fee.Op, .int .i64 t1.Fee.N, vs t1.Fee.Name, .slice as1 ns1 cs1, .int .i64 t1.Cap]]) 21 rfl (by kernel_rfl) hx34 ?_
         intro wx37 hx35
         refine d_tk 0 rfl (by kernel_rfl) rfl rfl rfl rfl (hx35.sh (Frz.refl _) [0, 1, 2, 3, 4, 5, 6, 7, 8, 9, 10] (by decide) rfl) (fun _ _ _ _ _ => a0e rfl rfl rfl (a0c (qq rfl))) ?_
         refine d_tk 1 rfl (by kernel_rfl) rfl rfl rfl rfl (hx35.sh (Frz.refl _) [0, 1, 2, 3, 4, 5, 6, 7, 8, 9, 10] (by decide) rfl) (fun _ _ _ _ _ => a0e rfl rfl rfl (a0c (qq rfl))) ?_
         obtain ⟨v16, hb8, hm⟩ := bind_some hm
         refine c2d (fuel' := 16) (listed' := #[true, true, true, true, true, false, false, false, false, false, false, false, false, false, false, false, false, false, false, false, false]) (fun a w' => ∃ (Fx15 : Frz), Frz.le Fx14 Fx15 ∧ HS F w [] Fx15 [.box b11 37 [.int .i64 v15.1.P.Sign, .slice as26 ns26 cs26, .int .i64 v15.1.Q.Sign, .slice as27 ns27 cs27], .box b10 37 [.int .i64 v14.1.P.Sign, .slice as24 ns24 cs24, .int .i64 v14.1.Q.Sign, .slice as25 ns25 cs25], .box b9 37 [.int .i64 v13.1.P.Sign, .slice as22 ns22 cs22, .int .i64 v13.1.Q.Sign, .slice as23 ns23 cs23], .box b8 37 [.int .i64 v12.P.Sign, .slice as20 ns20 cs20, .int .i64 v12.Q.Sign, .slice as21 ns21 cs21], .box b7 37 [.int .i64 f6, .slice as18 ns18 cs18, .int .i64 f8, .slice as19 ns19 cs19], .box b6 37 [.int .i64 v7.1.P.Sign, .slice as12 ns12 cs12, .int .i64 v7.1.Q.Sign, .slice as13 ns13 cs13], .box b5 37 [.int .i64 v6.1.P.Sign, .slice as10 ns10 cs10, .int .i64 v6.1.Q.Sign, .slice as11 ns11 cs11], .box b4 37 [.int .i64 v5.1.P.Sign, .slice as8 ns8 cs8, .int .i64 v5.1.Q.Sign, .slice as9 ns9 cs9], .box b3 37 [.int .i64 v4.1.P.Sign, .slice as6 ns6 cs6, .int .i64 v4.1.Q.Sign, .slice as7 ns7 cs7], .box b2 30 [.slice as3 ns3 cs3, .int .i64 f1.Persons, .int .i64 f1.Flats], .box b1 26 [vs t1.Name, .int .i64 t1.Fee.Op, .int .i64 t1.Fee.N, vs t1.Fee.Name, .slice as1 ns1 cs1, .int .i64 t1.Cap]] w' ∧ Has 169 a [(25, .pointer (some ⟨b9, 0, none⟩)), (27, .pointer (some ⟨b10, 0, none⟩)), (29, .pointer (some ⟨b11, 0, none⟩)), (153, .bool v16)]) ?_ (fun hK1 => ?_)
         ·rintro a wx38 ⟨Fx15, hF15, hx36, hax6⟩
          refine b2f hax6 ?_
          refine d_tk 5 rfl (by kernel_rfl) rfl rfl rfl rfl (hx36.sh hF15 [0, 1, 2, 3, 4, 5, 6, 7, 8, 9, 10] (by decide) rfl) (fun _ _ _ _ _ => a0e rfl rfl rfl (a0c (qq rfl))) ?_
          obtain ⟨v17, hb9, hm⟩ := bind_some hm
          refine c2d (fuel' := 9) (listed' := #[true, true, true, true, true, true, true, true, true, true, true, true, false, false, false, false, false, false, false, false, false]) (fun a w' => ∃ (Fx16 : Frz), Frz.le Fx15 Fx16 ∧ HS F w [] Fx16 [.box b11 37 [.int .i64 v15.1.P.Sign, .slice as26 ns26 cs26, .int .i64 v15.1.Q.Sign, .slice as27 ns27 cs27], .box b10 37 [.int .i64 v14.1.P.Sign, .slice as24 ns24 cs24, .int .i64 v14.1.Q.Sign, .slice as25 ns25 cs25], .box b9 37 [.int .i64 v13.1.P.Sign, .slice as22 ns22 cs22, .int .i64 v13.1.Q.Sign, .slice as23 ns23 cs23], .box b8 37 [.int .i64 v12.P.Sign, .slice as20 ns20 cs20, .int .i64 v12.Q.Sign, .slice as21 ns21 cs21], .box b7 37 [.int .i64 f6, .slice as18 ns18 cs18, .int .i64 f8, .slice as19 ns19 cs19], .box b6 37 [.int .i64 v7.1.P.Sign, .slice as12 ns12 cs12, .int .i64 v7.1.Q.Sign, .slice as13 ns13 cs13], .box b5 37 [.int .i64 v6.1.P.Sign, .slice as10 ns10 cs10, .int .i64 v6.1.Q.Sign, .slice as11 ns11 cs11], .box b4 37 [.int .i64 v5.1.P.Sign, .slice as8 ns8 cs8, .int .i64 v5.1.Q.Sign, .slice as9 ns9 cs9], .box b3 37 [.int .i64 v4.1.P.Sign, .slice as6 ns6 cs6, .int .i64 v4.1.Q.Sign, .slice as7 ns7 cs7], .box b2 30 [.slice as3 ns3 cs3, .int .i64 f1.Persons, .int .i64 f1.Flats], .box b1 26 [vs t1.Name, .int .i64 t1.Fee.Op, .int .i64 t1.Fee.N, vs t1.Fee.Name, .slice as1 ns1 cs1, .int .i64 t1.Cap]] w' ∧ Has 169 a [(27, .pointer (some ⟨b10, 0, none⟩)), (29, .pointer (some ⟨b11, 0, none⟩)), (160, .bool v17)]) ?_ (fun hK2 => ?_)
          ·rintro a wx39 ⟨Fx16, hF16, hx37, hax7⟩
           refine b2f hax7 ?_
           refine d_tk 12 rfl (by kernel_rfl) rfl rfl rfl rfl (hx37.sh (hF15.trans hF16) [0, 1, 2, 3, 4, 5, 6, 7, 8, 9, 10] (by decide) rfl) (fun _ _ _ _ _ => a0e rfl rfl rfl (a0c (qq rfl))) ?_
           obtain ⟨v18, hb10, hm⟩ := bind_some hm
           refine c2d (fuel' := 1) (listed' := #[true, true, true, true, true, true, true, true, true, true, true, true, true, true, true, true, true, true, true, true, false]) (fun a w' => ∃ (Fx17 : Frz), Frz.le Fx16 Fx17 ∧ HS F w [] Fx17 [.box b11 37 [.int .i64 v15.1.P.Sign, .slice as26 ns26 cs26, .int .i64 v15.1.Q.Sign, .slice as27 ns27 cs27], .box b10 37 [.int .i64 v14.1.P.Sign, .slice as24 ns24 cs24, .int .i64 v14.1.Q.Sign, .slice as25 ns25 cs25], .box b9 37 [.int .i64 v13.1.P.Sign, .slice as22 ns22 cs22, .int .i64 v13.1.Q.Sign, .slice as23 ns23 cs23], .box b8 37 [.int .i64 v12.P.Sign, .slice as20 ns20 cs20, .int .i64 v12.Q.Sign, .slice as21 ns21 cs21], .box b7 37 [.int .i64 f6, .slice as18 ns18 cs18, .int .i64 f8, .slice as19 ns19 cs19], .box b6 37 [.int .i64 v7.1.P.Sign, .slice as12 ns12 cs12, .int .i64 v7.1.Q.Sign, .slice as13 ns13 cs13], .box b5 37 [.int .i64 v6.1.P.Sign, .slice as10 ns10 cs10, .int .i64 v6.1.Q.Sign, .slice as11 ns11 cs11], .box b4 37 [.int .i64 v5.1.P.Sign, .slice as8 ns8 cs8, .int .i64 v5.1.Q.Sign, .slice as9 ns9 cs9], .box b3 37 [.int .i64 v4.1.P.Sign, .slice as6 ns6 cs6, .int .i64 v4.1.Q.Sign, .slice as7 ns7 cs7], .box b2 30 [.slice as3 ns3 cs3, .int .i64 f1.Persons, .int .i64 f1.Flats], .box b1 26 [vs t1.Name, .int .i64 t1.Fee.Op, .int .i64 t1.Fee.N, vs t1.Fee.Name, .slice as1 ns1 cs1, .int .i64 t1.Cap]] w' ∧ Has 169 a [(168, .bool v18)]) ?_ (fun hK3 => ?_)
           ·rintro a wx40 ⟨Fx17, hF17, hx38, hax8⟩
            refine b2f hax8 ?_
            refine d_tk 20 rfl (by kernel_rfl) rfl rfl rfl rfl (hx38.sh ((hF15.trans hF16).trans hF17) [0, 1, 2, 3, 4, 5, 6, 7, 8, 9, 10] (by decide) rfl) (fun _ _ _ _ _ => a0b rfl rfl rfl (a0c (qq rfl))) ?_
            refine a2g (by kernel_rfl) ?_
            refine a0d (a1d ?_)
            refine a1l rfl rfl ?_
            obtain rfl := Option.some.inj hm
            exact ⟨_, _, _, rfl, hx38.pick [] (by decide) rfl, rfl, rfl⟩
           ·clear hm
            rcases a0g hb10 with ⟨hb11, hb10⟩ | ⟨hb11, hb10⟩
            ·refine b5a 161 rfl hb11 ?_
             refine d_tk 13 rfl (by kernel_rfl) rfl rfl rfl rfl (hx37.sh (hF15.trans hF16) [0, 1, 2, 3, 4, 5, 6, 7, 8, 9, 10] (by decide) rfl) (fun _ _ _ _ hq => a0l ag37 sz37 rfl rfl hq rfl (i := 0) rfl rfl (a0c (qq rfl))) ?_
             refine d_tk 15 rfl (by kernel_rfl) rfl rfl rfl rfl (hx37.sh (hF15.trans hF16) [0, 1, 2, 3, 4, 5, 6, 7, 8, 9, 10] (by decide) rfl) (fun _ _ _ _ hq => a0l ag37 sz37 rfl rfl hq rfl (i := 1) rfl rfl (a0c (qq rfl))) ?_
             refine a0v 14 rfl (by kernel_rfl) ?_
             obtain ⟨v19, hv12, hb10⟩ := bind_some hb10
             refine a0i ent24 rfl rfl rfl rfl hx37 (a6m _ _ _ hv12 hx37.sat ((hs26.mono hF15).mono hF16) ((hs27.mono hF15).mono hF16)) ?_
             rintro _ Fx18 _ wx41 hF18 hx39 ⟨as28, ns28, cs28, as29, ns29, cs29, rfl, rfl, hs28, hs29⟩
             refine a0o (hx39.sh ((hF15.trans hF16).trans hF18) [0, 1, 2, 3, 4, 5, 6, 7, 8, 9, 10] (by decide) rfl) ?_
             refine a0v 16 rfl (by kernel_rfl) ?_
             have hG7 := ((hF14.trans hF15).trans hF16).trans hF18
             obtain ⟨v20, hv13, hb10⟩ := bind_some hb10
             refine a0i ent24 rfl rfl rfl rfl hx39 (a6m _ _ _ hv13 hx39.sat (hs24.mono hG7) (hs25.mono hG7)) ?_
             rintro _ Fx19 _ wx42 hF19 hx40 ⟨as30, ns30, cs30, as31, ns31, cs31, rfl, rfl, hs30, hs31⟩
             refine a0o (hx40.sh (((hF15.trans hF16).trans hF18).trans hF19) [0, 1, 2, 3, 4, 5, 6, 7, 8, 9, 10] (by decide) rfl) ?_
             refine a0v 17 rfl (by kernel_rfl) ?_
             obtain ⟨v21, hv14, hb10⟩ := bind_some hb10
             refine a0i ent16 rfl rfl rfl rfl hx40 (a6z _ _ _ _ hv14 hx40.sat (hs28.mono hF19) (hs29.mono hF19) hs30 hs31) ?_
             rintro _ Fx20 _ wx43 hF20 hx41 ⟨rfl, rfl⟩
             refine a0o (hx41.sh ((((hF15.trans hF16).trans hF18).trans hF19).trans hF20) [0, 1, 2, 3, 4, 5, 6, 7, 8, 9, 10] (by decide) rfl) ?_
             refine d_tk 18 rfl (by kernel_rfl) rfl rfl rfl rfl (hx41.sh ((((hF15.trans hF16).trans hF18).trans hF19).trans hF20) [0, 1, 2, 3, 4, 5, 6, 7, 8, 9, 10] (by decide) rfl) (fun _ _ _ _ _ => a0u rfl rfl rfl rfl rfl (a0c (qq rfl))) ?_
             refine d_tk 19 rfl (by kernel_rfl) rfl rfl rfl rfl (hx41.sh ((((hF15.trans hF16).trans hF18).trans hF19).trans hF20) [0, 1, 2, 3, 4, 5, 6, 7, 8, 9, 10] (by decide) rfl) (fun _ _ _ _ _ => a0q rfl rfl rfl rfl (a0c (qq rfl))) ?_
             refine b4w hK3 (by kernel_rfl) (fun a ha => ?_)
             cases hb10
             exact ⟨_, ((hF18.trans hF19).trans hF20), hx41.pick [0, 1, 2, 3, 4, 5, 6, 7, 8, 9, 10] (by decide) rfl, ha.cut (l := [168]) rfl⟩
            ·refine b5a 161 rfl hb11 ?_
             refine d_of 13 rfl (by kernel_rfl) rfl rfl rfl (hx37.sh (hF15.trans hF16) [0, 1, 2, 3, 4, 5, 6, 7, 8, 9, 10] (by decide) rfl) ?_
             refine d_of 14 rfl (by kernel_rfl) rfl rfl rfl (hx37.sh (hF15.trans hF16) [0, 1, 2, 3, 4, 5, 6, 7, 8, 9, 10] (by decide) rfl) ?_
             refine d_of 15 rfl (by kernel_rfl) rfl rfl rfl (hx37.sh (hF15.trans hF16) [0, 1, 2, 3, 4, 5, 6, 7, 8, 9, 10] (by decide) rfl) ?_
             refine d_of 16 rfl (by kernel_rfl) rfl rfl rfl (hx37.sh (hF15.trans hF16) [0, 1, 2, 3, 4, 5, 6, 7, 8, 9, 10] (by decide) rfl) ?_
             refine d_of 17 rfl (by kernel_rfl) rfl rfl rfl (hx37.sh (hF15.trans hF16) [0, 1, 2, 3, 4, 5, 6, 7, 8, 9, 10] (by decide) rfl) ?_
             refine d_of 18 rfl (by kernel_rfl) rfl rfl rfl (hx37.sh (hF15.trans hF16) [0, 1, 2, 3, 4, 5, 6, 7, 8, 9, 10] (by decide) rfl) ?_
             refine d_tk 19 rfl (by kernel_rfl) rfl rfl rfl rfl (hx37.sh (hF15.trans hF16) [0, 1, 2, 3, 4, 5, 6, 7, 8, 9, 10] (by decide) rfl) (fun _ _ _ _ _ => a0m rfl rfl rfl rfl (a0c (qq rfl))) ?_
             refine b4w hK3 (by kernel_rfl) (fun a ha => ?_)
             cases hb10
             exact ⟨_, Frz.refl _, hx37.pick [0, 1, 2, 3, 4, 5, 6, 7, 8, 9, 10] (by decide) rfl, ha.cut (l := [168]) rfl⟩
          ·clear hm
           rcases a0g hb9 with ⟨hb12, hb9⟩ | ⟨hb12, hb9⟩
           ·refine b5a 154 rfl hb12 ?_
            refine d_tk 6 rfl (by kernel_rfl) rfl rfl rfl rfl (hx36.sh hF15 [0, 1, 2, 3, 4, 5, 6, 7, 8, 9, 10] (by decide) rfl) (fun _ _ _ _ hq => a0l ag37 sz37 rfl rfl hq rfl (i := 1) rfl rfl (a0c (qq rfl))) ?_
            refine d_tk 8 rfl (by kernel_rfl) rfl rfl rfl rfl (hx36.sh hF15 [0, 1, 2, 3, 4, 5, 6, 7, 8, 9, 10] (by decide) rfl) (fun _ _ _ _ hq => a0l ag37 sz37 rfl rfl hq rfl (i := 2) rfl rfl (a0c (qq rfl))) ?_
            refine a0v 7 rfl (by kernel_rfl) ?_
            obtain ⟨v22, hv15, hb9⟩ := bind_some hb9
            refine a0i ent24 rfl rfl rfl rfl hx36 (a6m _ _ _ hv15 hx36.sat ((hs24.mono hF14).mono hF15) ((hs25.mono hF14).mono hF15)) ?_
            rintro _ Fx21 _ wx44 hF21 hx42 ⟨as32, ns32, cs32, as33, ns33, cs33, rfl, rfl, hs32, hs33⟩
            refine a0o (hx42.sh (hF15.trans hF21) [0, 1, 2, 3, 4, 5, 6, 7, 8, 9, 10] (by decide) rfl) ?_
            refine a0v 9 rfl (by kernel_rfl) ?_
            have hG8 := ((hF13.trans hF14).trans hF15).trans hF21
            obtain ⟨v23, hv16, hb9⟩ := bind_some hb9
            refine a0i ent16 rfl rfl rfl rfl hx42 (a6z _ _ _ _ hv16 hx42.sat hs32 hs33 (hs22.mono hG8) (hs23.mono hG8)) ?_
            rintro _ Fx22 _ wx45 hF22 hx43 ⟨rfl, rfl⟩
            refine a0o (hx43.sh ((hF15.trans hF21).trans hF22) [0, 1, 2, 3, 4, 5, 6, 7, 8, 9, 10] (by decide) rfl) ?_
            refine d_tk 10 rfl (by kernel_rfl) rfl rfl rfl rfl (hx43.sh ((hF15.trans hF21).trans hF22) [0, 1, 2, 3, 4, 5, 6, 7, 8, 9, 10] (by decide) rfl) (fun _ _ _ _ _ => a0u rfl rfl rfl rfl rfl (a0c (qq rfl))) ?_
            refine d_tk 11 rfl (by kernel_rfl) rfl rfl rfl rfl (hx43.sh ((hF15.trans hF21).trans hF22) [0, 1, 2, 3, 4, 5, 6, 7, 8, 9, 10] (by decide) rfl) (fun _ _ _ _ _ => a0q rfl rfl rfl rfl (a0c (qq rfl))) ?_
            refine b4w hK2 (by kernel_rfl) (fun a ha => ?_)
            cases hb9
            exact ⟨_, (hF21.trans hF22), hx43.pick [0, 1, 2, 3, 4, 5, 6, 7, 8, 9, 10] (by decide) rfl, ha.cut (l := [27, 29, 160]) rfl⟩
           ·refine b5a 154 rfl hb12 ?_
            refine d_of 6 rfl (by kernel_rfl) rfl rfl rfl (hx36.sh hF15 [0, 1, 2, 3, 4, 5, 6, 7, 8, 9, 10] (by decide) rfl) ?_
            refine d_of 7 rfl (by kernel_rfl) rfl rfl rfl (hx36.sh hF15 [0, 1, 2, 3, 4, 5, 6, 7, 8, 9, 10] (by decide) rfl) ?_
            refine d_of 8 rfl (by kernel_rfl) rfl rfl rfl (hx36.sh hF15 [0, 1, 2, 3, 4, 5, 6, 7, 8, 9, 10] (by decide) rfl) ?_
            refine d_of 9 rfl (by kernel_rfl) rfl rfl rfl (hx36.sh hF15 [0, 1, 2, 3, 4, 5, 6, 7, 8, 9, 10] (by decide) rfl) ?_
            refine d_of 10 rfl (by kernel_rfl) rfl rfl rfl (hx36.sh hF15 [0, 1, 2, 3, 4, 5, 6, 7, 8, 9, 10] (by decide) rfl) ?_
            refine d_tk 11 rfl (by kernel_rfl) rfl rfl rfl rfl (hx36.sh hF15 [0, 1, 2, 3, 4, 5, 6, 7, 8, 9, 10] (by decide) rfl) (fun _ _ _ _ _ => a0m rfl rfl rfl rfl (a0c (qq rfl))) ?_
            refine b4w hK2 (by kernel_rfl) (fun a ha => ?_)
            cases hb9
            exact ⟨_, Frz.refl _, hx36.pick [0, 1, 2, 3, 4, 5, 6, 7, 8, 9, 10] (by decide) rfl, ha.cut (l := [27, 29, 160]) rfl⟩
         ·clear hm
          rcases a0g hb8 with ⟨hb13, hb8⟩ | ⟨hb13, hb8⟩
          ·refine b5a 150 rfl hb13 ?_
           refine d_tk 2 rfl (by kernel_rfl) rfl rfl rfl rfl (hx35.sh (Frz.refl _) [0, 1, 2, 3, 4, 5, 6, 7, 8, 9, 10] (by decide) rfl) (fun _ _ _ _ hq => a0l ag37 sz37 rfl rfl hq rfl (i := 2) rfl rfl (a0c (qq rfl))) ?_
           refine a0v 3 rfl (by kernel_rfl) ?_
           obtain ⟨v24, hv17, hb8⟩ := bind_some hb8
           refine a0i ent14 rfl rfl rfl rfl hx35 (a2u _ _ _ hv17 hx35.sat ((hs22.mono hF13).mono hF14) ((hs23.mono hF13).mono hF14)) ?_
           rintro _ Fx23 _ wx46 hF23 hx44 ⟨rfl, rfl⟩
           refine a0o (hx44.sh hF23 [0, 1, 2, 3, 4, 5, 6, 7, 8, 9, 10] (by decide) rfl) ?_
           refine d_tk 4 rfl (by kernel_rfl) rfl rfl rfl rfl (hx44.sh hF23 [0, 1, 2, 3, 4, 5, 6, 7, 8, 9, 10] (by decide) rfl) (fun _ _ _ _ _ => a0q rfl rfl rfl rfl (a0c (qq rfl))) ?_
           refine b4w hK1 (by kernel_rfl) (fun a ha => ?_)
           cases hb8
           exact ⟨_, hF23, hx44.pick [0, 1, 2, 3, 4, 5, 6, 7, 8, 9, 10] (by decide) rfl, ha.cut (l := [25, 27, 29, 153]) rfl⟩
          ·refine b5a 150 rfl hb13 ?_
           refine d_of 2 rfl (by kernel_rfl) rfl rfl rfl (hx35.sh (Frz.refl _) [0, 1, 2, 3, 4, 5, 6, 7, 8, 9, 10] (by decide) rfl) ?_
           refine d_of 3 rfl (by kernel_rfl) rfl rfl rfl (hx35.sh (Frz.refl _) [0, 1, 2, 3, 4, 5, 6, 7, 8, 9, 10] (by decide) rfl) ?_
           refine d_tk 4 rfl (by kernel_rfl) rfl rfl rfl rfl (hx35.sh (Frz.refl _) [0, 1, 2, 3, 4, 5, 6, 7, 8, 9, 10] (by decide) rfl) (fun _ _ _ _ _ => a0m rfl rfl rfl rfl (a0c (qq rfl))) ?_
           refine b4w hK1 (by kernel_rfl) (fun a ha => ?_)
           cases hb8
           exact ⟨_, Frz.refl _, hx35.pick [0, 1, 2, 3, 4, 5, 6, 7, 8, 9, 10] (by decide) rfl, ha.cut (l := [25, 27, 29, 153]) rfl⟩
        ·clear hm hkont1; intro hk1 mx1 K ihx1
         rintro ⟨k1, f2, f3, f4, f5⟩ a wx47 hm ⟨Fx9, as16, ns16, cs16, as17, ns17, cs17, hF9, hx21, hs16, hs17, hax9⟩
         simp only [a7r] at hm
         refine a1i hax9 ?_
         refine a0f (a0f (a0a (a0e rfl rfl rfl (a0e rfl rfl rfl ?_))))
         refine a1u hs4.len u31 rfl rfl rfl ?_
         refine a0u rfl rfl rfl rfl rfl ?_
         refine a0c (a0d ?_)
         rcases a0g hm with ⟨hb14, hm⟩ | ⟨hb14, hm⟩
         ·refine a0t 103 rfl hb14 ?_
          refine a0y rfl (a1e (a0d (a0f (a1g ?_))))
          obtain ⟨⟨f10, f11, f12, f13⟩, hb15, hm⟩ := bind_some hm
          refine c1n (fun a w' => ∃ (Fx24 : Frz) (b12 : Nat) (as34 : Option Addr) (ns34 : Nat) (cs34 : Nat) (as35 : Option Addr) (ns35 : Nat) (cs35 : Nat), Frz.le Fx9 Fx24 ∧ HS F w [] Fx24 [.box b12 37 [.int .i64 f10, .slice as34 ns34 cs34, .int .i64 f12, .slice as35 ns35 cs35], .box b7 37 [.int .i64 f2, .slice as16 ns16 cs16, .int .i64 f4, .slice as17 ns17 cs17], .box b6 37 [.int .i64 v7.1.P.Sign, .slice as12 ns12 cs12, .int .i64 v7.1.Q.Sign, .slice as13 ns13 cs13], .box b5 37 [.int .i64 v6.1.P.Sign, .slice as10 ns10 cs10, .int .i64 v6.1.Q.Sign, .slice as11 ns11 cs11], .box b4 37 [.int .i64 v5.1.P.Sign, .slice as8 ns8 cs8, .int .i64 v5.1.Q.Sign, .slice as9 ns9 cs9], .box b3 37 [.int .i64 v4.1.P.Sign, .slice as6 ns6 cs6, .int .i64 v4.1.Q.Sign, .slice as7 ns7 cs7], .box b2 30 [.slice as3 ns3 cs3, .int .i64 f1.Persons, .int .i64 f1.Flats], .box b1 26 [vs t1.Name, .int .i64 t1.Fee.Op, .int .i64 t1.Fee.N, vs t1.Fee.Name, .slice as1 ns1 cs1, .int .i64 t1.Cap]] w' ∧ (SlR (Rp.int .i64) Fx24 as34 ns34 cs34 f11) ∧ (SlR (Rp.int .i64) Fx24 as35 ns35 cs35 f13) ∧ Has 169 a [(1, .slice as2 ns2 cs2), (3, .slice as4 ns4 cs4), (4, .slice as5 ns5 cs5), (5, .pointer (some ⟨b1, 0, none⟩)), (7, .pointer (some ⟨b2, 0, none⟩)), (11, .bool v1), (12, .pointer (some ⟨b3, 0, none⟩)), (14, .pointer (some ⟨b4, 0, none⟩)), (16, .pointer (some ⟨b5, 0, none⟩)), (18, .pointer (some ⟨b6, 0, none⟩)), (20, .pointer (some ⟨b7, 0, none⟩)), (21, .int .i64 k1), (22, .pointer (some ⟨b12, 0, none⟩))]) ?_ ?_
          ·rintro a wx48 ⟨Fx24, b12, as34, ns34, cs34, as35, ns35, cs35, hF24, hx45, hs34, hs35, hax10⟩
           refine a1i hax10 ?_
           refine a1w (SH Fx24 [.box b12 37 [.int .i64 f10, .slice as34 ns34 cs34, .int .i64 f12, .slice as35 ns35 cs35], .box b6 37 [.int .i64 v7.1.P.Sign, .slice as12 ns12 cs12, .int .i64 v7.1.Q.Sign, .slice as13 ns13 cs13], .box b5 37 [.int .i64 v6.1.P.Sign, .slice as10 ns10 cs10, .int .i64 v6.1.Q.Sign, .slice as11 ns11 cs11], .box b4 37 [.int .i64 v5.1.P.Sign, .slice as8 ns8 cs8, .int .i64 v5.1.Q.Sign, .slice as9 ns9 cs9], .box b3 37 [.int .i64 v4.1.P.Sign, .slice as6 ns6 cs6, .int .i64 v4.1.Q.Sign, .slice as7 ns7 cs7], .box b2 30 [.slice as3 ns3 cs3, .int .i64 f1.Persons, .int .i64 f1.Flats], .box b1 26 [vs t1.Name, .int .i64 t1.Fee.Op, .int .i64 t1.Fee.N, vs t1.Fee.Name, .slice as1 ns1 cs1, .int .i64 t1.Cap]]) 8 rfl (by kernel_rfl) hx45 ?_
           intro wx49 hx46
           refine d_tk 1 rfl (by kernel_rfl) rfl rfl rfl rfl (hx46.sh (Frz.refl _) [0, 2, 3, 4, 5, 6, 7] (by decide) rfl) (fun _ _ _ _ hq => a0l ag37 sz37 rfl rfl hq rfl (i := 0) rfl rfl (a0c (qq rfl))) ?_
           refine a9g 0 2 rfl rfl (by kernel_rfl) ?_ ?_
           ·refine a0l ag37 sz37 rfl rfl hx46 rfl (i := 1) rfl rfl ?_
            refine a0o (hx46.sh (Frz.refl _) [0, 2, 3, 4, 5, 6, 7] (by decide) rfl) ?_
            refine a0v 2 rfl (by kernel_rfl) ?_
            obtain ⟨v25, hv18, hm⟩ := bind_some hm
            refine a0i ent24 rfl rfl rfl rfl hx46 (a6m _ _ _ hv18 hx46.sat hs34 hs35) ?_
            rintro _ Fx25 _ wx50 hF25 hx47 ⟨as36, ns36, cs36, as37, ns37, cs37, rfl, rfl, hs36, hs37⟩
            refine a0o (hx47.sh hF25 [0, 2, 3, 4, 5, 6, 7] (by decide) rfl) ?_
            refine a0v 3 rfl (by kernel_rfl) ?_
            obtain ⟨v26, hv19, hm⟩ := bind_some hm
            refine a0i ent23 rfl rfl rfl rfl hx47 (a7a _ _ _ _ hv19 hx47.sat ((hs16.mono hF24).mono hF25) ((hs17.mono hF24).mono hF25) hs36 hs37) ?_
            rintro _ Fx26 _ wx51 hF26 hx48 ⟨as38, ns38, cs38, as39, ns39, cs39, rfl, rfl, hs38, hs39⟩
            refine a0o (hx48.sh (hF25.trans hF26) [0, 2, 3, 4, 5, 6, 7] (by decide) rfl) ?_
            refine d_tk 4 rfl (by kernel_rfl) rfl rfl rfl rfl (hx48.sh (hF25.trans hF26) [0, 2, 3, 4, 5, 6, 7] (by decide) rfl) (fun _ _ _ _ _ => a0e rfl rfl rfl (a0c (qq rfl))) ?_
            refine d_tk 5 rfl (by kernel_rfl) rfl rfl rfl rfl (hx48.sh (hF25.trans hF26) [0, 2, 3, 4, 5, 6, 7] (by decide) rfl) (fun _ _ _ _ _ => a0j rfl rfl rfl rfl (a0c (qq rfl))) ?_
            refine d_tk 6 rfl (by kernel_rfl) rfl rfl rfl rfl (hx48.sh (hF25.trans hF26) [0, 2, 3, 4, 5, 6, 7] (by decide) rfl) (fun _ _ _ _ _ => a0j rfl rfl rfl rfl (a0c (qq rfl))) ?_
            refine a0v 7 rfl (by kernel_rfl) ?_
            refine a0p sz37 rfl hx48 rfl rfl rfl rfl (i := 1) rfl rfl rfl rfl ?_
            intro wx52 hx49
            refine a0o (hx49.sh (hF25.trans hF26) [0, 2, 3, 4, 5, 6, 7] (by decide) rfl) ?_
            refine a2g (by kernel_rfl) ?_
            refine a1m (a0d (a0a (a0e rfl rfl rfl ?_)))
            refine a0u rfl rfl rfl rfl rfl ?_
            refine a0b rfl rfl rfl (a0c ?_)
            refine a0n (fun a ha => ihx1 ((iadd .i64 k1 1), v26.1.P.Sign, v26.1.P.Digits, v26.1.Q.Sign, v26.1.Q.Digits) a _ hm ?_)
            exact ⟨_, as38, ns38, cs38, as39, ns39, cs39, (((hF9.trans hF24).trans hF25).trans hF26), hx49.pick [1, 2, 3, 4, 5, 6, 7] (by decide) rfl, hs38, hs39, ha.cut (l := [1, 3, 4, 5, 7, 11, 12, 14, 16, 18, 20, 21]) rfl⟩
           ·obtain ⟨v25, hv18, hm⟩ := bind_some hm
            refine a0i ent24 rfl rfl rfl rfl hx46 (a6m _ _ _ hv18 hx46.sat hs34 hs35) ?_
            rintro _ Fx25 _ wx50 hF25 hx47 ⟨as36, ns36, cs36, as37, ns37, cs37, rfl, rfl, hs36, hs37⟩
            refine a0o (hx47.sh hF25 [0, 2, 3, 4, 5, 6, 7] (by decide) rfl) ?_
            refine a0v 0 rfl (by kernel_rfl) ?_
            refine a0l ag37 sz37 rfl rfl hx47 rfl (i := 1) rfl rfl ?_
            refine a0o (hx47.sh hF25 [0, 2, 3, 4, 5, 6, 7] (by decide) rfl) ?_
            refine a0v 3 rfl (by kernel_rfl) ?_
            obtain ⟨v26, hv19, hm⟩ := bind_some hm
            refine a0i ent23 rfl rfl rfl rfl hx47 (a7a _ _ _ _ hv19 hx47.sat ((hs16.mono hF24).mono hF25) ((hs17.mono hF24).mono hF25) hs36 hs37) ?_
            rintro _ Fx26 _ wx51 hF26 hx48 ⟨as38, ns38, cs38, as39, ns39, cs39, rfl, rfl, hs38, hs39⟩
            refine a0o (hx48.sh (hF25.trans hF26) [0, 2, 3, 4, 5, 6, 7] (by decide) rfl) ?_
            refine d_tk 4 rfl (by kernel_rfl) rfl rfl rfl rfl (hx48.sh (hF25.trans hF26) [0, 2, 3, 4, 5, 6, 7] (by decide) rfl) (fun _ _ _ _ _ => a0e rfl rfl rfl (a0c (qq rfl))) ?_
            refine d_tk 5 rfl (by kernel_rfl) rfl rfl rfl rfl (hx48.sh (hF25.trans hF26) [0, 2, 3, 4, 5, 6, 7] (by decide) rfl) (fun _ _ _ _ _ => a0j rfl rfl rfl rfl (a0c (qq rfl))) ?_
            refine d_tk 6 rfl (by kernel_rfl) rfl rfl rfl rfl (hx48.sh (hF25.trans hF26) [0, 2, 3, 4, 5, 6, 7] (by decide) rfl) (fun _ _ _ _ _ => a0j rfl rfl rfl rfl (a0c (qq rfl))) ?_
            refine a0v 7 rfl (by kernel_rfl) ?_
            refine a0p sz37 rfl hx48 rfl rfl rfl rfl (i := 1) rfl rfl rfl rfl ?_
            intro wx52 hx49
            refine a0o (hx49.sh (hF25.trans hF26) [0, 2, 3, 4, 5, 6, 7] (by decide) rfl) ?_
            refine a2g (by kernel_rfl) ?_
            refine a1m (a0d (a0a (a0e rfl rfl rfl ?_)))
            refine a0u rfl rfl rfl rfl rfl ?_
            refine a0b rfl rfl rfl (a0c ?_)
            refine a0n (fun a ha => ihx1 ((iadd .i64 k1 1), v26.1.P.Sign, v26.1.P.Digits, v26.1.Q.Sign, v26.1.Q.Digits) a _ hm ?_)
            exact ⟨_, as38, ns38, cs38, as39, ns39, cs39, (((hF9.trans hF24).trans hF25).trans hF26), hx49.pick [1, 2, 3, 4, 5, 6, 7] (by decide) rfl, hs38, hs39, ha.cut (l := [1, 3, 4, 5, 7, 11, 12, 14, 16, 18, 20, 21]) rfl⟩
          ·clear hm
           refine a1w (SH Fx9 [.box b7 37 [.int .i64 f2, .slice as16 ns16 cs16, .int .i64 f4, .slice as17 ns17 cs17], .box b6 37 [.int .i64 v7.1.P.Sign, .slice as12 ns12 cs12, .int .i64 v7.1.Q.Sign, .slice as13 ns13 cs13], .box b5 37 [.int .i64 v6.1.P.Sign, .slice as10 ns10 cs10, .int .i64 v6.1.Q.Sign, .slice as11 ns11 cs11], .box b4 37 [.int .i64 v5.1.P.Sign, .slice as8 ns8 cs8, .int .i64 v5.1.Q.Sign, .slice as9 ns9 cs9], .box b3 37 [.int .i64 v4.1.P.Sign, .slice as6 ns6 cs6, .int .i64 v4.1.Q.Sign, .slice as7 ns7 cs7], .box b2 30 [.slice as3 ns3 cs3, .int .i64 f1.Persons, .int .i64 f1.Flats], .box b1 26 [vs t1.Name, .int .i64 t1.Fee.Op, .int .i64 t1.Fee.N, vs t1.Fee.Name, .slice as1 ns1 cs1, .int .i64 t1.Cap]]) 15 rfl (by kernel_rfl) hx21 ?_
           intro wx53 hx50
           refine d_tk 0 rfl (by kernel_rfl) rfl rfl rfl rfl (hx50.sh (Frz.refl _) [0, 1, 2, 3, 4, 5, 6] (by decide) rfl) (fun _ _ _ _ _ => a0e rfl rfl rfl (a0c (qq rfl))) ?_
           refine d_tk 1 rfl (by kernel_rfl) rfl rfl rfl rfl (hx50.sh (Frz.refl _) [0, 1, 2, 3, 4, 5, 6] (by decide) rfl) (fun _ _ _ _ _ => a0e rfl rfl rfl (a0c (qq rfl))) ?_
           obtain ⟨ex1, he1, hb15⟩ := bind_some hb15
           obtain ⟨b13, o1, cs1, hf1, hr1, hrun1⟩ := a2s (P := Tryz.prog) (r := rp_Frac) u31 sz37 ((((((hs4.mono hG1).mono hF5).mono hF6).mono hF7).mono hF8).mono hF9) he1
           obtain ⟨as40, ns40, cs40, as41, ns41, cs41, hc1, hs40, hs41⟩ := hr1
           subst hc1
           refine a5b 2 rfl (by kernel_rfl) (by kernel_rfl) (by kernel_rfl) rfl rfl rfl rfl hrun1 (hx50.sh (Frz.refl _) [0, 1, 2, 3, 4, 5, 6] (by decide) rfl) ?_
           refine d_tk 3 rfl (by kernel_rfl) rfl rfl rfl rfl (hx50.sh (Frz.refl _) [0, 1, 2, 3, 4, 5, 6] (by decide) rfl) (fun _ _ _ hleq hq => a3s ag37 sz37 rfl rfl hq (hf1.mono hleq) rfl rfl (a0c (qq rfl))) ?_
           refine d_tk 4 rfl (by kernel_rfl) rfl rfl rfl rfl (hx50.sh (Frz.refl _) [0, 1, 2, 3, 4, 5, 6] (by decide) rfl) (fun _ _ _ _ _ => a0e rfl rfl rfl (a0c (qq rfl))) ?_
           refine d_tk 5 rfl (by kernel_rfl) rfl rfl rfl rfl (hx50.sh (Frz.refl _) [0, 1, 2, 3, 4, 5, 6] (by decide) rfl) (fun _ _ _ _ _ => a0e rfl rfl rfl (a0c (qq rfl))) ?_
           obtain ⟨ex2, he2, hb15⟩ := bind_some hb15
           obtain ⟨b14, o2, cs2, hf2, hr2, hrun2⟩ := a2s (P := Tryz.prog) (r := rp_Frac) u31 sz37 ((((((hs5.mono hG1).mono hF5).mono hF6).mono hF7).mono hF8).mono hF9) he2
           obtain ⟨as42, ns42, cs42, as43, ns43, cs43, hc2, hs42, hs43⟩ := hr2
           subst hc2
           refine a5b 6 rfl (by kernel_rfl) (by kernel_rfl) (by kernel_rfl) rfl rfl rfl rfl hrun2 (hx50.sh (Frz.refl _) [0, 1, 2, 3, 4, 5, 6] (by decide) rfl) ?_
           refine d_tk 7 rfl (by kernel_rfl) rfl rfl rfl rfl (hx50.sh (Frz.refl _) [0, 1, 2, 3, 4, 5, 6] (by decide) rfl) (fun _ _ _ hleq hq => a3s ag37 sz37 rfl rfl hq (hf2.mono hleq) rfl rfl (a0c (qq rfl))) ?_
           refine a9g 8 12 rfl rfl (by kernel_rfl) ?_ ?_
           ·obtain ⟨v27, hv20, hb15⟩ := bind_some hb15
            refine a0i ent19 rfl rfl rfl rfl hx50 (b0p _ _ _ _ hv20 hx50.sat hs40 hs41 hs42 hs43) ?_
            rintro _ Fx27 _ wx54 hF27 hx51 ⟨as44, ns44, cs44, as45, ns45, cs45, rfl, rfl, hs44, hs45⟩
            refine a0o (hx51.sh hF27 [0, 1, 2, 3, 4, 5, 6] (by decide) rfl) ?_
            refine d_tk 9 rfl (by kernel_rfl) rfl rfl rfl rfl (hx51.sh hF27 [0, 1, 2, 3, 4, 5, 6] (by decide) rfl) (fun _ _ _ _ _ => a0e rfl rfl rfl (a0c (qq rfl))) ?_
            refine d_tk 10 rfl (by kernel_rfl) rfl rfl rfl rfl (hx51.sh hF27 [0, 1, 2, 3, 4, 5, 6] (by decide) rfl) (fun _ _ _ _ _ => a0j rfl rfl rfl rfl (a0c (qq rfl))) ?_
            refine d_tk 11 rfl (by kernel_rfl) rfl rfl rfl rfl (hx51.sh hF27 [0, 1, 2, 3, 4, 5, 6] (by decide) rfl) (fun _ _ _ _ _ => a0j rfl rfl rfl rfl (a0c (qq rfl))) ?_
            refine a0v 12 rfl (by kernel_rfl) ?_
            refine a1b ze37 rfl rfl rfl hx51 ?_
            intro b15 wx55 hx52
            refine a0o (hx52.sh hF27 [1, 2, 3, 4, 5, 6, 7] (by decide) rfl) ?_
            refine a0v 13 rfl (by kernel_rfl) ?_
            refine a0p sz37 rfl hx52 rfl rfl rfl rfl (i := 0) rfl rfl rfl rfl ?_
            intro wx56 hx53
            refine a0o (hx53.sh hF27 [1, 2, 3, 4, 5, 6, 7] (by decide) rfl) ?_
            refine d_tk 14 rfl (by kernel_rfl) rfl rfl rfl rfl (hx53.sh hF27 [1, 2, 3, 4, 5, 6, 7] (by decide) rfl) (fun _ _ _ _ _ => a0b rfl rfl rfl (a0c (qq rfl))) ?_
            refine a2g (by kernel_rfl) ?_
            refine a0n (fun a ha => ?_)
            cases hb15
            exact ⟨_, b15, as44, ns44, cs44, as45, ns45, cs45, hF27, hx53.pick [0, 1, 2, 3, 4, 5, 6, 7] (by decide) rfl, hs44, hs45, ha.cut (l := [1, 3, 4, 5, 7, 11, 12, 14, 16, 18, 20, 21, 22]) rfl⟩
           ·refine a1b ze37 rfl rfl rfl hx50 ?_
            intro b15 wx54 hx51
            refine a0o (hx51.sh (Frz.refl _) [1, 2, 3, 4, 5, 6, 7] (by decide) rfl) ?_
            refine a0v 8 rfl (by kernel_rfl) ?_
            obtain ⟨v27, hv20, hb15⟩ := bind_some hb15
            refine a0i ent19 rfl rfl rfl rfl hx51 (b0p _ _ _ _ hv20 hx51.sat hs40 hs41 hs42 hs43) ?_
            rintro _ Fx27 _ wx55 hF27 hx52 ⟨as44, ns44, cs44, as45, ns45, cs45, rfl, rfl, hs44, hs45⟩
            refine a0o (hx52.sh hF27 [1, 2, 3, 4, 5, 6, 7] (by decide) rfl) ?_
            refine d_tk 9 rfl (by kernel_rfl) rfl rfl rfl rfl (hx52.sh hF27 [1, 2, 3, 4, 5, 6, 7] (by decide) rfl) (fun _ _ _ _ _ => a0e rfl rfl rfl (a0c (qq rfl))) ?_
            refine d_tk 10 rfl (by kernel_rfl) rfl rfl rfl rfl (hx52.sh hF27 [1, 2, 3, 4, 5, 6, 7] (by decide) rfl) (fun _ _ _ _ _ => a0j rfl rfl rfl rfl (a0c (qq rfl))) ?_
            refine d_tk 11 rfl (by kernel_rfl) rfl rfl rfl rfl (hx52.sh hF27 [1, 2, 3, 4, 5, 6, 7] (by decide) rfl) (fun _ _ _ _ _ => a0j rfl rfl rfl rfl (a0c (qq rfl))) ?_
            refine a0v 13 rfl (by kernel_rfl) ?_
            refine a0p sz37 rfl hx52 rfl rfl rfl rfl (i := 0) rfl rfl rfl rfl ?_
            intro wx56 hx53
            refine a0o (hx53.sh hF27 [1, 2, 3, 4, 5, 6, 7] (by decide) rfl) ?_
            refine d_tk 14 rfl (by kernel_rfl) rfl rfl rfl rfl (hx53.sh hF27 [1, 2, 3, 4, 5, 6, 7] (by decide) rfl) (fun _ _ _ _ _ => a0b rfl rfl rfl (a0c (qq rfl))) ?_
            refine a2g (by kernel_rfl) ?_
            refine a0n (fun a ha => ?_)
            cases hb15
            exact ⟨_, b15, as44, ns44, cs44, as45, ns45, cs45, hF27, hx53.pick [0, 1, 2, 3, 4, 5, 6, 7] (by decide) rfl, hs44, hs45, ha.cut (l := [1, 3, 4, 5, 7, 11, 12, 14, 16, 18, 20, 21, 22]) rfl⟩
         ·refine a0t 103 rfl hb14 ?_
          refine a0s rfl (a3u (a0w (a0w ?_)))
          refine fun a ha => hk1 (f2, f3, f4, f5) a _ hm ?_
          exact ⟨_, as16, ns16, cs16, as17, ns17, cs17, hF9, hx21.pick [0, 1, 2, 3, 4, 5, 6] (by decide) rfl, hs16, hs17, ha.cut (l := [1, 3, 5, 7, 11, 12, 14, 16, 18, 20]) rfl⟩
      ·clear hm
       rcases a0g hb6 with ⟨hb16, hb6⟩ | ⟨hb16, hb6⟩
       ·refine a1j 92 rfl hb16 ?_
        refine a0z rfl (by decide) rfl (a0z rfl (by decide) rfl (a0z rfl (by decide) rfl (a0z rfl (by decide) rfl (a0z rfl (by decide) rfl (a0q rfl rfl rfl rfl (a0c ?_))))))
        refine a0n (fun a ha => ?_)
        cases hb6
        exact ⟨rfl, ha.cut (l := [1, 3, 4, 5, 7, 11, 12, 14, 16, 18, 98]) rfl⟩
       ·refine a1j 92 rfl hb16 ?_
        refine a0e rfl rfl rfl ?_
        refine a1u hs4.len u31 rfl rfl rfl ?_
        refine a0e rfl rfl rfl ?_
        refine a1u hs5.len u31 rfl rfl rfl ?_
        refine a0u rfl rfl rfl rfl rfl ?_
        refine a0m rfl rfl rfl rfl (a0c ?_)
        refine a0n (fun a ha => ?_)
        cases hb6
        exact ⟨rfl, ha.cut (l := [1, 3, 4, 5, 7, 11, 12, 14, 16, 18, 98]) rfl⟩
     ·clear hm
      rcases a0g hb5 with ⟨hb17, hb5⟩ | ⟨hb17, hb5⟩
      ·refine a1j 88 rfl hb17 ?_
       refine a0z rfl (by decide) rfl (a0z rfl (by decide) rfl (a0q rfl rfl rfl rfl (a0c ?_)))
       refine a0n (fun a ha => ?_)
       cases hb5
       exact ⟨rfl, ha.cut (l := [1, 3, 4, 5, 7, 11, 12, 14, 16, 18, 91]) rfl⟩
      ·refine a1j 88 rfl hb17 ?_
       refine a0e rfl rfl rfl ?_
       refine a0u rfl rfl rfl rfl rfl ?_
       refine a0m rfl rfl rfl rfl (a0c ?_)
       refine a0n (fun a ha => ?_)
       cases hb5
       exact ⟨rfl, ha.cut (l := [1, 3, 4, 5, 7, 11, 12, 14, 16, 18, 91]) rfl⟩
   ·clear hm
    rcases a0g hb3 with ⟨hb18, hb3⟩ | ⟨hb18, hb3⟩
    ·refine a1j 81 rfl hb18 ?_
     refine a0z rfl (by decide) rfl (a0z rfl (by decide) rfl (a0q rfl rfl rfl rfl (a0c ?_)))
     refine a0n (fun a ha => ?_)
     cases hb3
     exact ⟨rfl, ha.cut (l := [1, 3, 4, 5, 7, 11, 12, 14, 16, 17, 18, 19, 84]) rfl⟩
    ·refine a1j 81 rfl hb18 ?_
     refine a0e rfl rfl rfl ?_
     refine a0u rfl rfl rfl rfl rfl ?_
     refine a0m rfl rfl rfl rfl (a0c ?_)
     refine a0n (fun a ha => ?_)
     cases hb3
     exact ⟨rfl, ha.cut (l := [1, 3, 4, 5, 7, 11, 12, 14, 16, 17, 18, 19, 84]) rfl⟩
 ·clear hm
  rcases a0g hb1 with ⟨hb19, hb1⟩ | ⟨hb19, hb1⟩
  ·refine a1j 38 rfl hb19 ?_
   refine a0z rfl (by decide) rfl (a0z rfl (by decide) rfl (a0z rfl (by decide) rfl (a0z rfl (by decide) rfl (a0z rfl (by decide) rfl (a0z rfl (by decide) rfl (a0q rfl rfl rfl rfl (a0c ?_)))))))
   refine a0n (fun a ha => ?_)
   cases hb1
   exact ⟨_, Frz.refl _, hx4.pick [0, 1] (by decide) rfl, ha.cut (l := [1, 3, 4, 5, 7, 11, 45]) rfl⟩
  ·refine a1j 38 rfl hb19 ?_
   refine a0l ag26 sz26 rfl rfl hx4 rfl (i := 1) rfl rfl ?_
   refine a0e rfl rfl rfl ?_
   refine a0l ag30 sz30 rfl rfl hx4 rfl (i := 0) rfl rfl ?_
   refine a0e rfl rfl rfl ?_
   obtain ⟨v28, hv21, hb1⟩ := bind_some hb1
   refine a0i ent7 rfl rfl rfl rfl hx4 (b5v _ _ _ _ _ _ hv21 hx4.sat ((hs1.mono hF1).mono hF2) ((hs2.mono hF1).mono hF2) ((hs3.mono hF1).mono hF2) ((hs5.mono hF1).mono hF2)) ?_
   rintro _ Fx28 _ wx57 hF28 hx54 ⟨rfl, rfl⟩
   refine a4g rfl rfl rfl (a0m rfl rfl rfl rfl (a0c ?_))
   refine a0n (fun a ha => ?_)
   cases hb1
   exact ⟨_, hF28, hx54.pick [0, 1] (by decide) rfl, ha.cut (l := [1, 3, 4, 5, 7, 11, 45]) rfl⟩
end Go.Proofs.YtknpjecpcmajiaaGreat.M

namespace Go.Proofs.YtknpjecpcmajiaaGreat.Rt
open Go
def Ev {α : Type} (f : Nat → Option α) (r : α) : Prop := ∃ N, ∀ n, N ≤ n → f n = some r
section
variable {α β : Type}
theorem Ev.pure (a : α) : Ev (fun _ => some a) a := ⟨0, fun _ _ => rfl⟩
theorem Ev.all {f : Nat → Option α} {r : α} (h : ∀ n, f n = some r) : Ev f r := ⟨0, fun n _ => h n⟩
theorem Ev.bind {x : Nat → Option α} {f : Nat → α → Option β} {a : α} {b : β} (hx : Ev x a) (hf : Ev (fun n => f n a) b) : Ev (fun n => (x n).bind (f n)) b := by
  obtain ⟨N, hN⟩ := hx
  obtain ⟨M, hM⟩ := hf
  refine ⟨max N M, fun n hn => ?_⟩
  show (x n).bind (f n) = some b
  rw [hN n (by omega)]
  exact hM n (by omega)
theorem Ev.step {x : Option α} {f : Nat → α → Option β} {a : α} {b : β} (hx : x = some a) (hf : Ev (fun n => f n a) b) : Ev (fun n => x.bind (f n)) b := by
  subst hx; exact hf
theorem Ev.then {x : Nat → Option α} {b : α} {c : Bool} {y : Nat → Option α} (hc : c = true) (h : Ev x b) : Ev (fun n => bif c then x n else y n) b := by subst hc; exact h
theorem Ev.else {x : Nat → Option α} {b : α} {c : Bool} {y : Nat → Option α} (hc : c = false) (h : Ev y b) : Ev (fun n => bif c then x n else y n) b := by subst hc; exact h
theorem Ev.from {f g : Nat → Option α} {r : α} (N : Nat) (h : ∀ n, N ≤ n → f n = g n) (hg : Ev g r) : Ev f r := by
  obtain ⟨M, hM⟩ := hg
  exact ⟨max N M, fun n hn => by rw [h n (by omega)]; exact hM n (by omega)⟩
theorem Ev.eq {f : Nat → Option α} {r s : α} (h : Ev f r) (e : r = s) : Ev f s := e ▸ h
theorem Ev.uniq {f : Nat → Option α} {r s : α} (h : Ev f r) (k : Ev f s) : r = s := by
  obtain ⟨N, hN⟩ := h
  obtain ⟨M, hM⟩ := k
  have h1 := hN (max N M) (by omega)
  rw [hM (max N M) (by omega)] at h1
  exact (Option.some.inj h1).symm
end
theorem c8s (x : Int) : IntKind.i64.wrap x = if x % 18446744073709551616 ≥ 9223372036854775808 then x % 18446744073709551616 - 18446744073709551616 else x % 18446744073709551616 := by
  simp [IntKind.wrap, IntKind.bits, IntKind.signed]
theorem a5s {x : Int} (h1 : -9223372036854775808 ≤ x) (h2 : x ≤ 9223372036854775807) : IntKind.i64.wrap x = x := by
  rw [c8s]; split <;> omega
theorem b3g (x : Int) : IntKind.u64.wrap x = x % 18446744073709551616 := by
  simp [IntKind.wrap, IntKind.bits, IntKind.signed]
theorem a3q {x y : Int} (h1 : -9223372036854775808 ≤ x + y) (h2 : x + y ≤ 9223372036854775807) : iadd .i64 x y = x + y := a5s h1 h2
theorem a2k {x y : Int} (h1 : -9223372036854775808 ≤ x - y) (h2 : x - y ≤ 9223372036854775807) : isub .i64 x y = x - y := a5s h1 h2
theorem a7j {x y : Int} (h1 : -9223372036854775808 ≤ x * y) (h2 : x * y ≤ 9223372036854775807) : imul .i64 x y = x * y := a5s h1 h2
theorem b9l (k : IntKind) (x : Int) (m : Nat) (hk : k.bits = 64) (hm : m < 64) : (BitVec.ofInt k.bits x &&& BitVec.ofInt k.bits ((2 ^ m - 1 : Nat) : Int)).toNat = (x % 18446744073709551616).toNat % 2 ^ m := by
  rw [BitVec.toNat_and, BitVec.toNat_ofInt, BitVec.toNat_ofInt, hk]
  have h2 : (((2 ^ m - 1 : Nat) : Int) % ((2 ^ 64 : Nat) : Int)).toNat = 2 ^ m - 1 := by
    have : 2 ^ m < 2 ^ 64 := Nat.pow_lt_pow_right (by omega) hm
    rw [← Int.natCast_emod, Int.toNat_natCast, Nat.mod_eq_of_lt (by omega)]
  rw [h2, Nat.and_two_pow_sub_one_eq_mod]
  rfl
theorem b2k (x : Int) : iand .i64 x 1048575 = x % 1048576 := by
  have h := b9l .i64 x 20 rfl (by omega)
  have e : ((2 ^ 20 - 1 : Nat) : Int) = 1048575 := by decide
  rw [e] at h
  unfold iand
  rw [h, a5s (by omega) (by omega)]
  omega
theorem c4c {x : Int} (h0 : 0 ≤ x) (h1 : x < 18446744073709551616) : iand .u64 x 1048575 = x % 1048576 := by
  have h := b9l .u64 x 20 rfl (by omega)
  have e : ((2 ^ 20 - 1 : Nat) : Int) = 1048575 := by decide
  rw [e] at h
  unfold iand
  rw [h, b3g]
  omega
theorem c7p (x : Int) : iand .i64 x 1 = x % 2 := by
  have h := b9l .i64 x 1 rfl (by omega)
  have e : ((2 ^ 1 - 1 : Nat) : Int) = 1 := by decide
  rw [e] at h
  unfold iand
  rw [h, a5s (by omega) (by omega)]
  omega
theorem b6t (x : Int) : shr .i64 x 20 = some (x / 1048576) := by
  unfold shr
  rw [if_neg (by omega), Int.fdiv_eq_ediv_of_nonneg _ (by decide)]
  rfl
theorem c9k (x : Int) : shr .u64 x 20 = some (x / 1048576) := by
  unfold shr
  rw [if_neg (by omega), Int.fdiv_eq_ediv_of_nonneg _ (by decide)]
  rfl
theorem b6w {x : Int} (h0 : -8796093022208 ≤ x) (h1 : x < 8796093022208) : shl .i64 x 20 = some (x * 1048576) := by
  unfold shl
  rw [if_neg (by omega), show (2 : Int) ^ (min (20 : Int).toNat IntKind.i64.bits) = 1048576 from by decide, a5s (by omega) (by omega)]
theorem b6y {x y : Int} (h0 : 0 ≤ x) (h1 : x < 8796093022208) (h2 : 0 ≤ y) (h3 : y < 1048576) : ior .i64 (x * 1048576) y = x * 1048576 + y := by
  obtain ⟨p, rfl⟩ := Int.eq_ofNat_of_zero_le h0
  obtain ⟨q, rfl⟩ := Int.eq_ofNat_of_zero_le h2
  unfold ior
  rw [BitVec.toNat_or, BitVec.toNat_ofInt, BitVec.toNat_ofInt, show IntKind.i64.bits = 64 from rfl]
  have e1 : (((p : Int) * 1048576) % ((2 ^ 64 : Nat) : Int)).toNat = 2 ^ 20 * p := by omega
  have e2 : ((q : Int) % ((2 ^ 64 : Nat) : Int)).toNat = q := by omega
  rw [e1, e2, ← Nat.two_pow_add_eq_or_of_lt (by omega), a5s (by omega) (by omega)]
  omega
theorem b6u {x y : Int} (h0 : 0 ≤ x) (h1 : x ≤ 9223372036854775807) (h2 : 0 < y) : quo .i64 x y = some (x / y) := by
  unfold quo
  have h3 := Int.ediv_nonneg h0 (Int.le_of_lt h2)
  have h4 := Int.ediv_le_self y h0
  rw [if_neg (by omega), Int.tdiv_eq_ediv_of_nonneg h0, a5s (by omega) (by omega)]
theorem b7s {x y : Int} (h0 : 0 ≤ x) (h2 : 0 < y) : rem x y = some (x % y) := by
  unfold rem
  rw [if_neg (by omega), Int.tmod_eq_emod_of_nonneg h0]
section
variable {α : Type}
theorem b2l (l : List α) (i : Nat) : ix l (i : Int) = l[i]? := by simp [ix]
theorem a7q (p : List α) (x : α) (s : List α) {i : Int} (hi : i = p.length) : ix (p ++ x :: s) i = some x := by
  subst hi; rw [b2l]; simp
theorem a8u (p : List α) (x y : α) (s : List α) {i : Int} (hi : i = p.length) : lset (p ++ x :: s) i y = some (p ++ y :: s) := by
  subst hi
  unfold lset
  rw [if_pos ⟨by omega, by simp; omega⟩]
  simp
theorem b9f {b : Nat} {z : α} {n : Nat} (h : n * b ≤ 140737488355328) : mks b z (n : Int) = some (List.replicate n z) := by
  unfold mks; rw [if_pos ⟨by omega, by simpa using h⟩]; simp
theorem b4z {b : Nat} {l m : List α} (h : (l.length + m.length) * b ≤ 140737488355328) : app b l m = some (l ++ m) := by unfold app; rw [if_pos h]
theorem c2y {l : List α} {p q : Nat} (h : p ≤ q) (h2 : q ≤ l.length) : lsl l (p : Int) (q : Int) = some ((l.take q).drop p) := by
  unfold lsl; rw [if_pos ⟨by omega, by omega, by omega⟩]; simp
end
end Go.Proofs.YtknpjecpcmajiaaGreat.Rt

namespace Go.Proofs.YtknpjecpcmajiaaGreat.Rt
open Go
theorem inc64 {i : Nat} (h : i < 4611686018427387904) : iadd .i64 (i : Int) 1 = ((i + 1 : Nat) : Int) := by rw [a3q (by omega) (by omega)]; omega
theorem c9s {i : Nat} (h : i < 4611686018427387904) : isub .i64 ((i + 1 : Nat) : Int) 1 = (i : Int) := by rw [a2k (by omega) (by omega)]; omega
theorem drop_cons {α : Type} {a : List α} {i : Nat} {x : α} {xs : List α} (h : a.drop i = x :: xs) : ix a (i : Int) = some x ∧ a.drop (i + 1) = xs ∧ i < a.length := by
  have h1 : i < a.length := by
    rcases Nat.lt_or_ge i a.length with h2 | h2
    · exact h2
    · rw [List.drop_eq_nil_of_le h2] at h; cases h
  rw [List.drop_eq_getElem_cons h1] at h
  injection h with h2 h3
  exact ⟨by rw [b2l, List.getElem?_eq_getElem h1, h2], h3, h1⟩
theorem drop_nil {α : Type} {a : List α} {i : Nat} (h : a.drop i = []) : a.length ≤ i := by simpa using h
theorem a4y {α : Type} {a : List α} {i : Nat} {x : α} {xs : List α} (h : a.drop i = x :: xs) : decide ((i : Int) < (a.length : Int)) = true := by
  have := (drop_cons h).2.2
  exact decide_eq_true (by omega)
theorem a9v {α : Type} {a : List α} {i : Nat} (h : a.drop i = []) : decide ((i : Int) < (a.length : Int)) = false := by
  have := drop_nil h
  exact decide_eq_false (by omega)
section
variable {β : Type} {r : β} {c d : Bool} {y : Nat → Option Bool} {f : Nat → Bool → Option β}
theorem guard {V : Bool} {rest : Nat → Option Bool} (h : V = false → Ev rest true) : Ev (fun n => bif V then some true else rest n) true := by
  cases V with
  | true => exact Ev.then rfl (Ev.pure _)
  | false => exact Ev.else rfl (h rfl)
theorem Ev.conv {α : Type} {x y : Nat → Option α} {s : α} (e : ∀ n, x n = y n) (h : Ev y s) : Ev x s := by
  obtain ⟨N, hN⟩ := h
  exact ⟨N, fun n hn => by rw [e n]; exact hN n hn⟩
end
theorem c9a {α : Type} {b : Nat} {l m : List α} (h : (l.length + m.length) * b ≤ 140737488355328) : app b l m = some (l ++ m) := b4z h
end Go.Proofs.YtknpjecpcmajiaaGreat.Rt

namespace Go.Proofs.YtknpjecpcmajiaaGreat.Rt
open Go
theorem Ev.suc {α : Type} {f g : Nat → Option α} {r : α} (e : ∀ n, f (n + 1) = g n) (h : Ev g r) : Ev f r := by
  obtain ⟨N, hN⟩ := h
  refine ⟨N + 1, fun n hn => ?_⟩
  obtain ⟨k, rfl⟩ : ∃ k, n = k + 1 := ⟨n - 1, by omega⟩
  rw [e]; exact hN k (by omega)
def Tt {α : Type} (Q : α → Prop) (f : Nat → Option α) : Prop := ∃ r, Ev f r ∧ Q r
section
variable {α β : Type} {P : α → Prop} {Q : β → Prop}
theorem Tt.pure {r : β} (h : Q r) : Tt Q (fun _ => some r) := ⟨r, Ev.pure r, h⟩
theorem Tt.of {f : Nat → Option β} {r : β} (h : Ev f r) (hq : Q r) : Tt Q f := ⟨r, h, hq⟩
theorem Tt.all {f : Nat → Option β} {r : β} (h : ∀ n, f n = some r) (hq : Q r) : Tt Q f := ⟨r, Ev.all h, hq⟩
theorem Tt.bind {x : Nat → Option α} {g : Nat → α → Option β} (hx : Tt P x) (h : ∀ r, P r → Tt Q (fun n => g n r)) : Tt Q (fun n => (x n).bind (g n)) := by
  obtain ⟨r, h1, h2⟩ := hx
  obtain ⟨s, h3, h4⟩ := h r h2
  exact ⟨s, Ev.bind h1 h3, h4⟩
theorem Tt.evb {x : Nat → Option α} {a : α} {g : Nat → α → Option β} (hx : Ev x a) (h : Tt Q (fun n => g n a)) : Tt Q (fun n => (x n).bind (g n)) := by
  obtain ⟨s, h3, h4⟩ := h
  exact ⟨s, Ev.bind hx h3, h4⟩
theorem Tt.step {x : Option α} {g : Nat → α → Option β} {a : α} (hx : x = some a) (h : Tt Q (fun n => g n a)) : Tt Q (fun n => x.bind (g n)) := by
  subst hx; exact h
theorem Tt.bif {c : Bool} {x y : Nat → Option β} (h1 : c = true → Tt Q x) (h2 : c = false → Tt Q y) : Tt Q (fun n => bif c then x n else y n) := by
  cases c
  · exact h2 rfl
  · exact h1 rfl
theorem Tt.suc {f g : Nat → Option β} (e : ∀ n, f (n + 1) = g n) (h : Tt Q g) : Tt Q f := by
  obtain ⟨r, h1, h2⟩ := h
  exact ⟨r, Ev.suc e h1, h2⟩
theorem Tt.cond {c d : Bool} {g : Nat → Bool → Option β} (h : ∀ b, Tt Q (fun n => g n b)) (k : Bool) : Tt Q (fun n => (bif c then some k else some d).bind (g n)) := by
  cases c <;> exact h _
end
end Go.Proofs.YtknpjecpcmajiaaGreat.Rt

namespace Go.Proofs.YtknpjecpcmajiaaGreat.Lx
abbrev Bs := List UInt8
def isLetter (c : UInt8) : Bool := decide ((97 ≤ c.toNat ∧ c.toNat ≤ 122) ∨ (65 ≤ c.toNat ∧ c.toNat ≤ 90))
def c9z (c : UInt8) : Bool := decide (48 ≤ c.toNat ∧ c.toNat ≤ 57)
def c1z (c : UInt8) : Bool := decide ((97 ≤ c.toNat ∧ c.toNat ≤ 122) ∨ (65 ≤ c.toNat ∧ c.toNat ≤ 90) ∨ (48 ≤ c.toNat ∧ c.toNat ≤ 57) ∨ c.toNat = 95)
def d0y (c : UInt8) : Bool := decide (32 ≤ c.toNat ∧ c.toNat ≤ 126)
def c0q (p : UInt8 → Bool) : Bs → Nat
  | [] => 0
  | c :: r => bif p c then c0q p r + 1 else 0
def name (l : Bs) : Bool := !l.isEmpty && isLetter (l.headD 0) && decide (l.length ≤ 20) && (c0q c1z l == l.length)
def dec (l : Bs) : Nat := l.foldl (fun n c => 10 * n + (c.toNat - 48)) 0
def maxNumber : Nat := 1099511627776
def c8b (l : Bs) : Bool := !l.isEmpty && (c0q c9z l == l.length) && !(l.headD 0 == 48 && !(l == [48])) && decide (l.length ≤ 13)
def number (l : Bs) : Nat × Bool := if c8b l ∧ dec l ≤ maxNumber then (dec l, true) else (0, false)
def qloop : Bs → Bs → Nat → Option (Bs × Nat)
  | [], _, _ => none
  | c :: r, acc, n =>
    if d0y c = false then none
    else if c.toNat = 34 then some (acc, n)
    else if c.toNat = 92 then
      match r with
      | [] => none
      | d :: r' => if d.toNat = 34 ∨ d.toNat = 92 then qloop r' (acc ++ [d]) (n + 2) else none
    else qloop r (acc ++ [c]) (n + 1)
def quoted (l : Bs) : Bs × Nat :=
  match qloop (l.drop 1) [] 1 with
  | none => ([], 0)
  | some (v, n) => if v.length > 400 then ([], 0) else (v, n + 1)
end Go.Proofs.YtknpjecpcmajiaaGreat.Lx

namespace Go.Proofs.YtknpjecpcmajiaaGreat.Lx
open Rt M Go
theorem c0y {s r : Rt.Bs} {i : Nat} {c : UInt8} (h : s.drop i = c :: r) : sidx s (i : Int) = some (c.toNat : Int) := by
  have h1 : s[i]? = some c := by
    have := congrArg (·[0]?) h
    simpa using this
  simp [sidx, h1]
theorem c7g {s r : Rt.Bs} {i : Nat} {c : UInt8} (h : s.drop i = c :: r) : i + r.length + 1 = s.length := by
  have := congrArg List.length h
  simp only [List.length_drop, List.length_cons] at this
  omega
theorem c5r {s r : Rt.Bs} {i : Nat} {c : UInt8} (h : s.drop i = c :: r) : s.drop (i + 1) = r := by
  rw [← List.drop_drop, h, List.drop_one, List.tail_cons]
theorem drop_nil {s : Rt.Bs} {i : Nat} (h : s.drop i = []) (hi : i ≤ s.length) : i = s.length := by
  have := congrArg List.length h
  simp only [List.length_drop, List.length_nil] at this
  omega
theorem a5s (x : Int) (h1 : -9223372036854775808 ≤ x) (h2 : x < 9223372036854775808) : IntKind.i64.wrap x = x := by
  simp [IntKind.wrap, IntKind.signed, IntKind.bits]
  split <;> omega
theorem c7i (a b : Nat) (h : a + b < 9223372036854775808) : iadd .i64 (a : Int) (b : Int) = ((a + b : Nat) : Int) := by
  rw [iadd, a5s _ (by omega) (by omega)]; simp
theorem c4k (a : Nat) (h : a + 1 < 9223372036854775808) : iadd .i64 (a : Int) 1 = ((a + 1 : Nat) : Int) := c7i a 1 h
theorem c2u {p : UInt8 → Bool} (h : (List.range 256).all (fun k => p (UInt8.ofNat k)) = true) (c : UInt8) : p c = true := by
  have := List.all_eq_true.mp h c.toNat (by simpa using c.toNat_lt)
  simpa using this
theorem letter_eq (n : Nat) (c : UInt8) : a8i n (c.toNat : Int) = some (isLetter c) :=
  of_decide_eq_true (c2u (p := fun c => decide (a8i 0 (c.toNat : Int) = some (isLetter c))) (by decide +kernel) c)
theorem c8i (n : Nat) (c : UInt8) : a8z n (c.toNat : Int) = some (c1z c) :=
  of_decide_eq_true (c2u (p := fun c => decide (a8z 0 (c.toNat : Int) = some (c1z c))) (by decide +kernel) c)
theorem c0p {p : UInt8 → Bool} {f : Int → Option Bool} (hf : ∀ c : UInt8, f c.toNat = some (p c)) {s : Rt.Bs} (hs : s.length < 9223372036854775807) {n : Nat} {kont : Int → Option Int} :
    ∀ {r : Rt.Bs} {i m : Nat}, s.drop i = r → i ≤ s.length → r.length < m → a6d n s f kont m (i : Int) = kont ((i + c0q p r : Nat) : Int)
  | [], i, m + 1, h, hi, _ => by
    have := drop_nil h hi
    rw [b0h]
    simp [this, c0q]
  | c :: r, i, m + 1, h, hi, hm => by
    have h1 := c7g h
    rw [b0h, c0y h, decide_eq_true (by omega)]
    simp only [cond_true, Option.bind_some, hf]
    cases hp : p c
    · simp [c0q, hp]
    · rw [cond_true, c4k _ (by omega), c0p hf hs (c5r h) (by omega) (by simp only [List.length_cons] at hm; omega)]
      simp only [c0q, hp, cond_true]
      congr 2; omega
theorem d0b {p : UInt8 → Bool} {f : Int → Option Bool} (hf : ∀ c : UInt8, f c.toNat = some (p c)) {s : Rt.Bs} (hs : s.length < 9223372036854775807) {n : Nat} (hn : s.length < n) :
    b1j n s f = some ((c0q p s : Nat) : Int) := by
  have := c0p hf hs (n := n) (kont := fun nx2 => some nx2) (r := s) (i := 0) (m := n) (by simp) (by omega) hn
  simpa [b1j] using this
theorem headD_idx {s : Rt.Bs} (h : s ≠ []) : sidx s 0 = some ((s.headD 0).toNat : Int) := by
  cases s with
  | nil => exact absurd rfl h
  | cons c r => exact c0y (i := 0) rfl
theorem name_eq {s : Rt.Bs} (hs : s.length < 9223372036854775807) {n : Nat} (hn : s.length < n) : a5k n s = some (name s) := by
  cases hs0 : s with
  | nil => rfl
  | cons c r =>
    rw [← hs0]
    have h0 : s ≠ [] := by rw [hs0]; simp
    have h1 : (s == []) = false := by simp [hs0]
    simp only [a5k, h1, Bool.not_false, cond_true, headD_idx h0, Option.bind_some, letter_eq, d0b (c8i n) hs hn, name]
    have h2 : s.isEmpty = false := by simp [hs0]
    rw [h2]
    cases isLetter (s.headD 0) <;> by_cases h3 : s.length ≤ 20 <;> simp [h3]
    · rw [decide_eq_true (by omega)]
      simp only [cond_true, Option.some.injEq]
      rw [Bool.eq_iff_iff]; simp; omega
    · rw [decide_eq_false (by omega)]; simp
end Go.Proofs.YtknpjecpcmajiaaGreat.Lx

namespace Go.Proofs.YtknpjecpcmajiaaGreat.Lx
open Rt M Go
def ints (l : Rt.Bs) : List Int := l.map fun c => (c.toNat : Int)
end Go.Proofs.YtknpjecpcmajiaaGreat.Lx

namespace Go.Proofs.YtknpjecpcmajiaaGreat.Ta
open Go Rt M
inductive Fit : M.Expr → Prop
  | mk {o n : Int} {s : Rt.Bs} {l : List M.Expr} : l.length ≤ 1000000 → (∀ y, y ∈ l → Fit y) → Fit ⟨o, n, s, l⟩
theorem Fit.leaf (o n : Int) (s : Rt.Bs) : Fit ⟨o, n, s, []⟩ := Fit.mk (by simp) (by simp)
theorem Fit.one {x : M.Expr} (o n : Int) (s : Rt.Bs) (h : Fit x) : Fit ⟨o, n, s, [x]⟩ := Fit.mk (by simp) (by simpa using h)
theorem Fit.two {x y : M.Expr} (o n : Int) (s : Rt.Bs) (h : Fit x) (h2 : Fit y) : Fit ⟨o, n, s, [x, y]⟩ := Fit.mk (by simp) (by simp [h, h2])
end Go.Proofs.YtknpjecpcmajiaaGreat.Ta

namespace Go.Proofs.YtknpjecpcmajiaaGreat.Ta
open Go Rt M
theorem left {k m : Nat} (h : k < m) : ∃ j, m = j + 1 := ⟨m - 1, by omega⟩
theorem pred {k m : Nat} (h : k + 1 < m) : ∃ j, m = j + 1 ∧ k < j := ⟨m - 1, by omega, by omega⟩
theorem c2h (s : Rt.Bs) : Ev (fun n => a5k n s) (Lx.name s) := by
  refine ⟨21, fun n hn => ?_⟩
  by_cases h : s.length ≤ 20
  · exact Lx.name_eq (by omega) (by omega)
  · have h0 : s ≠ [] := by intro e; rw [e] at h; simp at h
    have h1 : (s == []) = false := by simpa using h0
    have h2 : Lx.name s = false := by unfold Lx.name; rw [decide_eq_false h]; simp
    rw [h2]
    unfold a5k
    dsimp only
    rw [h1, Bool.not_false, cond_true, Lx.headD_idx h0, Option.bind_some, Lx.letter_eq, Option.bind_some, Option.bind_some]
    cases Lx.isLetter (s.headD 0)
    · rfl
    · rw [cond_true, decide_eq_false (show ¬ (s.length : Int) ≤ 20 by omega)]; rfl
theorem c1t (n : Nat) (l : List Rt.Bs) (s : Rt.Bs) (hl : l.length < 4611686018427387904) : ∀ (us : List Rt.Bs) (i m : Nat), l.drop i = us → us.length < m →
    a1t n l s (some (-1)) m (i : Int) = some (if s ∈ us then ((i + us.idxOf s : Nat) : Int) else -1)
  | [], i, m + 1, hd, _ => by rw [a4h, a9v hd]; rfl
  | x :: us, i, m + 1, hd, hm => by
    obtain ⟨h1, h2, h3⟩ := drop_cons hd
    have ih := c1t n l s hl us (i + 1) m h2 (by simp only [List.length_cons] at hm; omega)
    rw [a4h, a4y hd, cond_true, h1, Option.bind_some]
    by_cases h : s = x
    · subst h
      rw [beq_self_eq_true, cond_true, if_pos (by simp)]; simp
    · have e : (s == x) = false := by simpa using h
      rw [e, cond_false, inc64 (by omega), ih]
      by_cases h5 : s ∈ us
      · rw [if_pos h5, if_pos (List.mem_cons_of_mem _ h5), List.idxOf_cons, show (x == s) = false by simpa using fun h6 => h h6.symm]
        simp only [cond_false]; congr 1; omega
      · rw [if_neg h5, if_neg (by simp [h, h5])]
theorem b4p {l : List Rt.Bs} (s : Rt.Bs) (hl : l.length < 4611686018427387904) : Ev (fun n => a1n n l s) (decide (s ∈ l)) := by
  refine ⟨l.length + 1, fun n hn => ?_⟩
  unfold a1n a2a
  dsimp only
  have h : a1t n l s (some (-1)) n 0 = _ := c1t n l s hl l 0 n rfl (by omega)
  rw [h, Option.bind_some]
  by_cases h5 : s ∈ l
  · rw [if_pos h5, decide_eq_true h5, decide_eq_true (by omega)]
  · rw [if_neg h5, decide_eq_false h5]; rfl
def c3g (l : List Rt.Bs) : Nat → List Rt.Bs → Bool
  | _, [] => decide ((l.length : Int) ≤ 6)
  | i, s :: us => Lx.name s && (!decide (s ∈ l.take i) && c3g l (i + 1) us)
def c7d (l : List Rt.Bs) : Bool := c3g l 0 l
theorem c5j (l : List Rt.Bs) (hl : l.length < 4611686018427387904) : ∀ (us : List Rt.Bs) (i : Nat), l.drop i = us → ∃ N, ∀ n m, N ≤ n → us.length < m →
    a5j n l (some (decide ((l.length : Int) ≤ 6))) m (i : Int) = some (c3g l i us)
  | [], i, hd => by
    refine ⟨0, fun n m _ hm => ?_⟩
    obtain ⟨m, rfl⟩ := left hm
    rw [a9h, a9v hd]; rfl
  | s :: us, i, hd => by
    obtain ⟨h1, h2, h3⟩ := drop_cons hd
    obtain ⟨N, ih⟩ := c5j l hl us (i + 1) h2
    obtain ⟨N1, e1⟩ := c2h s
    obtain ⟨N2, e2⟩ := b4p (l := l.take i) s (by simp; omega)
    refine ⟨max N (max N1 N2), fun n m hn hm => ?_⟩
    obtain ⟨m, rfl, hm2⟩ := pred (by simpa using hm)
    have e1 : a5k n s = some (Lx.name s) := e1 n (by omega)
    have e2 : a1n n (l.take i) s = some (decide (s ∈ l.take i)) := e2 n (by omega)
    rw [a9h, a4y hd, cond_true, h1, Option.bind_some, e1, Option.bind_some]
    unfold c3g
    cases Lx.name s with
    | false => rfl
    | true =>
      have e3 : lsl l 0 (i : Int) = some (l.take i) := by
        have := c2y (l := l) (p := 0) (q := i) (by omega) (by omega)
        simpa using this
      rw [Bool.not_true, cond_false, e3, Option.bind_some, e2, Option.bind_some, Option.bind_some, Bool.true_and]
      cases decide (s ∈ l.take i) with
      | true => rfl
      | false => rw [cond_false, inc64 (by omega), ih n m (by omega) hm2]; rfl
theorem c3i {l : List Rt.Bs} (hl : l.length < 4611686018427387904) : Ev (fun n => a9m n l) (c7d l) := by
  obtain ⟨N, h⟩ := c5j l hl l 0 rfl
  exact ⟨N + l.length + 1, fun n hn => h n n (by omega) (by omega)⟩
def c2k (o : Int) : Int := if o ≤ 4 then 0 else if o = 14 then 1 else if o = 11 then 3 else 2
theorem d1t (n : Nat) (o : Int) : a9f n o = some (c2k o) := by
  unfold a9f c2k
  by_cases h1 : o ≤ 4
  · rw [decide_eq_true h1, if_pos h1]; rfl
  · rw [decide_eq_false h1, if_neg h1, cond_false]
    by_cases h2 : o = 14
    · subst h2; rfl
    · rw [show (o == 14) = false by simpa using h2, if_neg h2, cond_false]
      by_cases h3 : o = 11
      · subst h3; rfl
      · rw [show (o == 11) = false by simpa using h3, if_neg h3]; rfl
inductive Shp : M.Expr → Prop
  | mk {o n : Int} {s : Rt.Bs} {l : List M.Expr} : 0 ≤ o → o ≤ 16 → (l.length : Int) = c2k o → (∀ y, y ∈ l → Shp y) → Shp ⟨o, n, s, l⟩
end Go.Proofs.YtknpjecpcmajiaaGreat.Ta

namespace Go.Proofs.YtknpjecpcmajiaaGreat.Tp
open Go Rt M Ta
mutual
def cnt : M.Expr → Nat
  | ⟨_, _, _, l⟩ => cnts l + 1
def cnts : List M.Expr → Nat
  | [] => 0
  | x :: l => cnt x + cnts l
 end
mutual
def dep : M.Expr → Nat
  | ⟨_, _, _, l⟩ => deps l + 1
def deps : List M.Expr → Nat
  | [] => 0
  | x :: l => max (dep x) (deps l)
 end
theorem c9u {a : Nat} (h : 1 ≤ a) (h2 : a ≤ 1000000) : isub .i64 (a : Int) 1 = ((a - 1 : Nat) : Int) := by rw [a2k (by omega) (by omega)]; omega
def Siz (d c lv lf : Nat) (r : Int × Bool) : Prop := (r.2 = true → d ≤ lv ∧ c ≤ lf ∧ r.1 = ((lf - c : Nat) : Int)) ∧ (d ≤ lv → c ≤ lf → r.2 = true)
theorem c2w (x : M.Expr) (lv : Nat) (hv1 : 1 ≤ lv) (hv : lv ≤ 1000000) (hx : x.Args.length ≤ 1000000) : ∀ (us : List M.Expr) (i lf : Nat), lf ≤ 1000000 → x.Args.drop i = us → (∀ y, y ∈ us → ∀ lv lf : Nat, lv ≤ 1000000 → lf ≤ 1000000 → Tt (Siz (dep y) (cnt y) lv lf) (fun n => tariff_sized n y lv lf)) →
    ∃ N r, Siz (deps us) (cnts us) (lv - 1) lf r ∧ ∀ n m, N ≤ n → us.length < m → a4p n (tariff_sized n) x (lv : Int) (fun f2 => some (f2, true)) m (i : Int) (lf : Int) = some r
  | [], i, lf, hlf, hd, _ => by
    refine ⟨0, (lf, true), ⟨fun _ => ⟨Nat.zero_le _, Nat.zero_le _, rfl⟩, fun _ _ => rfl⟩, fun n m _ hm => ?_⟩
    obtain ⟨m, rfl⟩ := left hm
    rw [a7h, a9v hd]; rfl
  | y :: us, i, lf, hlf, hd, H => by
    obtain ⟨h1, h2, h3⟩ := drop_cons hd
    obtain ⟨⟨l2, b⟩, ⟨N1, e1⟩, q1, q2⟩ := H y (by simp) (lv - 1) lf (by omega) hlf
    rw [← c9u hv1 hv] at e1
    have hcs : cnts (y :: us) = cnt y + cnts us := rfl
    have hds : deps (y :: us) = max (dep y) (deps us) := rfl
    cases b with
    | false =>
      have h5 : ¬(dep y ≤ lv - 1 ∧ cnt y ≤ lf) := fun h => by have := q2 h.1 h.2; cases this
      refine ⟨N1, (l2, false), ⟨fun h => (by cases h), fun h6 h7 => absurd ⟨by omega, by omega⟩ h5⟩, fun n m hn hm => ?_⟩
      obtain ⟨m, rfl⟩ := left hm
      have e1 : tariff_sized n y (isub .i64 lv 1) lf = some (l2, false) := e1 n (by omega)
      rw [a7h, a4y hd, cond_true, h1, Option.bind_some, e1, Option.bind_some]; rfl
    | true =>
      obtain ⟨h5, h6, h7⟩ := q1 rfl
      dsimp only at h7
      subst h7
      obtain ⟨N, r, ⟨hr1, hr2⟩, ih⟩ := c2w x lv hv1 hv hx us (i + 1) (lf - cnt y) (by omega) h2 (fun z hz => H z (by simp [hz]))
      refine ⟨max N N1, r, ⟨fun h => ?_, fun h8 h9 => hr2 (by omega) (by omega)⟩, fun n m hn hm => ?_⟩
      · obtain ⟨g1, g2, g3⟩ := hr1 h
        exact ⟨by omega, by omega, by rw [g3]; congr 1; omega⟩
      · obtain ⟨m, rfl, hm2⟩ := pred (by simpa using hm)
        have e1 : tariff_sized n y (isub .i64 lv 1) lf = some (((lf - cnt y : Nat) : Int), true) := e1 n (by omega)
        rw [a7h, a4y hd, cond_true, h1, Option.bind_some, e1, Option.bind_some]
        dsimp only
        rw [Bool.not_true, cond_false, inc64 (by omega), ih n m (by omega) hm2]
theorem c9o {x : M.Expr} (hx : Fit x) : ∀ lv lf : Nat, lv ≤ 1000000 → lf ≤ 1000000 → Tt (Siz (dep x) (cnt x) lv lf) (fun n => tariff_sized n x lv lf) := by
  induction hx with
  | @mk o k s l hl _ ih =>
    intro lv lf hv hf
    have hd : dep ⟨o, k, s, l⟩ = deps l + 1 := rfl
    have hc : cnt ⟨o, k, s, l⟩ = cnts l + 1 := rfl
    refine Tt.suc (g := fun n => _) (fun n => b3u n _ _ _) ?_
    have hsub : isub .i64 (lf : Int) 1 = (lf : Int) - 1 := a2k (by omega) (by omega)
    rw [hsub]
    refine Tt.bind (P := fun b => b = true ↔ (lv < 1 ∨ lf < 1)) (Tt.bif (fun h => Tt.pure (by have := of_decide_eq_true h; simp only [true_iff]; omega)) (fun h => Tt.pure ?_)) ?_
    · have := of_decide_eq_false h
      rw [decide_eq_true_iff]; omega
    intro b hb
    refine Tt.bif (fun h => Tt.pure ⟨fun h => (by cases h), fun h1 h2 => ?_⟩) (fun h => ?_)
    · have := hb.1 h; omega
    have h3 : ¬(lv < 1 ∨ lf < 1) := fun h4 => by have := hb.2 h4; rw [this] at h; cases h
    have e : (lf : Int) - 1 = ((lf - 1 : Nat) : Int) := by omega
    rw [e]
    obtain ⟨N, r, ⟨hr1, hr2⟩, hh⟩ := c2w ⟨o, k, s, l⟩ lv (by omega) hv hl l 0 (lf - 1) (by omega) rfl ih
    refine ⟨r, ⟨N + l.length + 1, fun n hn => hh n n (by omega) (by omega)⟩, fun h => ?_, fun h4 h5 => hr2 (by omega) (by omega)⟩
    obtain ⟨g1, g2, g3⟩ := hr1 h
    exact ⟨by omega, by omega, by rw [g3]; congr 1; omega⟩
def a8l (o n : Int) (s : Rt.Bs) : Prop := if o = 0 then (0 ≤ n ∧ n ≤ 1099511627776) ∧ s = [] else if o = 1 ∨ o = 4 then n = 0 ∧ Lx.name s = true else n = 0 ∧ s = []
inductive Shx : M.Expr → Prop
  | mk {o n : Int} {s : Rt.Bs} {l : List M.Expr} : 0 ≤ o → o ≤ 16 → (l.length : Int) = c2k o → a8l o n s → (∀ y, y ∈ l → Shx y) → Shx ⟨o, n, s, l⟩
theorem b5y (l : List M.Expr) (hl : l.length ≤ 1000000) (f : Nat → M.Expr → Option Bool) (Q : M.Expr → Prop) : ∀ (us : List M.Expr) (i : Nat), l.drop i = us → (∀ y, y ∈ us → Tt (fun b => b = false ↔ Q y) (fun n => f n y)) →
    ∃ N r, (r = -1 ∧ (∀ y, y ∈ us → Q y) ∨ 0 ≤ r ∧ ¬∀ y, y ∈ us → Q y) ∧ ∀ n m, N ≤ n → us.length < m → a1p n l (f n) (some (-1)) m (i : Int) = some r
  | [], i, hd, _ => by
    refine ⟨0, -1, .inl ⟨rfl, by simp⟩, fun n m _ hm => ?_⟩
    obtain ⟨m, rfl⟩ := left hm
    rw [a2o, a9v hd]; rfl
  | y :: us, i, hd, H => by
    obtain ⟨h1, h2, h3⟩ := drop_cons hd
    obtain ⟨b, ⟨N1, e1⟩, hb⟩ := H y (by simp)
    obtain ⟨N, r, hr, ih⟩ := b5y l hl f Q us (i + 1) h2 (fun z hz => H z (by simp [hz]))
    cases b with
    | true =>
      refine ⟨N1, (i : Int), .inr ⟨by omega, fun h => ?_⟩, fun n m hn hm => ?_⟩
      · have := hb.2 (h y (by simp)); cases this
      obtain ⟨m, rfl⟩ := left hm
      have e1 : f n y = some true := e1 n (by omega)
      rw [a2o, a4y hd, cond_true, h1, Option.bind_some, e1]; rfl
    | false =>
      refine ⟨max N N1, r, hr.imp (fun h => ⟨h.1, by simpa using ⟨hb.1 rfl, h.2⟩⟩) (fun h => ⟨h.1, fun h5 => h.2 fun z hz => h5 z (by simp [hz])⟩), fun n m hn hm => ?_⟩
      obtain ⟨m, rfl, hm2⟩ := pred (by simpa using hm)
      have e1 : f n y = some false := e1 n (by omega)
      rw [a2o, a4y hd, cond_true, h1, Option.bind_some, e1, Option.bind_some, cond_false, inc64 (by omega)]
      exact ih n m (by omega) hm2
theorem b7i (l : List M.Expr) (hl : l.length ≤ 1000000) (f : Nat → M.Expr → Option Bool) (Q : M.Expr → Prop) (H : ∀ y, y ∈ l → Tt (fun b => b = false ↔ Q y) (fun n => f n y)) :
    Tt (fun b => b = false ↔ ∀ y, y ∈ l → Q y) (fun n => a1y n l (f n)) := by
  obtain ⟨N, r, hr, ih⟩ := b5y l hl f Q l 0 rfl H
  refine ⟨decide (0 ≤ r), ⟨N + l.length + 1, fun n hn => ?_⟩, ?_⟩
  · unfold a1y a3d
    dsimp only
    have e : a1p n l (f n) (some (-1)) n 0 = some r := ih n n (by omega) (by omega)
    rw [e]; rfl
  · show decide (0 ≤ r) = false ↔ _
    rw [decide_eq_false_iff_not]
    rcases hr with h | h
    · exact ⟨fun _ => h.2, fun _ => by omega⟩
    · exact ⟨fun h5 => absurd h.1 h5, fun h5 => absurd h5 h.2⟩
theorem Shx.inv {o n : Int} {s : Rt.Bs} {l : List M.Expr} (h : Shx ⟨o, n, s, l⟩) : 0 ≤ o ∧ o ≤ 16 ∧ (l.length : Int) = c2k o ∧ a8l o n s ∧ ∀ y, y ∈ l → Shx y := by
  cases h with
  | mk h1 h2 h3 h4 h5 => exact ⟨h1, h2, h3, h4, h5⟩
theorem c7m {x : M.Expr} (hx : Fit x) : Tt (fun b => b = true ↔ Shx x) (fun n => tariff_shaped n x) := by
  induction hx with
  | @mk o k s l hl _ ih =>
    refine Tt.suc (fun n => b2w n _) ?_
    refine Tt.bind (P := fun b => b = false ↔ 0 ≤ o ∧ o ≤ 16) (Tt.bif (fun h => Tt.pure ?_) (fun h => Tt.pure ?_)) ?_
    · have h1 := of_decide_eq_true h
      dsimp only at h1
      exact ⟨fun h => (by cases h), fun h => by omega⟩
    · have h1 := of_decide_eq_false h
      dsimp only at h1
      rw [decide_eq_false_iff_not]
      dsimp only
      omega
    intro b hb
    refine Tt.bind (P := fun c => c = false ↔ (0 ≤ o ∧ o ≤ 16) ∧ (l.length : Int) = c2k o) (Tt.bif (fun h => Tt.pure ?_) (fun h => ?_)) ?_
    · exact ⟨fun h => (by cases h), fun h5 => by have := hb.2 h5.1; rw [this] at h; cases h⟩
    · refine Tt.evb (Ev.all fun n => d1t n _) (Tt.pure ?_)
      have := hb.1 h
      simp only [bne_eq_false_iff_eq, this, true_and]
    intro c hc
    refine Tt.bif (fun h => Tt.pure ⟨fun h => (by cases h), fun h5 => ?_⟩) (fun h => ?_)
    · have h6 := h5.inv
      have := hc.2 ⟨⟨h6.1, h6.2.1⟩, h6.2.2.1⟩
      rw [this] at h; cases h
    obtain ⟨⟨h1, h2⟩, h3⟩ := hc.1 h
    have fin : ∀ {b : Bool}, (b = true ↔ a8l o k s ∧ ∀ y, y ∈ l → Shx y) → (b = true ↔ Shx ⟨o, k, s, l⟩) := fun {b} hb => hb.trans ⟨fun h => Shx.mk h1 h2 h3 h.1 h.2, fun h => ⟨h.inv.2.2.2.1, h.inv.2.2.2.2⟩⟩
    refine Tt.bif (fun h0 => ?_) (fun h0 => ?_)
    · have h0' : o = 0 := by simpa using h0
      subst h0'
      have hz : l = [] := by
        have : (l.length : Int) = 0 := h3
        exact List.length_eq_zero_iff.1 (by omega)
      subst hz
      refine Tt.bind (P := fun b => b = true ↔ 0 ≤ k ∧ k ≤ 1099511627776) (Tt.bif (fun h => Tt.pure ?_) (fun h => Tt.pure ?_)) fun b hb => ?_
      · have h5 := of_decide_eq_true h
        rw [decide_eq_true_iff]
        exact ⟨fun h6 => ⟨h5, h6⟩, fun h6 => h6.2⟩
      · have h5 := of_decide_eq_false h
        exact ⟨fun h6 => (by cases h6), fun h6 => absurd h6.1 h5⟩
      refine Tt.bind (P := fun b => b = true ↔ (0 ≤ k ∧ k ≤ 1099511627776) ∧ s = []) (Tt.bif (fun h => Tt.pure ?_) (fun h => Tt.pure ?_)) fun b hb2 => ?_
      · have := hb.1 h
        simp [this]
      · exact ⟨fun h6 => (by cases h6), fun h6 => by rw [hb.2 h6.1] at h; cases h⟩
      refine Tt.pure (fin ?_)
      rw [hb2]
      exact ⟨fun h => ⟨h, by simp⟩, fun h => h.1⟩
    have hn0 : o ≠ 0 := by simpa using h0
    refine Tt.bind (P := fun b => b = true ↔ o = 1 ∨ o = 4) (Tt.bif (fun h => Tt.pure ?_) (fun h => Tt.pure ?_)) ?_
    · have : o = 1 := by simpa using h
      exact ⟨fun _ => .inl this, fun _ => rfl⟩
    · have : o ≠ 1 := by simpa using h
      simp [this]
    intro b1 hb1
    refine Tt.bif (fun h4 => ?_) (fun h4 => ?_)
    · have ho := hb1.1 h4
      have hz : l = [] := by
        have : (l.length : Int) = 0 := by rw [h3]; rcases ho with rfl | rfl <;> rfl
        exact List.length_eq_zero_iff.1 (by omega)
      subst hz
      have hno : a8l o k s ↔ k = 0 ∧ Lx.name s = true := by unfold a8l; rw [if_neg hn0, if_pos ho]
      refine Tt.bind (P := fun b => b = true ↔ k = 0 ∧ Lx.name s = true) (Tt.bif (fun h => ?_) (fun h => Tt.pure ?_)) fun b hb => ?_
      · have : k = 0 := by simpa using h
        refine Tt.evb (c2h _) (Tt.pure ?_)
        simp [this]
      · have : k ≠ 0 := by simpa using h
        exact ⟨fun h => (by cases h), fun h => absurd h.1 this⟩
      refine Tt.pure (fin ?_)
      rw [hb, hno]
      exact ⟨fun h => ⟨h, by simp⟩, fun h => h.1⟩
    have ho : ¬(o = 1 ∨ o = 4) := fun h5 => by rw [hb1.2 h5] at h4; cases h4
    have hno : a8l o k s ↔ k = 0 ∧ s = [] := by unfold a8l; rw [if_neg hn0, if_neg ho]
    refine Tt.bind (P := fun b => b = true ↔ k = 0 ∧ s = []) (Tt.bif (fun h => Tt.pure ?_) (fun h => Tt.pure ?_)) fun b hb => ?_
    · have : k = 0 := by simpa using h
      simp [this]
    · have : k ≠ 0 := by simpa using h
      exact ⟨fun h => (by cases h), fun h => absurd h.1 this⟩
    refine Tt.bind (P := fun b => b = true ↔ a8l o k s ∧ ∀ y, y ∈ l → Shx y) (Tt.bif (fun h => ?_) (fun h => Tt.pure ?_)) ?_
    · refine Tt.bind (b7i l hl tariff_shaped_1 Shx (fun y hy => ?_)) ?_
      · refine Tt.suc (fun n => b1h n _) ?_
        refine Tt.bind (ih y hy) ?_
        intro b hb
        refine Tt.pure ?_
        rw [← hb]; cases b <;> simp
      · intro b2 hb2
        refine Tt.pure ?_
        rw [hno, ← hb, ← hb2, h]
        cases b2 <;> simp
    · exact ⟨fun h5 => (by cases h5), fun h5 => by rw [hno, ← hb] at h5; rw [h5.1] at h; cases h⟩
    · intro b hb
      exact Tt.pure (fin hb)
def Frm (x : M.Expr) : Prop := (dep x ≤ 10 ∧ cnt x ≤ 100) ∧ Shx x
theorem c8w {x : M.Expr} (hx : Fit x) : Tt (fun b => b = true ↔ Frm x) (fun n => a9b n x) := by
  unfold a9b
  refine Tt.bind (c9o hx 10 100 (by decide) (by decide)) fun r hr => ?_
  have h5 : r.2 = true ↔ dep x ≤ 10 ∧ cnt x ≤ 100 := ⟨fun h => ⟨(hr.1 h).1, (hr.1 h).2.1⟩, fun h => hr.2 h.1 h.2⟩
  refine Tt.bind (P := fun b => b = true ↔ Frm x) (Tt.bif (fun h => ?_) (fun h => Tt.pure ?_)) fun b hb => Tt.pure hb
  · refine Tt.bind (c7m hx) fun b hb => Tt.pure ?_
    unfold Frm
    rw [hb, ← h5, h]; simp
  · exact ⟨fun h6 => (by cases h6), fun h6 => by rw [h5.2 h6.1] at h; cases h⟩
def Wrt (t : Tariff) : Prop := Lx.name t.Name = true ∧ Frm t.Fee ∧ -1 ≤ t.Cap ∧ t.Cap ≤ 1099511627776
theorem c4j {t : Tariff} (hx : Fit t.Fee) : Tt (fun b => b = true ↔ Wrt t) (fun n => a6s n t) := by
  unfold a6s
  refine Tt.evb (c2h _) ?_
  refine Tt.bind (P := fun b => b = true ↔ Lx.name t.Name = true ∧ Frm t.Fee) (Tt.bif (fun h => ?_) (fun h => Tt.pure ?_)) fun b hb => ?_
  · refine Tt.bind (c8w hx) fun b hb => Tt.pure ?_
    rw [hb, h]; simp
  · exact ⟨fun h6 => (by cases h6), fun h6 => by rw [h6.1] at h; cases h⟩
  refine Tt.bind (P := fun b => b = true ↔ (Lx.name t.Name = true ∧ Frm t.Fee) ∧ -1 ≤ t.Cap) (Tt.bif (fun h => Tt.pure ?_) (fun h => Tt.pure ?_)) fun b hb => ?_
  · rw [decide_eq_true_iff, ← hb, h]; simp
  · exact ⟨fun h6 => (by cases h6), fun h6 => by rw [hb.2 h6.1] at h; cases h⟩
  refine Tt.bind (P := fun b => b = true ↔ Wrt t) (Tt.bif (fun h => Tt.pure ?_) (fun h => Tt.pure ?_)) fun b hb => ?_
  · have := hb.1 h
    rw [decide_eq_true_iff]
    exact ⟨fun h5 => ⟨this.1.1, this.1.2, this.2, h5⟩, fun h5 => h5.2.2.2⟩
  · exact ⟨fun h6 => (by cases h6), fun h6 => by rw [hb.2 ⟨⟨h6.1, h6.2.1⟩, h6.2.2.1⟩] at h; cases h⟩
  exact Tt.pure hb
end Go.Proofs.YtknpjecpcmajiaaGreat.Tp

