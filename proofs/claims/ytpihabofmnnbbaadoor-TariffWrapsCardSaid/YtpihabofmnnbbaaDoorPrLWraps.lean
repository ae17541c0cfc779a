/-
  TARIFFWRAPS: parentheses, comments and line feeds change nothing; blanks move the error.
-/
import Derived.Test.YtpihabofmnnbbaaDoorPrW
import Derived.Test.YtpihabofmnnbbaaDoorPrB
namespace Go.Proofs.YtpihabofmnnbbaaDoor.Pr
open Go Rt M Ta Tp

theorem front_L (n k : Nat) (hk : k ≤ 255) (K : Rt.Bs → Option Bool) : ∀ (d i m : Nat), i + d = k → d < m → law35_TariffWraps_L1 n (k : Int) K m (List.replicate i 32) (i : Int) = K (List.replicate k 32)
  | 0, i, m, hd, hm => by
    obtain ⟨m, rfl⟩ := left hm
    rw [law35_TariffWraps_L1_s, Rt.wrap_i64 (by omega) (by omega), decide_eq_false (by omega), cond_false, show i = k by omega]
  | d + 1, i, m, hd, hm => by
    obtain ⟨m, rfl, hm2⟩ := pred hm
    have e : List.replicate i (32 : UInt8) ++ [32] = List.replicate (i + 1) 32 := by rw [List.replicate_succ']
    rw [law35_TariffWraps_L1_s, Rt.wrap_i64 (by omega) (by omega), decide_eq_true (by omega), cond_true, scat_eq (by simp only [List.length_replicate, List.length_cons, List.length_nil]; omega), Option.bind_some, e, inc64 (by omega)]
    exact front_L n k hk K d (i + 1) m (by omega) hm2
theorem paren_ev {x : M.Expr} (h : ExprOk x) {l : List Token} {a : Nat} (hl : l.length ≤ 1000000) (hg : Bg l a (wS 40 :: ((wa x).1 ++ [wS 41]) ++ [wS 59])) : Ev (fun n => tariff_reader_expr n (Rd l a 0)) (Rd l (a + (wS 40 :: ((wa x).1 ++ [wS 41])).length) 0, x) := by
  have hc := hg.cut
  have atom : Ev (fun n => tariff_reader_atom n (Rd l a 0)) (Rd l (a + (wS 40 :: ((wa x).1 ++ [wS 41])).length) 0, x) := by
    obtain ⟨⟨k1, t1, n1, p1⟩, f1, _, g1, g2, g3, g4, g5⟩ := hc.1.next
    obtain rfl : k1 = 3 := g1
    obtain rfl : t1 = [40] := g2
    refine Ev.suc (fun m => tariff_reader_atom_s m _) ?_
    refine Ev.bind (Ev.all f1) (Ev.else rfl (Ev.step (a := false) rfl (Ev.else rfl (Ev.then rfl ?_))))
    rw [show iadd .i64 (a : Int) 1 = ((a + 1 : Nat) : Int) from inc64 (by omega)]
    refine Ev.bind (h l (a + 1) _ (wS 41) hl g5 rfl rfl) (Ev.bind (one_sign g5.cut.2 hl).1 ?_)
    refine (Ev.pure _).eq ?_
    rw [show a + 1 + (wa x).1.length + 1 = a + (wS 40 :: ((wa x).1 ++ [wS 41])).length by simp only [List.length_cons, List.length_append, List.length_nil]; omega]
  refine Ev.suc (fun m => tariff_reader_expr_s m _) ?_
  refine Ev.bind (Ev.all (hc.1.leave hl (.inr (by decide)))) (Ev.else rfl ?_)
  refine Ev.bind (Ev.all (hc.1.leave hl (.inr (by decide)))) (Ev.else rfl ?_)
  refine Ev.bind atom ?_
  obtain ⟨t, f1, _, _, g2, _⟩ := hc.2.next
  refine Ev.bind (Ev.all f1) (Ev.bind (Ev.all fun m => operators_n m) ?_)
  dsimp only
  rw [g2, show mget ops (wS 59).Text = none from rfl]
  exact Ev.step (a := (true, l, ((a + (wS 40 :: ((wa x).1 ++ [wS 41])).length : Nat) : Int), 0)) rfl (Ev.then rfl (Ev.pure _))
theorem spr_strip : ∀ l : List Token, spr (l.map strip) = spr l
  | [] => rfl
  | t :: l => by
    show 10 :: (t.Text ++ 35 :: 59 :: spr (l.map strip)) = 10 :: (t.Text ++ 35 :: 59 :: spr l)
    rw [spr_strip l]
theorem pw_kind {t : Tariff} (hw : Wrt t) : ∀ u, u ∈ pw t → u.Kind ≠ 2 := by
  intro u hu
  unfold pw pwx at hu
  simp only [List.mem_cons, List.mem_append, List.not_mem_nil, or_false] at hu
  rcases hu with rfl | rfl | rfl | rfl | rfl | hu | rfl | hu | rfl
  · exact (by decide : (0 : Int) ≠ 2)
  · exact (by decide : (0 : Int) ≠ 2)
  · exact (by decide : (3 : Int) ≠ 2)
  · exact (by decide : (0 : Int) ≠ 2)
  · exact (by decide : (3 : Int) ≠ 2)
  · exact (fee_pl hw.2.1.2 u hu).1
  · exact (by decide : (3 : Int) ≠ 2)
  · unfold capw at hu
    by_cases hc : t.Cap = -1
    · rw [if_neg (fun h => h hc)] at hu; cases hu
    · rw [if_pos hc] at hu
      simp only [List.mem_cons, List.not_mem_nil, or_false] at hu
      rcases hu with rfl | rfl | rfl | rfl
      · exact (by decide : (0 : Int) ≠ 2)
      · exact (by decide : (3 : Int) ≠ 2)
      · exact (by decide : (1 : Int) ≠ 2)
      · exact (by decide : (3 : Int) ≠ 2)
  · exact (by decide : (3 : Int) ≠ 2)
theorem wraps_ev (t : Tariff) (s : Rt.Bs) (b : Int) (hb : 0 ≤ b ∧ b ≤ 255) : Ev (fun n => law35_TariffWraps n t s b) true := by
  unfold law35_TariffWraps
  refine Ev.bind small35 ?_
  obtain ⟨v2, e2, h2⟩ := limited_t t
  refine Ev.bind e2 ?_
  cases v2 with
  | false => exact Ev.bind (a := true) (Ev.then rfl (Ev.pure _)) (Ev.then rfl (Ev.pure _))
  | true =>
    have hf := h2 rfl
    refine Ev.bind (a := decide (800 < (s.length : Int))) (Ev.else rfl (Ev.pure _)) ?_
    by_cases hs : s.length ≤ 800
    · refine Ev.else (decide_eq_false (by omega)) ?_
      obtain ⟨k, rfl⟩ : ∃ k : Nat, b = (k : Int) := ⟨b.toNat, by omega⟩
      have hk : k ≤ 255 := by omega
      refine Ev.from (k + 1) (fun n hn => front_L n k hk _ k 0 n (by omega) (by omega)) ?_
      have hz : (List.replicate k (32 : UInt8) ++ s).length = s.length + k := by simp; omega
      obtain ⟨b1, b2, b3⟩ := scan_blanks (s := s) (k := k) (by omega)
      obtain ⟨p, q, ep, eq, q1, q2, q3⟩ := Parse_l (s := s) (z := List.replicate k 32 ++ s) (by omega) hz (by omega) b1 b2 b3
      obtain ⟨p', ep', w1, w2⟩ := Parse_w (s := s) (by omega)
      obtain rfl := ep.uniq ep'
      refine Ev.bind ep (Ev.step (scat_eq (by simp only [List.length_replicate]; omega)) (Ev.bind eq ?_))
      refine Ev.bind (a := false) (Ev.else (by rw [q2]; simp) ?_) (Ev.else rfl ?_)
      · by_cases he : p.2.2 = 0
        · exact Ev.bind (a := false) (Ev.else (by rw [he]; rfl) (Ev.pure _)) (Ev.pure _)
        · obtain ⟨_, g2, g3⟩ := w2 he
          refine Ev.bind (a := false) (Ev.then (by simpa using he) ((Ev.pure _).eq ?_)) (Ev.pure _)
          rw [q3 he, iadd_i64 (by simp only [List.length_replicate]; omega) (by simp only [List.length_replicate]; omega), List.length_replicate]
          simp
      obtain ⟨v7, e7, h7⟩ := print_ev hf
      refine Ev.bind e7 ?_
      rcases h7 with ⟨hw, rfl⟩ | ⟨_, rfl⟩
      · refine Ev.bind (a := t.Name == [102, 101, 101]) (Ev.else rfl (Ev.pure _)) ?_
        cases hn : t.Name == [102, 101, 101] with
        | true => exact Ev.bind (a := true) (Ev.then rfl (Ev.pure _)) (Ev.then rfl (Ev.pure _))
        | false =>
          refine Ev.bind (a := decide (1500 < ((ptx t).length : Int))) (Ev.else rfl (Ev.pure _)) ?_
          by_cases h15 : (ptx t).length ≤ 1500
          · refine Ev.else (decide_eq_false (by omega)) ?_
            have hpp := ptx_parts hw
            have hlen : (ptx t).length = (pre t).length + (5 + (((ta t.Fee).1.length + 2) + ((post t).length + 1))) := by
              rw [hpp]; simp [feeq]; omega
            have ei := inside_ev (p := pre t) (m := 32 :: (ta t.Fee).1 ++ [32]) (q := post t) (pre_eq hw) (fee_no hw) (by rw [← hpp]; omega)
            rw [← hpp] at ei
            have hfl : feeq.length = 5 := rfl
            refine Ev.bind ei (Ev.step (scat_eq ?_) (Ev.step (scat_eq ?_) (Ev.step (scat_eq ?_) (Ev.step (scat_eq ?_) ?_))))
            any_goals (simp only [List.length_append, List.length_cons, List.length_nil]; omega)
            have hpl : (ptp t).length ≤ 4000 := by unfold ptp; simp only [List.length_append, List.length_cons, List.length_nil]; omega
            obtain ⟨lp, sp1, sp2⟩ := laid_whole (ptp_laid hw) hpl
            have epar : Ev (fun n => tariff_Parse n (ptp t)) (t, 0, 0) := by
              refine parse_words hw hf sp1 (by omega) sp2 fun a hbg => ?_
              have hl6 : lp.length ≤ 1000000 := by have := scan_len (ptp t); rw [sp1] at this; dsimp only at this; omega
              exact paren_ev (read_ok hw.2.1.2).2.1 hl6 hbg
            refine Ev.bind epar ?_
            obtain ⟨l, sc1, sc2⟩ := ptx_scan hw
            have hl6 : l.length ≤ 1000000 := by have := scan_len (ptx t); rw [sc1] at this; dsimp only at this; omega
            refine Ev.bind (Scan_ev (show (ptx t).length ≤ 1000000 by omega)) ?_
            rw [sc1]
            have hgood := pw_good hw (words_ok hw.2.1.2).1.2.1
            have hsl : (spr (pw t)).length ≤ 2 * (sp (pw t)).length := spr_len hgood
            have hspl : (sp (pw t)).length = (ptx t).length + 1 := by rw [← (ptx_words hw).1]; rfl
            have hspr : spr (pw t) = spr l := by rw [← sc2, spr_strip]
            have hsl2 : (spr l).length ≤ 3002 := by rw [← hspr]; exact Nat.le_trans hsl (by omega)
            have hlaid : Laid ([35, 32, 116] ++ spr l) (pw t) := by rw [← hspr]; exact laid_all hgood
            obtain ⟨ls, ss1, ss2⟩ := laid_whole hlaid (by simp only [List.length_append, List.length_cons, List.length_nil]; omega)
            have espr : Ev (fun n => tariff_Parse n ([35, 32, 116] ++ spr l)) (t, 0, 0) := by
              refine parse_words hw hf ss1 (by simp only [List.length_append, List.length_cons, List.length_nil]; omega) ss2 fun a hbg => ?_
              have hl7 : ls.length ≤ 1000000 := by have := scan_len ([35, 32, 116] ++ spr l); rw [ss1] at this; simp only [List.length_append, List.length_cons, List.length_nil] at this; omega
              exact (read_ok hw.2.1.2).2.1 ls a _ (wS 59) hl7 hbg rfl rfl
            have hkind : ∀ u, u ∈ l → u.Kind ≠ 2 := fun u hu => pw_kind hw (strip u) (by rw [← sc2]; exact List.mem_map_of_mem hu)
            obtain ⟨N, hN⟩ := spread_L (r := true) hl6 0 0 (fun n spread2 => (tariff_Parse n spread2).bind fun v13 =>
                (bif true then some (((t, 0, 0) : Tariff × Int × Int).2.2 == 0) else some false).bind fun v14 =>
                (bif v14 then some (((l, ((0 : Nat) : Int), 0) : List Token × Int × Int).2.2 == 0) else some false).bind fun v15 =>
                (bif v15 then some (v13.2.2 == 0) else some false).bind fun v16 =>
                (bif v16 then (ref35_SameTariff n ((t, 0, 0) : Tariff × Int × Int).1 t).bind fun v20 => some v20 else some false).bind fun v17 =>
                (bif v17 then (ref35_SameTariff n v13.1 t).bind fun v19 => some v19 else some false).bind fun v18 =>
                some v18) l 0 [35, 32, 116] rfl hkind (by simp only [List.length_cons, List.length_nil]; omega) (Ev.bind espr
                (and_pure rfl rfl (and_pure rfl rfl (and_pure rfl rfl (and_call rfl (SameT_ev hf) (and_call rfl (SameT_ev hf) (Ev.pure _)))))))
            exact ⟨N + l.length + 1, fun n hn => hN n n (by omega) (by omega)⟩
          · exact Ev.then (decide_eq_true (by omega)) (Ev.pure _)
      · exact Ev.bind (a := true) (Ev.then rfl (Ev.pure _)) (Ev.bind (a := true) (Ev.then rfl (Ev.pure _)) (Ev.then rfl (Ev.pure _)))
    · exact Ev.then (decide_eq_true (by omega)) (Ev.pure _)
theorem wraps_ev' (t : Tariff) (s : Rt.Bs) (b : Int) (h : (Lit.int .u8 b).wf = true) : Ev (fun n => law35_TariffWraps n t s b) true := by
  refine wraps_ev t s b ?_
  have h1 : IntKind.u8.min ≤ b ∧ b ≤ IntKind.u8.max := by simpa [Lit.wf] using h
  exact h1
end Go.Proofs.YtpihabofmnnbbaaDoor.Pr
