/-
  LAW 50, ProofTexts: what it comes to.
-/
import Derived.Test.YteekaonhdckicaaGreatDoorPt5
namespace Go.Proofs.YteekaonhdckicaaGreatDoor.Dp
open Go Go.RowKit Go.Proofs.YteekaonhdckicaaGreatDoor.Rt Go.Proofs Go.Proofs.YteekaonhdckicaaGreatDoor.D
set_option linter.unusedVariables false
set_option maxHeartbeats 40000000
set_option maxRecDepth 100000
theorem ptexts_e (l : List Frac) (s : Bs) (e : Evi) (b : Bch) (grams : Int) (y : List Frac) : EvF tt 3 [L (fs l), S s, .v (eEv e), .v (eBt b), I grams, L (fs y)] (B true) := by
  refine evF (eIn Tryz.func3 rfl rfl ?_)
  refine qK rfl small_e rfl ?_
  have h1 : EvF tt 7 [L (fs l), I 20, I 20] (B (fewP l 20 20)) := fewP_e l 20 20 (by decide)
  refine qK rfl h1 rfl ?_
  cases hl : fewP l 20 20 with
  | false =>
    refine qT rfl rfl ?_
    exact qR rfl ⟨rfl, rfl⟩
  | true =>
    refine qN rfl rfl ?_
    by_cases hs : 400 < s.length
    · refine qT rfl (decide_eq_true (by first | omega | (simp; done) | (simp; omega))) ?_
      exact qR rfl ⟨rfl, rfl⟩
    refine qN rfl (decide_eq_false (by omega)) ?_
    refine qK rfl (few50_e e b y) rfl ?_
    cases hf : few50 e b y with
    | false =>
      refine qT rfl rfl ?_
      exact qR rfl ⟨rfl, rfl⟩
    | true =>
      have hll : l.length ≤ 20 ∧ ∀ f ∈ l, f.P.Digits.length ≤ 20 ∧ f.Q.Digits.length ≤ 20 := by
        unfold fewP at hl
        simp only [Bool.and_eq_true, decide_eq_true_eq] at hl
        refine ⟨by omega, fun f h => ?_⟩
        have := List.all_eq_true.1 hl.2 f h
        unfold fewF at this
        simp only [Bool.and_eq_true, decide_eq_true_eq] at this
        omega
      refine qN rfl rfl ?_
      refine qF l.length (fun z x => [(15, I z), (14, B x)]) (fun _ _ => []) (fun j x => x = (l.take j).all rightf) true rfl rfl rfl ?_
      rintro j x hj hx ih
      by_cases hlt : j < l.length
      · have hf := List.getElem?_eq_getElem hlt
        generalize l[j] = f at hf
        obtain ⟨d1, d2⟩ := hll.2 f (List.mem_of_getElem? hf)
        have hfr := fright_e d1 d2 (by decide)
        have hx2 : (l.take (j + 1)).all rightf = (x && rightf f) := by rw [take_at hf, List.all_append, ← hx]; simp
        refine qT rfl (decide_eq_true (by rw [List.length_map]; omega)) ?_
        cases x with
        | false =>
          refine qN rfl rfl ?_
          refine qB (ih _ false (next64 (by omega)) hlt hx2.symm) (by kernel_rfl)
        | true =>
          refine qT rfl rfl ?_
          refine qXi rfl (by omega) hf ?_
          refine qK rfl hfr rfl ?_
          refine qB (ih _ (rightf f) (next64 (by omega)) hlt hx2.symm) (by kernel_rfl)
      · refine qN rfl (decide_eq_false (by rw [List.length_map]; omega)) ?_
        obtain rfl : j = l.length := by omega
        rw [List.take_length] at hx
        clear ih
        subst hx
        have hte := ptext_e hll.2 (by decide) (by omega)
        refine qK rfl hte rfl ?_
        have hrd := rd_text (by omega) hll.2
        refine qK rfl hrd rfl ?_
        have htn := textP_ne (l := l)
        have hsp := samePt_e l l (by omega) (fun f hf => by have := hll.2 f hf; omega)
        rw [decide_eq_true rfl] at hsp
        have hsr := read_x s (by omega) (texts_small (by omega))
        have hys : y.length ≤ 60 ∧ ∀ f ∈ y, f.P.Digits.length ≤ 20 ∧ f.Q.Digits.length ≤ 20 := by
          unfold few50 fewP at hf
          simp only [Bool.and_eq_true, decide_eq_true_eq] at hf
          refine ⟨by omega, fun f h => ?_⟩
          have := List.all_eq_true.1 hf.1.2.2 f h
          unfold fewF at this
          simp only [Bool.and_eq_true, decide_eq_true_eq] at this
          omega
        have hY : YOk y 20 := ⟨by omega, hys.2⟩
        have hE : ELen e := by
          unfold few50 few17 sml at hf
          simp only [Bool.and_eq_true, decide_eq_true_eq] at hf
          constructor <;> omega
        have hbm : b.Moves.length ≤ 1000 := by
          unfold few50 at hf
          simp only [Bool.and_eq_true, decide_eq_true_eq] at hf
          omega
        have hpa := paper_e (b := b) (grams := grams) hE hY hbm
        have him := impos_e hE hY
        have hty := ptext_e hys.2 (by decide) (by omega)
        have hry := rd_text hys.1 hys.2
        have fin : ∀ a : List Frac, readP s = some a → EvF tt 10 [L (fs a)] (S s) := fun a ha => by
          obtain ⟨h1, h2⟩ := readP_dig (by omega) ha
          have := ptext_e h1 (by decide) h2
          rwa [(textP_read ha).2] at this
        cases hr : l.all rightf with
        | false =>
          rw [hr] at htn
          refine qN rfl (by rw [show (!(textP l == (⟨#[]⟩ : ByteArray).data.toList)) = false from htn]; rfl) ?_
          refine qN rfl rfl ?_
          refine qN rfl rfl ?_
          unfold rdV at hsr
          cases hp : readP s with
          | none =>
            rw [hp] at hsr
            refine qK rfl hsr rfl ?_
            cases hyr : y.all rightf with
            | false =>
              rw [hyr] at hry
              refine qN rfl rfl ?_
              refine qT rfl rfl ?_
              refine qN rfl rfl ?_
              refine qK rfl (hty) rfl ?_
              refine qK rfl (hry) rfl ?_
              refine qT rfl rfl ?_
              refine qT rfl rfl ?_
              refine qE rfl (by kernel_rfl) (by kernel_rfl) ?_
              exact qR rfl ⟨rfl, rfl⟩
            | true =>
              rw [hyr] at hry
              refine qN rfl rfl ?_
              refine qT rfl rfl ?_
              refine qN rfl rfl ?_
              refine qK rfl (hty) rfl ?_
              refine qK rfl (hry) rfl ?_
              refine qT rfl rfl ?_
              refine qN rfl rfl ?_
              refine qK rfl (hpa) rfl ?_
              refine qK rfl (hpa) rfl ?_
              refine qT rfl (decide_eq_true (by first | omega | (simp; done) | (simp; omega))) ?_
              refine qK rfl (him) rfl ?_
              refine qK rfl (him) rfl ?_
              refine qE rfl (by kernel_rfl) (by kernel_rfl) ?_
              refine qR rfl ⟨congrArg B ?_, rfl⟩; rotate_left
              all_goals simp
          | some a =>
            rw [hp] at hsr
            refine qK rfl hsr rfl ?_
            have hta := fin a hp
            refine qT rfl rfl ?_
            refine qK rfl hta rfl ?_
            refine qN rfl (by simp) ?_
            cases hyr : y.all rightf with
            | false =>
              rw [hyr] at hry
              refine qN rfl rfl ?_
              refine qK rfl (hty) rfl ?_
              refine qK rfl (hry) rfl ?_
              refine qT rfl rfl ?_
              refine qT rfl rfl ?_
              refine qE rfl (by kernel_rfl) (by kernel_rfl) ?_
              exact qR rfl ⟨rfl, rfl⟩
            | true =>
              rw [hyr] at hry
              refine qN rfl rfl ?_
              refine qK rfl (hty) rfl ?_
              refine qK rfl (hry) rfl ?_
              refine qT rfl rfl ?_
              refine qN rfl rfl ?_
              refine qK rfl (hpa) rfl ?_
              refine qK rfl (hpa) rfl ?_
              refine qT rfl (decide_eq_true (by first | omega | (simp; done) | (simp; omega))) ?_
              refine qK rfl (him) rfl ?_
              refine qK rfl (him) rfl ?_
              refine qE rfl (by kernel_rfl) (by kernel_rfl) ?_
              refine qR rfl ⟨congrArg B ?_, rfl⟩; rotate_left
              all_goals simp
        | true =>
          rw [hr] at htn
          refine qN rfl (by rw [show (!(textP l == (⟨#[]⟩ : ByteArray).data.toList)) = true from htn]; rfl) ?_
          refine qN rfl rfl ?_
          refine qT rfl rfl ?_
          refine qK rfl (hsp) rfl ?_
          refine qN rfl rfl ?_
          unfold rdV at hsr
          cases hp : readP s with
          | none =>
            rw [hp] at hsr
            refine qK rfl hsr rfl ?_
            cases hyr : y.all rightf with
            | false =>
              rw [hyr] at hry
              refine qN rfl rfl ?_
              refine qT rfl rfl ?_
              refine qN rfl rfl ?_
              refine qK rfl (hty) rfl ?_
              refine qK rfl (hry) rfl ?_
              refine qT rfl rfl ?_
              refine qT rfl rfl ?_
              refine qE rfl (by kernel_rfl) (by kernel_rfl) ?_
              exact qR rfl ⟨rfl, rfl⟩
            | true =>
              rw [hyr] at hry
              refine qN rfl rfl ?_
              refine qT rfl rfl ?_
              refine qN rfl rfl ?_
              refine qK rfl (hty) rfl ?_
              refine qK rfl (hry) rfl ?_
              refine qT rfl rfl ?_
              refine qN rfl rfl ?_
              refine qK rfl (hpa) rfl ?_
              refine qK rfl (hpa) rfl ?_
              refine qT rfl (decide_eq_true (by first | omega | (simp; done) | (simp; omega))) ?_
              refine qK rfl (him) rfl ?_
              refine qK rfl (him) rfl ?_
              refine qE rfl (by kernel_rfl) (by kernel_rfl) ?_
              refine qR rfl ⟨congrArg B ?_, rfl⟩; rotate_left
              all_goals simp
          | some a =>
            rw [hp] at hsr
            refine qK rfl hsr rfl ?_
            have hta := fin a hp
            refine qT rfl rfl ?_
            refine qK rfl hta rfl ?_
            refine qN rfl (by simp) ?_
            cases hyr : y.all rightf with
            | false =>
              rw [hyr] at hry
              refine qN rfl rfl ?_
              refine qK rfl (hty) rfl ?_
              refine qK rfl (hry) rfl ?_
              refine qT rfl rfl ?_
              refine qT rfl rfl ?_
              refine qE rfl (by kernel_rfl) (by kernel_rfl) ?_
              exact qR rfl ⟨rfl, rfl⟩
            | true =>
              rw [hyr] at hry
              refine qN rfl rfl ?_
              refine qK rfl (hty) rfl ?_
              refine qK rfl (hry) rfl ?_
              refine qT rfl rfl ?_
              refine qN rfl rfl ?_
              refine qK rfl (hpa) rfl ?_
              refine qK rfl (hpa) rfl ?_
              refine qT rfl (decide_eq_true (by first | omega | (simp; done) | (simp; omega))) ?_
              refine qK rfl (him) rfl ?_
              refine qK rfl (him) rfl ?_
              refine qE rfl (by kernel_rfl) (by kernel_rfl) ?_
              refine qR rfl ⟨congrArg B ?_, rfl⟩; rotate_left
              all_goals simp
end Go.Proofs.YteekaonhdckicaaGreatDoor.Dp

