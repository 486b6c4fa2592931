/-
  Prove by cases.
-/
import Derived.Test.YtkloaeaepjoijaaProve
import Derived.Test.YtkloaeaepjoijaaLawA
set_option linter.all false
namespace Go.Proofs.Ytkloaeaepjoijaa
open Go.RowKit Go.WalkArith

theorem askedL_vals (l : List Ang) (T C err : Int) : askedL l T C err = 0 ∨ askedL l T C err = 1 ∨ askedL l T C err = 2 ∨ askedL l T C err = 3 := by
  unfold askedL faultL
  (repeat' split) <;> simp_all
section
variable {A : Option Addr} {n cap : Nat} {T C err : Int} {l : List Ang} {w : World}
/-- No cut: the error is told. -/
theorem prove_no (hn : n ≤ 1000000) (hl : l.length = n) (hA : AngsAt w A l) (hs : sureL l T C err ≠ 9) :
    Calls Try.prog 64 #[.agg #[.slice A n cap, .int .i64 T, .int .i64 C], .int .i64 err] w fun e w' => ∃ At Ac tc cc, e = .returned (.tuple #[.agg #[.slice At 0 tc, .slice Ac 0 cc], .int .i64 (if sureL l T C err = 0 then 7 else sureL l T C err)]) ∧ Below w.heap.size w w' := by
  refine (prove_any A n cap T C err l w hn hl hA).mono ?_
  rintro e w' ⟨hb, At, Ac, tc, cc, ts, cs, E, rfl, _, _, _, _, ⟨h0, rfl, rfl, rfl⟩ | ⟨h0, h1, rfl, rfl, rfl⟩ | ⟨h0, h1, _, rfl⟩⟩
  · refine ⟨At, Ac, tc, cc, ?_, hb⟩
    have : sureL l T C err = askedL l T C err := by unfold sureL; rw [if_pos h0]
    rw [this, if_neg h0]; rfl
  · refine ⟨At, Ac, tc, cc, ?_, hb⟩
    have : sureL l T C err = 0 := by unfold sureL; rw [if_neg (by rw [h0]; simp), if_pos h1]
    rw [if_pos this]; rfl
  · exact absurd (by unfold sureL; rw [if_neg (by rw [h0]; simp), h1]; rfl) hs
theorem prove_yes (hn : n ≤ 1000000) (hl : l.length = n) (hA : AngsAt w A l) (hs : sureL l T C err = 9) :
    Calls Try.prog 64 #[.agg #[.slice A n cap, .int .i64 T, .int .i64 C], .int .i64 err] w fun e w' => ∃ At Ac tc cc ts cs, e = .returned (.tuple #[.agg #[.slice At ts.length tc, .slice Ac cs.length cc], .int .i64 0]) ∧ IntsAt w' (.slice At ts.length tc) ts ∧ IntsAt w' (.slice Ac cs.length cc) cs ∧ ts.length ≤ 5 ∧ cs.length ≤ 5 ∧ provesB l T C err ts cs = true ∧ Below w.heap.size w w' := by
  refine (prove_any A n cap T C err l w hn hl hA).mono ?_
  rintro e w' ⟨hb, At, Ac, tc, cc, ts, cs, E, rfl, h2, h3, h4, h5, ⟨h0, rfl, rfl, rfl⟩ | ⟨h0, h1, rfl, rfl, rfl⟩ | ⟨h0, h1, h6, rfl⟩⟩
  · have : sureL l T C err = askedL l T C err := by unfold sureL; rw [if_pos h0]
    have := askedL_vals l T C err
    omega
  · have : sureL l T C err = 0 := by unfold sureL; rw [if_neg (by rw [h0]; simp), if_pos h1]
    omega
  · exact ⟨At, Ac, tc, cc, ts, cs, rfl, h2, h3, h4, h5, h6, hb⟩
theorem sure_nine (h : sureL l T C err = 9) : askedL l T C err = 0 ∧ canE l T C err [] = false := by
  have hv := askedL_vals l T C err
  unfold sureL at h
  split at h
  · omega
  · rename_i h0
    refine ⟨by simpa using h0, ?_⟩
    cases e : canE l T C err [] with
    | false => rfl
    | true => rw [e] at h; simp at h
theorem provesB_no {ts cs : List Int} (hok : NetOk l T C) (h : provesB l T C err ts cs = true) : canE l T C err [] = false := by
  unfold provesB at h
  rw [Bool.and_eq_true, Bool.and_eq_true] at h
  have hd := cut_deny (err := err) hok h.1 h.2.1 (roomLo l err []) (roomHi l err [])
  rw [h.2.2] at hd
  unfold denyB at hd
  exact canB_of_denied hok (mOf_10 _ _) (by simpa using hd)
theorem cutB_no {ts cs : List Int} (h : canE l T C err [] = true) : cutB l T C err ts cs = false := by
  cases e : cutB l T C err ts cs with
  | false => rfl
  | true =>
    rw [cutB_proves, Bool.and_eq_true, decide_eq_true_eq] at e
    rw [provesB_no (askedL_ok e.1).1 e.2] at h
    cases h
end
end Go.Proofs.Ytkloaeaepjoijaa
