/- What hist.Apply tells, by one contract. -/
import Derived.Test.YtljimlaalebmaaaHAppH
namespace Go.Proofs.Ytljimlaalebmaaa
open Go.RowKit
set_option linter.unusedVariables false
set_option linter.unusedSimpArgs false
theorem changedL_res {o e : OpR} {k : Int} (h1 : I64 o.res) (h2 : I64 e.res) : I64 (changedL o k e).1.res := by
  unfold changedL
  repeat' split
  all_goals first | exact h1 | exact h2 | (unfold I64; simp)
theorem Apply_c (k : Int) (e : OpR) (l : List OpR) (v : Value) (w : World) (hv : Ops w v l) (hs : Rises l) (hf : FitL l) (he : I64 e.res) (hl : l.length ≤ 1000000) :
    Calls Try.prog 7 #[v, .agg #[.int .i64 k, .int .i64 e.id, .int .i64 e.proc, .int .i64 e.obj, .int .i64 e.kind, .int .i64 e.meth, .int .i64 e.arg, .int .i64 e.sec, .bool e.done, .int .i64 e.res, .int .i64 e.inv, .int .i64 e.ret]] w (EdPost (applyL l k e) w) := by
  unfold applyL
  by_cases h1 : k < 1 ∨ 6 < k
  · rw [if_pos h1]
    exact (appA_c k e v w (by omega)).mono fun e w' h => edPost_bad h
  rw [if_neg h1]
  have hp : ∀ w' : World, Grow w w' → Calls Try.prog 14 #[v, .int .i64 e.id] w' fun en w'' => en = .returned (.tuple #[.int .i64 (placeL l e.id : Int), .bool (thereB l e.id)]) ∧ Grow w' w'' := fun w' g =>
    (place_c l e.id v w' (hv.grow g) hs).mono fun en w'' h => h.2
  have hle := placeL_le l e.id
  by_cases h2 : k = 1
  · subst h2
    rw [if_pos rfl]
    have ha := fun (w' : World) (g : Grow w w') => add_c e (placeL l e.id) (thereB l e.id) l v w' (hv.grow g) he hle hl
    generalize addL l e (placeL l e.id) (thereB l e.id) = r at *
    obtain ⟨L, x, y, c⟩ := r
    exact (appC_c e x y L c _ _ v w hp ha).mono fun en w' h => h
  rw [if_neg h2]
  by_cases h3 : thereB l e.id = false
  · rw [if_pos h3]
    rw [h3] at hp
    exact (appB_c k e _ v w hp (by omega) (by omega) h2).mono fun e w' h => edPost_bad h
  have h3' : thereB l e.id = true := by simpa using h3
  rw [if_neg h3]
  rw [h3'] at hp
  obtain ⟨hlt, -⟩ := placeL_there h3' hs
  obtain ⟨p, cap, rfl, -⟩ := hv.read
  have hfy := hf _ hlt
  generalize placeL l e.id = i at *
  by_cases h4 : k = 2
  · subst h4
    rw [if_pos rfl]
    refine (appD_c e (opAt l i) i p l.length cap w l hv rfl hlt hl rfl hp).mono fun en w' h => ?_
    obtain ⟨v', h1, h2, h3⟩ := h
    exact ⟨v', h1, h2, h3⟩
  rw [if_neg h4]
  have hres := changedL_res (k := k) hfy he
  have hch := fun (r : OpR) (c : Int) (hr : changedL (opAt l i) k e = (r, c)) w' => changed_c (opAt l i) k e r c hr w'
  generalize hcg : changedL (opAt l i) k e = rc at *
  obtain ⟨r, c⟩ := rc
  have hc := hch r c rfl
  have hck := fun w => Check_c r w hres.1 hres.2
  have hbk := fun (w' : World) (g : Grow w w') => beside_c l r _ w' (hv.grow g)
  by_cases h5 : c = 0
  · subst h5
    by_cases h6 : checkE r = 0
    · rw [h6] at hck
      by_cases h7 : besideE l r = 0
      · rw [h7] at hbk
        have e0 : setE l (r, 0) = 0 := by simp [setE, h6, h7]
        rw [e0, if_neg (by decide)]
        refine (appH_c k e (opAt l i) r i p l.length cap w l hv rfl hlt hl rfl hp hc hck hbk (by omega) (by omega) h2 h4).mono fun en w' h => ?_
        obtain ⟨v', h1, h2, h3⟩ := h
        exact ⟨v', h1, h2, h3⟩
      · have e0 : setE l (r, 0) = besideE l r := by simp [setE, h6]
        rw [e0, if_pos h7]
        exact (appG_c k e (opAt l i) r _ i p l.length cap w l hv rfl hlt hl rfl hp hc hck hbk h7 (by omega) (by omega) h2 h4).mono fun e w' h => edPost_bad h
    · have e0 : setE l (r, 0) = checkE r := by simp [setE, h6]
      rw [e0, if_pos h6]
      exact (appF_c k e (opAt l i) r _ i p l.length cap w l hv rfl hlt hl rfl hp hc hck h6 (by omega) (by omega) h2 h4).mono fun e w' h => edPost_bad h
  · have e0 : setE l (r, c) = c := by simp [setE, h5]
    rw [e0, if_pos h5]
    exact (appE_c k e (opAt l i) r c i p l.length cap w l hv rfl hlt hl rfl hp hc h5 (by omega) (by omega) h2 h4).mono fun e w' h => edPost_bad h
end Go.Proofs.Ytljimlaalebmaaa
