/- How a node, or a query, that came in by value is opened. -/
import Derived.Test.YteilkcdbdpkbfaaDoorLawBase
import Derived.Test.YteilkcdbdpkbfaaDoorQSameP
import Derived.Lib.SmallJoins
import Derived.Deep.Slices
import Derived.Deep.Fields
namespace Go.Proofs.YteilkcdbdpkbfaaDoor
open Go.RowKit Go.Joins Go.ChangeShapes Go.WideShapes Go.Deep Go.WideElems Go.Maps
set_option linter.unusedVariables false
set_option linter.unusedSimpArgs false
theorem kidsIn_of {S : Nat → Prop} {w : World} {b : Nat} : ∀ (l : List NodeR) (o : Nat), (∀ i (h : i < l.length), ∃ c0 c1 c2 c3 c4, w.cell? ⟨b, o + i * 5, none⟩ = some c0 ∧ w.cell? ⟨b, o + i * 5 + 1, none⟩ = some c1 ∧ w.cell? ⟨b, o + i * 5 + 2, none⟩ = some c2 ∧ w.cell? ⟨b, o + i * 5 + 3, none⟩ = some c3 ∧ w.cell? ⟨b, o + i * 5 + 4, none⟩ = some c4 ∧ l[i].In S w (.agg #[c0, c1, c2, c3, c4])) → kidsIn S w b l o
  | [], _, _ => by unfold kidsIn; trivial
  | n :: l, o, h => by
    unfold kidsIn
    have h00 := h 0 (by simp)
    simp only [Nat.zero_mul, Nat.add_zero, List.getElem_cons_zero] at h00
    refine ⟨h00, kidsIn_of l (o + 5) (fun i hi => ?_)⟩
    have := h (i + 1) (by simpa using hi)
    rw [show o + (i + 1) * 5 = o + 5 + i * 5 from by omega] at this
    exact this
theorem kidsFit_of : ∀ (l : List NodeR), (∀ i (h : i < l.length), l[i].Fit) → kidsFit l
  | [], _ => by unfold kidsFit; trivial
  | n :: l, h => by
    unfold kidsFit
    exact ⟨h 0 (by simp), kidsFit_of l (fun i hi => h (i + 1) (by simpa using hi))⟩
section
variable {H : Type} {enc : TypeId × Value → H} {P : Program} {w : World} {base : Nat} {spare : Nat → Bool} {held : Bool}
theorem weights_mem_all {H : Type} {P : Program} {e : TypeId} : ∀ {l : List (DataW H)} {d : DataW H}, d ∈ l → ∀ n ∈ d.weights P e, n ∈ DataW.weightsAll P e l
  | [], _, h, _, _ => by cases h
  | a :: l, d, h, n, hn => by
    simp only [DataW.weightsAll, List.mem_append]
    rcases List.mem_cons.1 h with rfl | h
    · exact .inl hn
    · exact .inr (weights_mem_all h n hn)
/-- A struct whose fields take one cell each. -/
theorem trod_flat {t : TypeId} {fs : Array Field} {fuel : Nat} {cs : List Value} {x : DataW H × List MemPlace} (hs : P.underlying t = some (.struct fs)) (hone : oneCellFields P fs = true) (hC : P.cellsOf t = fs.size)
    (h : DataW.trod enc P w base spare held fuel t cs = some x) :
    ∃ (xs : List (DataW H × List MemPlace)) (n : Nat), fuel = n + 1 ∧ x.1 = .agg (xs.map (·.1)) ∧ cs.length = fs.size ∧ xs.length = fs.size ∧ ∀ (j : Nat) (f : Field) (c : Value), fs[j]? = some f → cs[j]? = some c → DataW.trod enc P w base spare held n f.type [c] = xs[j]? := by
  obtain ⟨xs, n, hf, hx, hl, hlen, hr⟩ := DataW.trod_struct hs h
  refine ⟨xs, n, hf, by rw [hx], hl.trans hC, hlen, fun j f c hj hc => ?_⟩
  have h1 := hr j f hj
  obtain ⟨o1, k1⟩ := hone_of hone j f hj
  rw [o1, k1] at h1
  have hjl : j < cs.length := (List.getElem?_eq_some_iff.1 hc).1
  have hcl : cs[j] = c := (List.getElem?_eq_some_iff.1 hc).2
  have e : (cs.drop j).take 1 = [c] := by
    rw [List.drop_eq_getElem_cons hjl, List.take_succ_cons, List.take_zero, hcl]
  rw [e] at h1
  exact h1
set_option maxRecDepth 100000 in
set_option maxHeartbeats 2000000 in
theorem open_nodeF : ∀ (fuel : Nat) (cs : List Value) (x : DataW H × List MemPlace), DataW.trod enc Tryd.prog w base spare held fuel 24 cs = some x → (∀ n ∈ x.1.weights Tryd.prog 24, n ≤ reachBytes) →
    ∃ (nd : NodeR) (c0 c1 c2 c3 c4 : Value), cs = [c0, c1, c2, c3, c4] ∧ nd.In (fun _ => True) w (.agg #[c0, c1, c2, c3, c4]) ∧ nd.Fit := by
  intro fuel
  induction fuel using Nat.strongRecOn with
  | ind fuel ih =>
  intro cs x h hw
  obtain ⟨xs, n, hfu, hx, hl, hlen, hr⟩ := trod_flat Tryd.underlying24 (by kernel_rfl) (by kernel_rfl) h
  match cs, hl with
  | [c0, c1, c2, c3, c4], _ =>
  match xs, hlen with
  | [x0, x1, x2, x3, x4], _ =>
  have h0 := hr 0 _ c0 rfl rfl
  have h1 := hr 1 _ c1 rfl rfl
  have h2 := hr 2 _ c2 rfl rfl
  have h3 := hr 3 _ c3 rfl rfl
  have h4 := hr 4 _ c4 rfl rfl
  clear hr
  simp only [List.getElem?_cons_zero, List.getElem?_cons_succ] at h0 h1 h2 h3 h4
  obtain ⟨a0, e0, -, w0⟩ := DataW.trod_int Tryd.underlying3 h0
  obtain ⟨a2, e2, y2, -⟩ := DataW.trod_string Tryd.underlying9 h2
  obtain ⟨a3, e3, y3, -⟩ := DataW.trod_string Tryd.underlying9 h3
  obtain ⟨a4, e4, -, w4⟩ := DataW.trod_int Tryd.underlying3 h4
  simp only [List.cons.injEq, and_true] at e0 e2 e3 e4
  subst e0 e2 e3 e4
  have hW : ∀ (j : Nat) (t : TypeId) (d : DataW H), (([3, 22, 9, 9, 3] : List TypeId))[j]? = some t → [x0.1, x1.1, x2.1, x3.1, x4.1][j]? = some d → ∀ n ∈ d.weights Tryd.prog t, n ≤ reachBytes := by
    intro j t d ht hd m hm
    refine hw m ?_
    rw [hx]
    have hu : DataW.weights Tryd.prog 24 (.agg [x0.1, x1.1, x2.1, x3.1, x4.1]) = DataW.weightsEach Tryd.prog [3, 22, 9, 9, 3] [x0.1, x1.1, x2.1, x3.1, x4.1] := by
      rw [DataW.weights, Tryd.underlying24]
      rfl
    rw [show List.map (fun x => x.1) [x0, x1, x2, x3, x4] = [x0.1, x1.1, x2.1, x3.1, x4.1] from rfl, hu]
    exact DataW.weights_mem_each ht hd m hm
  have s2 : a2.size ≤ 140737488351232 := by
    have := hW 2 _ _ rfl rfl a2.data.toList.length (by rw [y2]; simp [DataW.weights])
    simpa [reachBytes] using this
  have s3 : a3.size ≤ 140737488351232 := by
    have := hW 3 _ _ rfl rfl a3.data.toList.length (by rw [y3]; simp [DataW.weights])
    simpa [reachBytes] using this
  have b0 := wf_i64 w0
  have b4 := wf_i64 w4
  rcases DataW.trod_slice Tryd.underlying22 h1 with ⟨e1, -⟩ | ⟨a, len, cap, elems, rest, m, hn, e1, y1, hb, hlc, hcm, hel, hi, -, -⟩
  · simp only [List.cons.injEq, and_true] at e1
    subst e1
    refine ⟨.mk a0 [] a2 a3 a4, _, _, _, _, _, rfl, NodeR.In.leaf _ w a0 a2 a3 a4, ?_⟩
    unfold NodeR.Fit kidsFit
    exact ⟨b0, b4, s2, s3, by simp, trivial⟩
  · simp only [List.cons.injEq, and_true] at e1
    subst e1
    have hC : Tryd.prog.cellsOf 24 = 5 := by kernel_rfl
    have hB : Tryd.prog.bytesOf 24 = 72 := by kernel_rfl
    rw [hC] at hi
    have W1 := hW 1 _ _ rfl rfl
    rw [y1, DataW.weights, Tryd.underlying22] at W1
    simp only [hB, List.length_map] at W1
    have hlb : len ≤ 140737488351232 := by
      have := W1 _ (List.mem_cons_self ..)
      simp only [reachBytes] at this
      omega
    have key : ∀ i, i < len → ∃ nd : NodeR, (∃ c0 c1 c2 c3 c4, w.cell? (a.add (i * 5 + 0)) = some c0 ∧ w.cell? (a.add (i * 5 + 1)) = some c1 ∧ w.cell? (a.add (i * 5 + 2)) = some c2 ∧ w.cell? (a.add (i * 5 + 3)) = some c3 ∧ w.cell? (a.add (i * 5 + 4)) = some c4 ∧ nd.In (fun _ => True) w (.agg #[c0, c1, c2, c3, c4])) ∧ nd.Fit := by
      intro i him
      have hk := hi i him
      rw [List.getElem?_eq_getElem (by omega)] at hk
      obtain ⟨cs', hc, ht⟩ := Option.bind_eq_some_iff.1 hk
      obtain ⟨nd, d0, d1, d2, d3, d4, rfl, hin, hf⟩ := ih m (by omega) cs' _ ht (fun k hk => W1 k (List.mem_cons_of_mem _ (List.mem_append_left _ (weights_mem_all (List.mem_map_of_mem (List.getElem_mem _)) k hk))))
      obtain ⟨_, _, hat⟩ := World.cells?_some hc
      refine ⟨nd, ⟨d0, d1, d2, d3, d4, ?_, ?_, ?_, ?_, ?_, hin⟩, hf⟩
      · rw [← Go.Deep.add_add, hat 0 (by omega)]; rfl
      · rw [← Go.Deep.add_add, hat 1 (by omega)]; rfl
      · rw [← Go.Deep.add_add, hat 2 (by omega)]; rfl
      · rw [← Go.Deep.add_add, hat 3 (by omega)]; rfl
      · rw [← Go.Deep.add_add, hat 4 (by omega)]; rfl
    have hch : ∃ f : Nat → NodeR, ∀ i, i < len → (∃ c0 c1 c2 c3 c4, w.cell? (a.add (i * 5 + 0)) = some c0 ∧ w.cell? (a.add (i * 5 + 1)) = some c1 ∧ w.cell? (a.add (i * 5 + 2)) = some c2 ∧ w.cell? (a.add (i * 5 + 3)) = some c3 ∧ w.cell? (a.add (i * 5 + 4)) = some c4 ∧ (f i).In (fun _ => True) w (.agg #[c0, c1, c2, c3, c4])) ∧ (f i).Fit := by
      classical
      refine ⟨fun i => if h : i < len then Classical.choose (key i h) else .zero, fun i hi' => ?_⟩
      simp only [dif_pos hi']
      exact Classical.choose_spec (key i hi')
    obtain ⟨f, hf⟩ := hch
    refine ⟨.mk a0 ((List.range len).map f) a2 a3 a4, _, _, _, _, _, rfl, ?_, ?_⟩
    · unfold NodeR.In
      refine ⟨some a, cap, by simp, by simpa using hlc, fun hne => ?_⟩
      have h0' : 0 < len := by
        rcases Nat.eq_zero_or_pos len with e | e
        · exact absurd (by rw [e]; rfl) hne
        · exact e
      obtain ⟨b, off, sp⟩ := a
      obtain ⟨⟨d0, _, _, _, _, f0, _⟩, _⟩ := hf 0 h0'
      have hsp : sp = none := by
        cases sp with
        | none => rfl
        | some q => exact absurd f0 (by simp [World.cell?, Addr.add]; split <;> simp)
      subst hsp
      refine ⟨b, off, rfl, trivial, World.block_lt_of_cell? _ _ f0, kidsIn_of _ _ (fun i hi' => ?_)⟩
      have hi'' : i < len := by simpa using hi'
      obtain ⟨⟨d0, d1, d2, d3, d4, g0, g1, g2, g3, g4, hin⟩, _⟩ := hf i hi''
      simp only [Addr.add_lit, ← Nat.add_assoc] at g0 g1 g2 g3 g4
      simp only [List.getElem_map, List.getElem_range]
      exact ⟨d0, d1, d2, d3, d4, g0, g1, g2, g3, g4, hin⟩
    · unfold NodeR.Fit
      refine ⟨b0, b4, s2, s3, by simpa using hlb, kidsFit_of _ (fun i hi' => ?_)⟩
      simp only [List.getElem_map, List.getElem_range]
      exact (hf i (by simpa using hi')).2
set_option maxRecDepth 100000 in
theorem open_node {r : Reach} {b0 : Nat} {v : Value} {d : DataW H} {p : List MemPlace} (hv : Value.okWide Tryd.prog w r b0 24 v) (h : DataW.Trod enc Tryd.prog w base spare held 24 v d p)
    (hw : ∀ n ∈ d.weights Tryd.prog 24, n ≤ reachBytes) : ∃ nd : NodeR, nd.In (fun _ => True) w v ∧ nd.Fit := by
  obtain ⟨cs, rfl, hsz⟩ := okWide_struct Tryd.underlying24 hv
  obtain ⟨fuel, hf⟩ := h
  obtain ⟨nd, c0, c1, c2, c3, c4, e, hin, hfit⟩ := open_nodeF fuel _ _ hf hw
  refine ⟨nd, ?_, hfit⟩
  have : cs = #[c0, c1, c2, c3, c4] := by
    obtain ⟨l⟩ := cs
    simpa [Value.cells] using e
  rw [this]
  exact hin
end
end Go.Proofs.YteilkcdbdpkbfaaDoor
