/- The table of the numbers of bites, as a plain list; the best bite as the reference and the program find it. Conditions: chomps of at most six rows of one to six squares. -/
import Derived.Test.YtnmibkkchgagbaaDoorPFateAll
namespace Go.Proofs.YtnmibkkchgagbaaDoor.PQuick
open Go.RowKit Go.Proofs.YtnmibkkchgagbaaDoor.All Go.Proofs.YtnmibkkchgagbaaDoorW.PrintWords Go.Proofs.YtnmibkkchgagbaaDoorW.PrintLast Go.Proofs.YtnmibkkchgagbaaDoor.PEv Go.Proofs.YtnmibkkchgagbaaDoor.PChomp Go.Proofs.YtnmibkkchgagbaaDoor.PAll Go.Proofs.YtnmibkkchgagbaaDoor.PHeaps Go.Proofs.YtnmibkkchgagbaaDoor.PFate
set_option linter.unusedVariables false
set_option linter.unusedSimpArgs false

/-! ### the table of the numbers of bites -/
def lput (T : List Int) (r : List Int) : List Int := T.set (kv r).toNat (fate r).2
def lb (L : List (List Int)) : List Int := L.foldl lput (List.replicate 117649 0)
theorem lfold_len : ∀ (L : List (List Int)) (T : List Int), (L.foldl lput T).length = T.length
  | [], T => rfl
  | r :: L, T => by rw [List.foldl_cons, lfold_len L, lput, List.length_set]
theorem lb_len (L : List (List Int)) : (lb L).length = 117649 := by
  unfold lb
  rw [lfold_len, List.length_replicate]
theorem lb_snoc (L : List (List Int)) (r : List Int) : lb (L ++ [r]) = lput (lb L) r := by
  unfold lb
  rw [List.foldl_append]
  rfl
theorem lfold_at : ∀ (L : List (List Int)) (T : List Int) (s : List Int), (∀ r ∈ L, kv r ≠ kv s ∧ 0 ≤ kv r) → 0 ≤ kv s → (L.foldl lput T).getD (kv s).toNat 0 = T.getD (kv s).toNat 0
  | [], T, s, _, _ => rfl
  | r :: L, T, s, h, h0 => by
    have hr := h r (by simp)
    rw [List.foldl_cons, lfold_at L _ s (fun q hq => h q (by simp [hq])) h0, lput, List.getD_eq_getElem?_getD, List.getElem?_set_ne (by omega), ← List.getD_eq_getElem?_getD]
theorem lb_at {L : List (List Int)} (hok : ∀ r ∈ L, ok6 r) (hs : L.Pairwise (fun a b => kv a < kv b)) {s : List Int} (hm : s ∈ L) : (lb L).getD (kv s).toNat 0 = (fate s).2 := by
  obtain ⟨p, q, rfl⟩ := List.append_of_mem hm
  rw [List.pairwise_append, List.pairwise_cons] at hs
  have h0 := kv_in (hok s (by simp))
  unfold lb
  rw [List.foldl_append, List.foldl_cons, lfold_at q _ s (fun r hr => ⟨fun e => by have := hs.2.1.1 r hr; omega, (kv_in (hok r (by simp [hr]))).1⟩) h0.1]
  have hl : (p.foldl lput (List.replicate 117649 0)).length = 117649 := by rw [lfold_len, List.length_replicate]
  generalize p.foldl lput (List.replicate 117649 0) = T at hl ⊢
  unfold lput
  rw [List.getD_eq_getElem?_getD, List.getElem?_set_self (by omega), Option.getD_some]

/-! ### the best bite, as the reference finds it -/
def stp (W : Bool) (b : Int) (q : Int × Int) : Int := if W = true ∧ 0 < q.1 then b else if b < 0 ∨ (W = true ∧ q.2 + 1 < b) ∨ (W = false ∧ b < q.2 + 1) then q.2 + 1 else b
theorem stp_won : ∀ (fs : List (Int × Int)) (b : Int), (∀ q ∈ fs, 0 ≤ q.1) → fs.foldl (stp true) b = fs.foldl qks b
  | [], b, _ => rfl
  | q :: r, b, h => by
    have h0 := h q (by simp)
    rw [List.foldl_cons, List.foldl_cons, ← stp_won r _ (fun p hp => h p (by simp [hp]))]
    congr 1
    unfold stp qks
    by_cases hz : q.1 = 0
    · rw [if_neg (by omega)]
      by_cases hb : b < 0 ∨ q.2 + 1 < b
      · rw [if_pos (by rcases hb with hb | hb; exact .inl hb; exact .inr (.inl ⟨rfl, hb⟩)), if_pos ⟨hz, hb⟩]
      · rw [if_neg (by rintro (h1 | ⟨_, h1⟩ | ⟨h1, _⟩); exact hb (.inl h1); exact hb (.inr h1); cases h1), if_neg (fun h => hb h.2)]
    · rw [if_pos ⟨rfl, by omega⟩, if_neg (fun h => hz h.1)]
theorem stp_lost : ∀ (fs : List (Int × Int)) (b : Int), -1 ≤ b → (∀ q ∈ fs, 0 ≤ q.2) → (if 0 > fs.foldl (stp false) b then 0 else fs.foldl (stp false) b) = fs.foldl lgs (if 0 > b then 0 else b)
  | [], b, _, _ => rfl
  | q :: r, b, hb, h => by
    have h0 := h q (by simp)
    have e1 : stp false b q = if b < 0 ∨ b < q.2 + 1 then q.2 + 1 else b := by
      unfold stp
      rw [if_neg (by rintro ⟨h1, _⟩; cases h1)]
      by_cases hc : b < 0 ∨ b < q.2 + 1
      · rw [if_pos (by rcases hc with hc | hc; exact .inl hc; exact .inr (.inr ⟨rfl, hc⟩)), if_pos hc]
      · rw [if_neg (by rintro (h1 | ⟨h1, _⟩ | ⟨_, h1⟩); exact hc (.inl h1); cases h1; exact hc (.inr h1)), if_neg hc]
    rw [List.foldl_cons, List.foldl_cons, stp_lost r _ (by rw [e1]; split <;> omega) (fun p hp => h p (by simp [hp]))]
    congr 1
    rw [e1]
    unfold lgs
    split <;> split <;> split <;> omega
theorem qks_none : ∀ (fs : List (Int × Int)) (b : Int), (∀ q ∈ fs, q.1 ≠ 0) → fs.foldl qks b = b
  | [], b, _ => rfl
  | q :: r, b, h => by
    rw [List.foldl_cons, qks, if_neg (fun e => h q (by simp) e.1)]
    exact qks_none r b (fun p hp => h p (by simp [hp]))
theorem qks_keep : ∀ (fs : List (Int × Int)) (b : Int), 0 ≤ b → (∀ q ∈ fs, 0 ≤ q.2) → 0 ≤ fs.foldl qks b
  | [], b, h, _ => h
  | q :: r, b, h, hq => by
    have h0 := hq q (by simp)
    rw [List.foldl_cons]
    refine qks_keep r _ ?_ (fun p hp => hq p (by simp [hp]))
    unfold qks
    split <;> omega
theorem qks_some : ∀ (fs : List (Int × Int)) (b : Int), (∀ q ∈ fs, 0 ≤ q.2) → (∃ q ∈ fs, q.1 = 0) → 0 ≤ fs.foldl qks b
  | [], b, _, h => by simp at h
  | q :: r, b, hq, ⟨p, hp, hz⟩ => by
    have h0 := hq q (by simp)
    rw [List.foldl_cons]
    by_cases e : q.1 = 0
    · refine qks_keep r _ ?_ (fun p hp => hq p (by simp [hp]))
      unfold qks
      split
      · omega
      · next hn =>
        have : ¬ b < 0 := fun h => hn ⟨e, .inl h⟩
        omega
    · rcases List.mem_cons.1 hp with rfl | hp
      · exact absurd hz e
      · exact qks_some r _ (fun p hp => hq p (by simp [hp])) ⟨p, hp, hz⟩
/-- What both find. -/
theorem best_eq {l : List Int} (hok : ok6 l) : (if 0 > (mv l).foldl (fun b m => stp (decide ((fate l).1 + 1 > 1)) b (fate (nx l m))) (-1) then 0 else (mv l).foldl (fun b m => stp (decide ((fate l).1 + 1 > 1)) b (fate (nx l m))) (-1)) = (fate l).2 := by
  have hin : ∀ q ∈ (mv l).map (fun m => fate (nx l m)), 0 ≤ q.1 ∧ 0 ≤ q.2 := fun q hq => by
    obtain ⟨m, hm, rfl⟩ := List.mem_map.1 hq
    have := fate_in (nx_ok hok hm).1
    omega
  have hml := mv_len hok
  have e1 : ∀ W, (mv l).foldl (fun b m => stp W b (fate (nx l m))) (-1) = ((mv l).map (fun m => fate (nx l m))).foldl (stp W) (-1) := fun W => by rw [List.foldl_map]
  rw [e1, fate_eq hok]
  have hlen : ((mv l).map (fun m => fate (nx l m))).length ≤ 36 := by rw [List.length_map]; exact hml
  generalize (mv l).map (fun m => fate (nx l m)) = fs at hin hlen ⊢
  obtain ⟨V, hV, hmx, hVn, hVin⟩ := mex_ex (fs.map (·.1)) (by rw [List.length_map]; omega)
  unfold own
  simp only
  rw [hmx]
  by_cases hv : V = 0
  · subst hv
    have hno : ∀ q ∈ fs, q.1 ≠ 0 := fun q hq e => hVn (List.mem_map.2 ⟨q, hq, e⟩)
    rw [decide_eq_false (by omega), stp_lost fs (-1) (by omega) (fun q hq => (hin q hq).2), qks_none fs (-1) hno, if_pos (by omega), if_neg (by omega)]
  · have hyes : ∃ q ∈ fs, q.1 = 0 := by
      obtain ⟨q, hq, e⟩ := List.mem_map.1 (hVin 0 (by omega))
      exact ⟨q, hq, e⟩
    have h0 := qks_some fs (-1) (fun q hq => (hin q hq).2) hyes
    rw [decide_eq_true (by omega), stp_won fs (-1) (fun q hq => (hin q hq).1), if_neg (by omega), if_pos (by omega)]
def qres (l : List Int) : Int × Bool := if isC l = true ∧ 0 < (fate l).1 then ((fate l).2, true) else (0, false)
end Go.Proofs.YtnmibkkchgagbaaDoor.PQuick
