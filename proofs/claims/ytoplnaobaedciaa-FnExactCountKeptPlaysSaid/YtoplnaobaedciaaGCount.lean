/- The call of impl.CountKeptPlays tells in how many ways the kept game can be played, no more than a bound: the contract of that function, in the form of the print. Conditions: none. -/
import Derived.Test.YtoplnaobaedciaaPKept
import Derived.Test.YtoplnaobaedciaaGLib
import Derived.Shelf.Abstract
import Derived.Maps.OwnSet
import Derived.MapViews
import Derived.DeepKeys5
import Derived.Lib.SmallJoins
import Derived.Laws.EntriesVeiled
namespace Go.Proofs.Ytoplnaobaedciaa.All
open Go.RowKit Go.Proofs.YtoplnaobaedciaaW.PrintWords Go.Proofs.YtoplnaobaedciaaW.PrintLast Go.Proofs.YtoplnaobaedciaaW.PrintMore Go.Shelf Go.Proofs.Ytoplnaobaedciaa.PKept Go.Maps Go.Joins
attribute [local go_sem] max2_int min2_int
set_option linter.unusedVariables false
set_option linter.unusedSimpArgs false

/-! ### the count -/
def step (acc c : Int) : Int := if (1000000000000001 : Int) < acc + c then 1000000000000001 else acc + c
def cntF : Nat → S31 → Int
  | 0, _ => 0
  | s + 1, x => if x.f0 * x.f1 = 1 then 1 else (keptL x.f0 x.f1).foldl (fun acc y => step acc (cntF s y)) 0
def okB (x : S31) : Prop := 1 ≤ x.f0 ∧ x.f0 ≤ 12 ∧ 1 ≤ x.f1 ∧ x.f1 ≤ 12
theorem seg_in {g : Int → S31} {i n : Int} {x : S31} (h : x ∈ seg g i n) : ∃ j : Int, i ≤ j ∧ j < n ∧ x = g j := by
  simp only [seg, List.mem_map, List.mem_range] at h
  obtain ⟨j, hj, rfl⟩ := h
  exact ⟨i + j, by omega, by omega, rfl⟩
theorem kept_less {x y : S31} (hx : okB x) (hy : y ∈ keptL x.f0 x.f1) : okB y ∧ y.f0 + y.f1 < x.f0 + x.f1 := by
  unfold okB at hx
  rcases List.mem_append.1 hy with hy | hy
  · obtain ⟨j, h1, h2, rfl⟩ := seg_in hy
    unfold okB
    simp only
    omega
  · obtain ⟨j, h1, h2, rfl⟩ := seg_in hy
    unfold okB
    simp only
    omega
theorem foldl_same {α β : Type} {f g : β → α → β} : ∀ (l : List α) (b : β), (∀ a b, a ∈ l → f b a = g b a) → l.foldl f b = l.foldl g b
  | [], _, _ => rfl
  | x :: r, b, h => by
    rw [List.foldl_cons, List.foldl_cons, h x b (by simp)]
    exact foldl_same r _ (fun a b ha => h a b (by simp [ha]))
theorem cnt_stable : ∀ (s : Nat) (x : S31), okB x → x.f0 + x.f1 ≤ s → cntF (s + 1) x = cntF s x
  | 0, x, h, hs => by unfold okB at h; omega
  | s + 1, x, h, hs => by
    rw [cntF, cntF]
    split
    · rfl
    · refine foldl_same _ _ (fun y b hy => ?_)
      obtain ⟨h1, h2⟩ := kept_less h hy
      rw [cnt_stable s y h1 (by omega)]
def cnt (x : S31) : Int := cntF 24 x
theorem cnt_eq {x : S31} (h : okB x) : cnt x = if x.f0 * x.f1 = 1 then 1 else (keptL x.f0 x.f1).foldl (fun acc y => step acc (cnt y)) 0 := by
  have h0 := h
  unfold okB at h0
  unfold cnt
  rw [cntF]
  split
  · rfl
  · refine foldl_same _ _ (fun y b hy => ?_)
    obtain ⟨h1, h2⟩ := kept_less h hy
    rw [cnt_stable 23 y h1 (by omega)]
theorem step_in {a c : Int} (ha : 0 ≤ a ∧ a ≤ 1000000000000001) (hc : 0 ≤ c ∧ c ≤ 1000000000000001) : 0 ≤ step a c ∧ step a c ≤ 1000000000000001 := by
  unfold step
  split <;> omega
theorem fold_in {f : S31 → Int} (hf : ∀ y, 0 ≤ f y ∧ f y ≤ 1000000000000001) : ∀ (l : List S31) (a : Int), 0 ≤ a ∧ a ≤ 1000000000000001 → 0 ≤ l.foldl (fun acc y => step acc (f y)) a ∧ l.foldl (fun acc y => step acc (f y)) a ≤ 1000000000000001
  | [], _, h => h
  | x :: r, a, h => fold_in hf r _ (step_in h (hf x))
theorem cntF_in : ∀ (s : Nat) (x : S31), 0 ≤ cntF s x ∧ cntF s x ≤ 1000000000000001
  | 0, x => by simp [cntF]
  | s + 1, x => by
    rw [cntF]
    split
    · omega
    · exact fold_in (cntF_in s) _ 0 (by omega)
/-- How many entries a call may add. -/
def cost (x : S31) : Nat := 3 ^ (x.f0 + x.f1).toNat
def costs (l : List S31) : Nat := l.foldr (fun y n => cost y + n) 0
theorem costs_small : ∀ i j : Fin 12, decide (costs (keptL ((i.val : Int) + 1) ((j.val : Int) + 1)) + 1 ≤ cost ⟨(i.val : Int) + 1, (j.val : Int) + 1⟩ ∧ cost ⟨(i.val : Int) + 1, (j.val : Int) + 1⟩ ≤ 282429536481) = true := by decide +kernel
theorem costs_le {x : S31} (h : okB x) : costs (keptL x.f0 x.f1) + 1 ≤ cost x ∧ cost x ≤ 282429536481 := by
  unfold okB at h
  have h2 := costs_small ⟨(x.f0 - 1).toNat, by omega⟩ ⟨(x.f1 - 1).toNat, by omega⟩
  have e1 : (((x.f0 - 1).toNat : Nat) : Int) + 1 = x.f0 := by omega
  have e2 : (((x.f1 - 1).toNat : Nat) : Int) + 1 = x.f1 := by omega
  simp only [e1, e2, decide_eq_true_eq] at h2
  exact h2
theorem costs_take (l : List S31) (i : Nat) (h : i < l.length) : costs (l.take (i + 1)) = costs (l.take i) + cost l[i] := by
  rw [List.take_succ_eq_append_getElem h]
  unfold costs
  rw [List.foldr_append]
  have : ∀ (m : List S31) (c : Nat), m.foldr (fun y n => cost y + n) c = m.foldr (fun y n => cost y + n) 0 + c := by
    intro m c
    induction m with
    | nil => simp
    | cons y r ih => rw [List.foldr_cons, List.foldr_cons, ih]; omega
  rw [this]
  simp
theorem costs_take_le (l : List S31) (i : Nat) : costs (l.take i) ≤ costs l := by
  induction l generalizing i with
  | nil => simp [costs]
  | cons y r ih =>
    cases i with
    | zero => simp [costs]
    | succ i => rw [List.take_succ_cons]; have := ih i; simp only [costs, List.foldr_cons] at this ⊢; omega

/-! ### the map's keys -/
theorem laidOut : laidOutB Try.prog = true := by kernel_rfl
theorem row31 : (31 : TypeId) < Try.prog.types.size := of_decide_eq_true (by kernel_rfl)
theorem deep31 : Try.prog.keyTypeAt (Try.prog.types.size + 1) 31 = true := by kernel_rfl
theorem wide31 : (match Try.prog.underlying 31 with | some (.array _ _) | some (.struct _) => true | _ => false) = true := by kernel_rfl
theorem cells31 : Try.prog.cellsOf 31 = 2 := by kernel_rfl
theorem law31 : Keyed Try.prog 31 := Keyed.of_law (deep_law_laid laidOut (m := 2) (by omega) row31 (by kernel_rfl) wide31)
theorem zero3 (w : World) : (zeroValue 3).run Try.prog w = .ok (.int .i64 0) w := by kernel_rfl
def key (x : S31) : Lit := (DataW.agg [.lit (.int .i64 x.f0), .lit (.int .i64 x.f1)] : DataW Unit).asKey
theorem wf_small {a : Int} (h0 : 0 ≤ a) (h1 : a ≤ 1000000000000001) : (Lit.int .i64 a).wf = true := WalkArith.wf_i64 (by omega)
theorem formed31 {c0 c1 : Value} : (Value.agg #[c0, c1]).formed Try.prog 31 = true := by
  obtain ⟨fs, hu⟩ : ∃ fs, Try.prog.underlying 31 = some (.struct fs) := ⟨_, Try.underlying31⟩
  simp [Value.formed, hu, cells31]
theorem key_of (w : World) {x : S31} (h : okB x) : keyOf Try.prog 31 (.agg #[.int .i64 x.f0, .int .i64 x.f1]) = some (key x) := by
  unfold okB at h
  have w0 := wf_small (a := x.f0) (by omega) (by omega)
  have w1 := wf_small (a := x.f1) (by omega) (by omega)
  have t : DataW.Trod (H := Unit) (fun _ => ()) Try.prog w 0 (fun _ => true) true 31 (.agg #[.int .i64 x.f0, .int .i64 x.f1]) (.agg [.lit (.int .i64 x.f0), .lit (.int .i64 x.f1)]) [] :=
    shut_agg2 (y0 := (.lit (.int .i64 x.f0), [])) (y1 := (.lit (.int .i64 x.f1), [])) Try.underlying31 (by kernel_rfl) cells31 ⟨1, by simp [DataW.trod, Try.underlying3, w0]⟩ ⟨1, by simp [DataW.trod, Try.underlying3, w1]⟩
  exact (keyOf_asKey deep31 wide31 formed31 t).1
theorem key_inj (w : World) {x y : S31} (hx : okB x) (hy : okB y) (h : key x = key y) : x = y := by
  have := law31.inj (key_of w hx) (by rw [h]; exact key_of w hy)
  cases x; cases y
  simp at this
  simp [this]

/-- Block b holds the table: whatever it holds is right. -/
def Memo (W : World) (b n : Nat) : Prop := ∃ D : DataW Unit, W.ownsMap Try.prog 31 (plainElem Try.prog 3) b n D ∧ ∀ x : S31, okB x → Maps.has D (key x) = true → D.atKey (key x) (.lit (.int .i64 0)) = .lit (.int .i64 (cnt x))
theorem Memo.kept {W W' : World} {b n : Nat} (h : Memo W b n) (hg : W.grownBy W' none) : Memo W' b n := by
  obtain ⟨D, h1, h2⟩ := h
  exact ⟨D, h1.kept hg (by simp), h2⟩
theorem Memo.mono {W : World} {b n m : Nat} (h : Memo W b n) (hm : n ≤ m) : Memo W b m := by
  obtain ⟨D, h1, h2⟩ := h
  exact ⟨D, h1.mono hm, h2⟩

def Counts (a b : Int) (W : World) (bm n : Nat) (e : Ending) (w' : World) : Prop := e = .returned (.int .i64 (cnt ⟨a, b⟩)) ∧ Memo w' bm (n + cost ⟨a, b⟩) ∧ W.grownBy w' (some bm)

set_option maxHeartbeats 4000000 in
set_option maxRecDepth 100000 in
theorem count_any (Bk Bc bm : Nat) (hkm : Bk ≠ bm) (hcm : Bc ≠ bm) : ∀ (s : Nat) (a b : Int) (W : World) (n : Nat), okB ⟨a, b⟩ → (a + b).toNat ≤ s → Memo W bm n → n + cost ⟨a, b⟩ ≤ 1000000000000 →
    W.heap[Bk]? = some (.cells #[.map (some bm)] 50 (0, 0)) → W.heap[Bc]? = some (.cells #[.func (.func 34) #[] #[.pointer (some ⟨Bk, 0, none⟩), .pointer (some ⟨Bc, 0, none⟩)]] 46 (0, 0)) →
    Calls Try.prog 34 #[.agg #[.int .i64 a, .int .i64 b], .pointer (some ⟨Bk, 0, none⟩), .pointer (some ⟨Bc, 0, none⟩)] W (Counts a b W bm n) := by
  intro s
  induction s with
  | zero => intro a b W n h hs; unfold okB at h; simp only at h; omega
  | succ s ih =>
    intro a b W n hok hs hm hn hk hc
    have hu31 := Try.underlying31
    have hok0 := hok
    unfold okB at hok0
    simp only at hok0
    have hsq := fun w => impl_Bar_squares.calls a b (wrap64 (a * b)) w rfl
    have hab : 1 ≤ a * b ∧ a * b ≤ 144 := by
      constructor
      · have := Int.mul_le_mul_of_nonneg_right (a := 1) (b := a) (c := b) (by omega) (by omega)
        omega
      · have h5 := Int.mul_le_mul_of_nonneg_right (a := a) (b := 12) (c := b) (by omega) (by omega)
        omega
    have hwr : wrap64 (a * b) = a * b := wrap_id (by omega) (by omega)
    by_cases h1 : a * b = 1
    · -- a single square
      have hfin : cnt ⟨a, b⟩ = 1 := by rw [cnt_eq hok, if_pos h1]
      have HF := Aside0.mk hfin
      have HM := Aside0.mk hm
      rw [hwr, h1] at hsq
      clear hfin hwr h1 hm hk hc ih
      go_enter Try.func34, Try.ntmps34
      go_wp2_with (go_at_call 35; refine (hsq _).mono ?_; rintro e w1 ⟨rfl, hb1⟩)
      go_ret
      have hg : W.grownBy w1 none := World.grownBy.trans (World.grownBy_alloc _ _ _) (grown_of_below hb1 none)
      exact ⟨by rw [HF.out]; rfl, (HM.out.kept hg).mono (by omega), ⟨hg.os, hg.tape, hg.output, hg.size, fun i hi _ => hg.block i hi (by simp)⟩⟩
    · have hne : ((a * b) == 1) = false := beq_eq_false_iff_ne.2 h1
      rw [hwr] at hsq
      obtain ⟨D, hown, hmem⟩ := hm
      have HMEM := Aside0.mk hmem
      have hkey := fun w => key_of w hok
      simp only at hkey
      have hmm : n + 1 ≤ maxLen := by unfold maxLen; have := costs_le hok; omega
      have HOWN := Aside0.mk hown
      have HK := Aside0.mk hk
      have HC := Aside0.mk hc
      have HA := Aside0.mk h1
      clear hown hmem hk hc hwr h1
      cases hh : Maps.has D (key ⟨a, b⟩) with
      | true =>
        have HH := Aside0.mk hh
        clear hh ih
        go_enter Try.func34, Try.ntmps34
        go_wp2_with (first
          | (go_at_call 35; refine (hsq _).mono ?_; rintro e w1 ⟨rfl, hb1⟩; have k1 := (blk_cell (blk_below (blk_alloc HK.out _) hb1) 0).trans rfl; have p0 := (blk_cell (blk_below (blk_new W _) hb1) 0).trans rfl; have p1 := (blk_cell (blk_below (blk_new W _) hb1) 1).trans rfl; have HB1 := Aside0.mk hb1; clear hb1)
          | (at_lookup; refine wpList_lookup_own_ok_int _ rfl _ _ 50 rfl 31 3 .i64 law31 Try.underlying50 Try.underlying3 (zero3 _) bm n D rfl ((HOWN.out.alloc _).kept (grown_of_below HB1.out none) (by simp)) _ _ rfl (hkey W) ?_; intro c hat hwc; rw [HH.out]; have HAT := Aside0.mk hat; clear hat hwc))
        go_ret
        have hg : W.grownBy w1 none := World.grownBy.trans (World.grownBy_alloc _ _ _) (grown_of_below HB1.out none)
        have e2 := HMEM.out ⟨a, b⟩ hok HH.out
        rw [HAT.out] at e2
        injection e2 with e2
        injection e2 with _ e2
        refine ⟨by rw [← e2]; rfl, ⟨D, (HOWN.out.kept hg (by simp)).mono (by omega), HMEM.out⟩, ⟨hg.os, hg.tape, hg.output, hg.size, fun i hi _ => hg.block i hi (by simp)⟩⟩
      | false =>
        have HH := Aside0.mk hh
        clear hh
        obtain ⟨kk0, hkk0⟩ := impl_kept a b (by omega) (by omega)
        have hkc := fun w => impl_keptMoves.calls kk0 a b (keptL a b) w (hkk0 kk0 (Nat.le_refl _))
        clear hkk0
        have HL : Aside0 (∀ y ∈ keptL a b, okB y ∧ (y.f0 + y.f1).toNat ≤ s) := ⟨fun y hy => by
          obtain ⟨q1, q2⟩ := kept_less hok hy
          have q3 := q1
          unfold okB at q3
          simp only at q2
          exact ⟨q1, by omega⟩⟩
        have HCO : Aside0 (costs (keptL a b) + 1 ≤ cost ⟨a, b⟩) := ⟨(costs_le hok).1⟩
        have HCN : Aside0 (cnt ⟨a, b⟩ = (keptL a b).foldl (fun acc y => step acc (cnt y)) 0) := ⟨by rw [cnt_eq hok, if_neg HA.out]⟩
        have hll : (keptL a b).length ≤ 2000 := keptL_length a b (by omega) (by omega)
        generalize keptL a b = L at hkc HL HCO HCN hll
        have IH := Aside0.mk ih
        clear ih
        go_enter Try.func34, Try.ntmps34
        go_wp2_with (first
          | (go_at_call 35; refine (hsq _).mono ?_; rintro e w1 ⟨rfl, hb1⟩; have k1 := (blk_cell (blk_below (blk_alloc HK.out _) hb1) 0).trans rfl; have p0 := (blk_cell (blk_below (blk_new W _) hb1) 0).trans rfl; have p1 := (blk_cell (blk_below (blk_new W _) hb1) 1).trans rfl; have HB1 := Aside0.mk hb1; clear hb1)
          | (at_lookup; refine wpList_lookup_own_ok_int _ rfl _ _ 50 rfl 31 3 .i64 law31 Try.underlying50 Try.underlying3 (zero3 _) bm n D rfl ((HOWN.out.alloc _).kept (grown_of_below HB1.out none) (by simp)) _ _ rfl (hkey W) ?_; intro c hat hwc; rw [HH.out]; clear hat hwc)
          | (go_at_call 32; refine (hkc _).mono ?_; rintro e w2 ⟨v2, rfl, hr2, hb2⟩; obtain ⟨A0, c0, rfl, hc0, hC⟩ := Kd.R_reads hr2; have HR2 := Aside0.mk hr2; have HC2 := Aside0.mk hC; have HB2 := Aside0.mk hb2; clear hr2 hb2 hC))
        have hg2 : Aside0 (W.grownBy w2 none) := ⟨World.grownBy.trans (World.grownBy_alloc _ _ _) (World.grownBy.trans (grown_of_below HB1.out none) (grown_of_below HB2.out none))⟩
        have HP : Aside0 (w2.heap[W.heap.size]? = some (.cells #[.int .i64 a, .int .i64 b] 31 (0, 0))) := ⟨blk_below (blk_below (blk_new W _) HB1.out) HB2.out⟩
        have HOW2 := Aside0.mk (HOWN.out.kept hg2.out (by simp))
        have hbml : bm < W.heap.size := HOWN.out.lt
        have hsz1 : W.heap.size + 1 ≤ w1.heap.size := by have := HB1.out.size; simp at this; omega
        have hsz2 : w1.heap.size ≤ w2.heap.size := HB2.out.size
        clear k1 p0 p1 hsq
        go_loopg [7, 9, 24] L.length (fun gg s7 _ s24 wr => ∃ i : Nat, i ≤ L.length ∧ L.length - i ≤ gg ∧ s24 = .int .i64 i ∧ s7 = .int .i64 ((L.take i).foldl (fun acc y => step acc (cnt y)) 0) ∧ Aside0 (Memo wr bm (n + costs (L.take i))) ∧ Aside0 (w2.grownBy wr (some bm)))
        case atStart => exact ⟨0, Nat.zero_le _, by omega, rfl, rfl, ⟨⟨D, by simpa [costs] using HOW2.out, HMEM.out⟩⟩, ⟨World.grownBy.refl _ _⟩⟩
        case round =>
          obtain ⟨i, hi, hgg, rfl, rfl, HM, HG⟩ := hrel
          by_cases hlt : i < L.length
          · have hltz : (i : Int) < (L.length : Int) := by omega
            obtain ⟨gr, cap, e2, hgb, hglt, _⟩ := Kd.R_form HR2.out (by omega)
            injection e2 with e3 _ e4
            subst e3; subst e4
            obtain ⟨ce, hcl, hM, hcc, _⟩ := Kd.R_elem HR2.out z31 (i : Int) (by omega) hltz
            obtain rfl := k31_openM hM
            have hgo : wr.heap[gr]? = w2.heap[gr]? := HG.out.block gr hglt (by simp; omega)
            have tc : ∀ o, wr.cell? ⟨gr, o, none⟩ = w2.cell? ⟨gr, o, none⟩ := fun o => World.cell?_of_block (a := ⟨gr, o, none⟩) hgo
            have hx0 : wr.cell? ⟨gr, (i : Int).toNat * 2, none⟩ = some (.int .i64 (L.getD (i : Int).toNat z31).f0) := (tc _).trans (hcc 0 _ rfl)
            have hx1 : wr.cell? ⟨gr, (i : Int).toNat * 2 + 1, none⟩ = some (.int .i64 (L.getD (i : Int).toNat z31).f1) := (tc _).trans (hcc 1 _ rfl)
            clear hcl hM hcc tc hgo
            simp only [Int.toNat_natCast] at hx0 hx1
            have hin := HL.out (L.getD i z31) (by simp [List.getD_eq_getElem?_getD, hlt])
            have hcost : costs (L.take (i + 1)) = costs (L.take i) + cost (L.getD i z31) := by rw [costs_take L i hlt]; simp [List.getD_eq_getElem?_getD, hlt]
            have hfold : (L.take (i + 1)).foldl (fun acc y => step acc (cnt y)) 0 = step ((L.take i).foldl (fun acc y => step acc (cnt y)) 0) (cnt (L.getD i z31)) := by
              rw [List.take_succ_eq_append_getElem hlt, List.foldl_append]
              simp [List.getD_eq_getElem?_getD, hlt]
            have hle := costs_take_le L (i + 1)
            have hco := HCO.out
            generalize L.getD i z31 = y at hx0 hx1 hin hcost hfold
            obtain ⟨y0, y1⟩ := y
            simp only at hx0 hx1 hin
            generalize hF0 : (L.take i).foldl (fun acc y => step acc (cnt y)) 0 = F0 at hfold
            have hF1 : 0 ≤ F0 ∧ F0 ≤ 1000000000000001 := by rw [← hF0]; exact fold_in (fun y => cntF_in 24 y) _ 0 (by omega)
            have hY : 0 ≤ cnt ⟨y0, y1⟩ ∧ cnt ⟨y0, y1⟩ ≤ 1000000000000001 := cntF_in 24 ⟨y0, y1⟩
            have hk2 : wr.heap[Bk]? = some (.cells #[.map (some bm)] 50 (0, 0)) := (HG.out.block Bk (by have := hg2.out.size; have := blk_lt HK.out; omega) (by simp; exact hkm)).trans ((hg2.out.block Bk (blk_lt HK.out) (by simp)).trans HK.out)
            have hc2 : wr.heap[Bc]? = some (.cells #[.func (.func 34) #[] #[.pointer (some ⟨Bk, 0, none⟩), .pointer (some ⟨Bc, 0, none⟩)]] 46 (0, 0)) := (HG.out.block Bc (by have := hg2.out.size; have := blk_lt HC.out; omega) (by simp; exact hcm)).trans ((hg2.out.block Bc (blk_lt HC.out) (by simp)).trans HC.out)
            have hc3 : wr.cell? ⟨Bc, 0, none⟩ = some (.func (.func 34) #[] #[.pointer (some ⟨Bk, 0, none⟩), .pointer (some ⟨Bc, 0, none⟩)]) := (blk_cell hc2 0).trans rfl
            have hcall := fun o => IH.out y0 y1 (wr.alloc o) (n + costs (L.take i)) hin.1 hin.2 (HM.out.kept (World.grownBy_alloc _ _ _)) (by omega) (blk_alloc hk2 _) (blk_alloc hc2 _)
            have hst : step F0 (cnt ⟨y0, y1⟩) = if (1000000000000001 : Int) < F0 + cnt ⟨y0, y1⟩ then 1000000000000001 else F0 + cnt ⟨y0, y1⟩ := rfl
            have HC2b := blk_lt hc2
            have eg : ∀ args w, (callFunc 34 args).run Try.prog w = .ok (.enter 34 args) w := enters_of Try.func34 (by kernel_rfl) rfl
            clear hk2 hc2
            go_wp2_with (go_at_fn 34; refine (hcall _).mono ?_; rintro e w3 ⟨rfl, hm3, hg3⟩; have HM3 := Aside0.mk hm3; have HG3 := Aside0.mk hg3; clear hm3 hg3)
            all_goals (
              go_roundg (L.length - (i + 1))
              case measure => omega
              case rel =>
                refine ⟨i + 1, by omega, by omega, by go_num, ?_, ⟨HM3.out.mono (by rw [hcost]; omega)⟩, ⟨World.grownBy.trans HG.out (World.grownBy.trans (World.grownBy_alloc _ _ _) HG3.out)⟩⟩
                rw [hfold, hst]
                first
                  | rw [if_neg (by omega)]
                  | rw [if_pos (by omega)])
          · have hltz : ¬ (i : Int) < (L.length : Int) := by omega
            obtain rfl : i = L.length := by omega
            rw [List.take_length] at HM
            rw [List.take_length, ← HCN.out]
            obtain ⟨D2, hD2, hmem2⟩ := HM.out
            have HD2 := Aside0.mk hD2
            have HM2 := Aside0.mk hmem2
            clear hD2 hmem2
            have hwf : (Lit.int .i64 (cnt ⟨a, b⟩)).wf = true := wf_small (cntF_in 24 _).1 (cntF_in 24 _).2
            have hlk : Bk < wr.heap.size := by have := hg2.out.size; have := blk_lt HK.out; have := HG.out.size; omega
            have hk3 : wr.cell? ⟨Bk, 0, none⟩ = some (.map (some bm)) := (blk_cell ((HG.out.block Bk (by have := hg2.out.size; have := blk_lt HK.out; omega) (by simp; exact hkm)).trans ((hg2.out.block Bk (blk_lt HK.out) (by simp)).trans HK.out)) 0).trans rfl
            have hp3 := (HG.out.block W.heap.size (by omega) (by simp; omega)).trans HP.out
            have p0 : wr.cell? ⟨W.heap.size, 0, none⟩ = some (.int .i64 a) := (blk_cell hp3 0).trans rfl
            have p1 : wr.cell? ⟨W.heap.size, 1, none⟩ = some (.int .i64 b) := (blk_cell hp3 1).trans rfl
            clear hp3
            have hco := HCO.out
            have hroom : n + costs L < maxLen := by unfold maxLen; omega
            generalize hcv : cnt ⟨a, b⟩ = cv at hwf
            have HCV := Aside0.mk hcv
            clear hcv
            go_wp2_with (at_mapUpdate; refine wpList_mapUpdate_own _ rfl _ _ _ 50 rfl 31 3 law31 Try.underlying50 _ bm (n + costs L) D2 rfl HD2.out hroom _ _ _ rfl rfl (hkey W) _ [] (plainElem_int Try.underlying3 hwf) ?_; intro w4 hown4 hgrow4; have HO4 := Aside0.mk hown4; have HG4 := Aside0.mk hgrow4; clear hown4 hgrow4)
            go_ret
            refine ⟨by rw [HCV.out]; rfl, ⟨_, HO4.out.mono (by omega), fun x hx hhas => ?_⟩, ?_⟩
            · have hkl : WideAt.IsKeyLit (key ⟨a, b⟩) := law31.key (hkey W)
              by_cases he : key x = key ⟨a, b⟩
              · rw [he, atKey_put_same HD2.out.isMap hkl, key_inj W hx hok he, HCV.out]
              · rw [has_put_other he] at hhas
                rw [atKey_put_other he]
                exact HM2.out x hx hhas
            · have hg := World.grownBy.trans HG.out HG4.out
              exact ⟨hg.os.trans hg2.out.os, hg.tape.trans hg2.out.tape, hg.output.trans hg2.out.output, Nat.le_trans hg2.out.size hg.size, fun i hi hne => (hg.block i (Nat.lt_of_lt_of_le hi hg2.out.size) hne).trans (hg2.out.block i hi (by simp))⟩
/-! ### the function itself -/
def impl_CountKeptPlays.f (a0_0 : Int) (a0_1 : Int) : Option (Int × Bool) := (impl_isBar.f a0_0 a0_1).bind fun t => if t = true then (if 1 ≤ a0_0 ∧ a0_0 ≤ 12 ∧ 1 ≤ a0_1 ∧ a0_1 ≤ 12 then (if cnt ⟨a0_0, a0_1⟩ > 1000000000000000 then some (0, false) else some (cnt ⟨a0_0, a0_1⟩, true)) else none) else some (0, false)

set_option maxHeartbeats 4000000 in
set_option maxRecDepth 100000 in
theorem impl_CountKeptPlays.calls (a0_0 : Int) (a0_1 : Int) (r1 : Int) (r2 : Bool) (w : World) (h : impl_CountKeptPlays.f a0_0 a0_1 = some (r1, r2)) :
    Calls Try.prog 18 #[.agg #[.int .i64 a0_0, .int .i64 a0_1]] w fun e w' => e = .returned (.tuple #[.int .i64 r1, .bool r2]) ∧ Below w.heap.size w w' := by
  have hu31 := Try.underlying31
  unfold impl_CountKeptPlays.f at h
  obtain ⟨t, ht, h2⟩ := Option.bind_eq_some_iff.mp h
  clear h
  have hib := fun w => impl_isBar.calls a0_0 a0_1 t w ht
  clear ht
  cases t with
  | false =>
    simp only [Bool.false_eq_true, if_false, Option.some.injEq, Prod.mk.injEq] at h2
    obtain ⟨rfl, rfl⟩ := h2
    go_enter Try.func18, Try.ntmps18
    go_wp2_with (go_at_call 30; refine (hib _).mono ?_; rintro e w1 ⟨rfl, hb1⟩; have HB1 := Aside0.mk hb1; clear hb1)
    go_ret2
    exact ⟨rfl, below_then (below_alloc (Below.refl _ _) _) (by simp) HB1.out⟩
  | true =>
    rw [if_pos rfl] at h2
    by_cases hok : 1 ≤ a0_0 ∧ a0_0 ≤ 12 ∧ 1 ≤ a0_1 ∧ a0_1 ≤ 12
    · rw [if_pos hok] at h2
      have hmm := @run_makeMap Try.prog
      have HOK : okB ⟨a0_0, a0_1⟩ := hok
      have hcost : cost ⟨a0_0, a0_1⟩ ≤ 1000000000000 := by have := (costs_le HOK).2; omega
      have eg : ∀ args w, (callFunc 34 args).run Try.prog w = .ok (.enter 34 args) w := enters_of Try.func34 (by kernel_rfl) rfl
      go_enter Try.func18, Try.ntmps18
      have hfun : ∀ (w1 : World), Calls Try.prog 34 #[.agg #[.int .i64 a0_0, .int .i64 a0_1], .pointer (some ⟨w1.heap.size + 1, 0, none⟩), .pointer (some ⟨w1.heap.size + 1 + 1, 0, none⟩)] (((w1.alloc (.map #[] 0)).alloc (.cells #[.map (some w1.heap.size)] 50)).alloc (.cells #[.func (.func 34) #[] #[.pointer (some ⟨w1.heap.size + 1, 0, none⟩), .pointer (some ⟨w1.heap.size + 1 + 1, 0, none⟩)]] 46)) (fun e w' => e = .returned (.int .i64 (cnt ⟨a0_0, a0_1⟩)) ∧ Below w1.heap.size w1 w') := by
        intro w1
        have hn : w1.heap.size + 1 + 1 = ((w1.alloc (.map #[] 0)).alloc (.cells #[.map (some w1.heap.size)] 50)).heap.size := by simp
        have hn2 : w1.heap.size + 1 = (w1.alloc (.map #[] 0)).heap.size := by simp
        have b1 : (((w1.alloc (.map #[] 0)).alloc (.cells #[.map (some w1.heap.size)] 50)).alloc (.cells #[.func (.func 34) #[] #[.pointer (some ⟨w1.heap.size + 1, 0, none⟩), .pointer (some ⟨w1.heap.size + 1 + 1, 0, none⟩)]] 46)).heap[w1.heap.size + 1]? = some (.cells #[.map (some w1.heap.size)] 50 (0, 0)) := by
          refine blk_alloc ?_ _
          rw [hn2]
          exact blk_new _ _
        have b2 : (((w1.alloc (.map #[] 0)).alloc (.cells #[.map (some w1.heap.size)] 50)).alloc (.cells #[.func (.func 34) #[] #[.pointer (some ⟨w1.heap.size + 1, 0, none⟩), .pointer (some ⟨w1.heap.size + 1 + 1, 0, none⟩)]] 46)).heap[w1.heap.size + 1 + 1]? = some (.cells #[.func (.func 34) #[] #[.pointer (some ⟨w1.heap.size + 1, 0, none⟩), .pointer (some ⟨w1.heap.size + 1 + 1, 0, none⟩)]] 46 (0, 0)) := by
          rw [hn]
          exact blk_new _ _
        have hmemo : Memo (((w1.alloc (.map #[] 0)).alloc (.cells #[.map (some w1.heap.size)] 50)).alloc (.cells #[.func (.func 34) #[] #[.pointer (some ⟨w1.heap.size + 1, 0, none⟩), .pointer (some ⟨w1.heap.size + 1 + 1, 0, none⟩)]] 46)) w1.heap.size 0 := by
          refine ⟨.map [], (((World.ownsMap_made w1 Try.prog 31 (plainElem Try.prog 3)).alloc _).alloc _), fun x _ h => ?_⟩
          simp [Maps.has] at h
        refine (count_any (w1.heap.size + 1) (w1.heap.size + 1 + 1) w1.heap.size (by omega) (by omega) (a0_0 + a0_1).toNat a0_0 a0_1 _ 0 HOK (Nat.le_refl _) hmemo (by omega) b1 b2).mono ?_
        rintro e w' ⟨rfl, _, hg⟩
        refine ⟨rfl, Below.grown ?_ hg ?_ ?_⟩
        · exact ((((Below.refl _ w1).alloc (Nat.le_refl _) _).alloc (by simp) _).alloc (by simp; omega) _)
        · simp; omega
        · intro k hk
          injection hk with hk
          omega
      generalize cnt ⟨a0_0, a0_1⟩ = cv at hfun h2
      clear hcost HOK
      go_wp2_with (first
        | (go_at_call 30; refine (hib _).mono ?_; rintro e w1 ⟨rfl, hb1⟩; have p0 := (blk_cell (blk_below (blk_new w _) hb1) 0).trans rfl; have p1 := (blk_cell (blk_below (blk_new w _) hb1) 1).trans rfl; have q0 : ∀ o1 o2 o3, (((w1.alloc o1).alloc o2).alloc o3).cell? ⟨w.heap.size, 0, none⟩ = some (.int .i64 a0_0) := (fun o1 o2 o3 => (blk_cell (blk_alloc (blk_alloc (blk_alloc (blk_below (blk_new w _) hb1) o1) o2) o3) 0).trans rfl); have q1 : ∀ o1 o2 o3, (((w1.alloc o1).alloc o2).alloc o3).cell? ⟨w.heap.size, 1, none⟩ = some (.int .i64 a0_1) := (fun o1 o2 o3 => (blk_cell (blk_alloc (blk_alloc (blk_alloc (blk_below (blk_new w _) hb1) o1) o2) o3) 1).trans rfl); have HB1 := Aside0.mk hb1; have hlw1 : w.heap.size < w1.heap.size := (by have := hb1.size; simp at this; omega); clear hb1)
        | (go_at_fn 34; refine (hfun w1).mono ?_; rintro e w3 ⟨rfl, hb3⟩; have HB3 := Aside0.mk hb3; clear hb3))
      all_goals (
        go_ret2
        first
          | rw [if_pos (by omega)] at h2
          | rw [if_neg (by omega)] at h2
        simp only [Option.some.injEq, Prod.mk.injEq] at h2
        obtain ⟨rfl, rfl⟩ := h2
        exact ⟨rfl, below_then (below_then (below_alloc (Below.refl _ _) _) (by simp) HB1.out) (Nat.le_of_lt hlw1) HB3.out⟩)
    · rw [if_neg hok] at h2
      cases h2

end Go.Proofs.Ytoplnaobaedciaa.All
