/- slices.IndexFunc and slices.DeleteFunc over lists of lists; spec.cmAll and impl.chomps list all chomps that fit into a bar: their contracts. Conditions: the function value's own contract; a bar of at most six times six. -/
import Derived.Test.YtnmibkkchgagbaaDoorAx3
import Derived.Test.YtnmibkkchgagbaaDoorGBase
import Derived.Shelf.Abstract
import Derived.Test.YtnmibkkchgagbaaDoorPFateAll
import Derived.Test.YtnmibkkchgagbaaDoorAx2
import Derived.Lib.SmallJoins
import Derived.Laws.EntriesVeiled
import Derived.StillTailTactics
import Derived.BigQuiet
import Derived.RegionTactic
import Derived.BigRegion
import Derived.Deep.RegionHeld3
import Derived.Deep.CutRange
import Derived.Deep.DeepCutAuto
namespace Go.Proofs.YtnmibkkchgagbaaDoor.All
open Go.RowKit Go.Proofs.YtnmibkkchgagbaaDoorW.PrintWords Go.Proofs.YtnmibkkchgagbaaDoorW.PrintLast Go.Proofs.YtnmibkkchgagbaaDoorW.PrintMore Go.Shelf Go.Proofs.YtnmibkkchgagbaaDoor.G
set_option linter.unusedVariables false
set_option linter.unusedSimpArgs false

/-- What has changed lies in the blocks of S, or is new. -/
structure Chg (w w' : World) (S : Nat → Prop) : Prop where
  os : w'.os = w.os
  tape : w'.tape = w.tape
  output : w'.output = w.output
  size : w.heap.size ≤ w'.heap.size
  block : ∀ j, j < w.heap.size → ¬ S j → w'.heap[j]? = w.heap[j]?
section
variable {w w1 w2 : World} {S S' : Nat → Prop}
theorem Chg.refl (w : World) (S : Nat → Prop) : Chg w w S := ⟨rfl, rfl, rfl, Nat.le_refl _, fun _ _ _ => rfl⟩
theorem Chg.then_ (h : Chg w w1 S) (k : Chg w1 w2 S') (hs : ∀ j, S' j → S j ∨ w.heap.size ≤ j) : Chg w w2 S :=
  ⟨k.os.trans h.os, k.tape.trans h.tape, k.output.trans h.output, Nat.le_trans h.size k.size, fun j hj hn => (k.block j (Nat.lt_of_lt_of_le hj h.size) (fun h2 => (hs j h2).elim hn (fun h3 => by omega))).trans (h.block j hj hn)⟩
theorem Chg.of_grown {row : Option Nat} (h : w.grownBy w1 row) : Chg w w1 (fun j => some j = row) := ⟨h.os, h.tape, h.output, h.size, fun j hj hn => h.block j hj hn⟩
theorem Chg.of_below (h : Below w.heap.size w w1) : Chg w w1 (fun _ => False) := ⟨h.os, h.tape, h.output, h.size, fun j hj _ => h.block j hj⟩
theorem Chg.below (h : Chg w w1 (fun _ => False)) : Below w.heap.size w w1 := ⟨h.os, h.tape, h.output, h.size, fun j hj => h.block j hj (fun h => h)⟩
theorem Chg.mono (h : Chg w w1 S) (hs : ∀ j, S j → S' j) : Chg w w1 S' := ⟨h.os, h.tape, h.output, h.size, fun j hj hn => h.block j hj (fun h2 => hn (hs j h2))⟩
end
theorem set_grown (w : World) (g o : Nat) (u : Value) : w.grownBy (w.setCell ⟨g, o, none⟩ u) (some g) :=
  ⟨rfl, rfl, rfl, by simp [World.setCell], fun i _ hne => Below.heap_setCell _ _ _ _ (fun e => hne (by rw [e]))⟩
theorem setCells_grown (g : Nat) : ∀ (vs : List Value) (o : Nat) (w : World), w.grownBy (w.setCells g o vs) (some g)
  | [], o, w => ⟨rfl, rfl, rfl, Nat.le_refl _, fun _ _ _ => rfl⟩
  | v :: r, o, w => World.grownBy.trans (set_grown w g o v) (setCells_grown g r (o + 1) _)

abbrev Rw (f : Nat → Nat) : Kd (List Int × Nat) := Kd.tag f (Kd.slice 3 (Kd.int .i64))
/-- Behind a sieve the elements' rows still lie apart. -/
theorem S_sieve {f : Nat → Nat} {w : World} {base : Nat} {ok : Nat → Prop} {v : Value} {zs : List (List Int × Nat)} (h : (Rw f).R 22 w base ok v zs) (hn : (zs.map (·.2)).Nodup) : Kd.S (Kd.slice 3 (Kd.int .i64)) 22 w base ok v (zs.map (·.1)) := by
  obtain ⟨h0, inner, ho, hr⟩ := h
  refine ⟨fun k => (zs.map (·.2)).idxOf (f k), h0, inner, by rw [List.length_zipIdx, List.length_map]; exact ho, by rw [List.length_zipIdx, List.length_map]; exact hr.1, fun j p hj => ?_⟩
  rw [List.getElem?_zipIdx, Nat.zero_add, List.getElem?_map, Option.map_map] at hj
  obtain ⟨x, hx, rfl⟩ := Option.map_eq_some_iff.1 hj
  refine (Kd.slice 3 (Kd.int .i64)).M_mono (fun b hb => ⟨hb.1, ?_⟩) (hr.2 j x hx)
  have h2 : f b = x.2 := hb.2
  obtain ⟨hjl, hxe⟩ := List.getElem?_eq_some_iff.1 hx
  have hjl2 : j < (zs.map (·.2)).length := by rw [List.length_map]; exact hjl
  have h3 := hn.idxOf_getElem j hjl2
  simp only [List.getElem_map, hxe] at h3
  show (zs.map (·.2)).idxOf (f b) = j
  rw [h2]
  exact h3
theorem sieve_fst (p : List Int → Bool) (l : List (List Int)) : (l.zipIdx.filter (fun z => !p z.1)).map (·.1) = l.filter (fun x => !p x) := by
  have : ∀ (l : List (List Int)) (n : Nat), ((l.zipIdx n).filter (fun z => !p z.1)).map (·.1) = l.filter (fun x => !p x) := by
    intro l
    induction l with
    | nil => intro n; rfl
    | cons x r ih =>
      intro n
      rw [List.zipIdx_cons]
      cases h : p x
      · rw [List.filter_cons_of_pos (by simp [h]), List.filter_cons_of_pos (by simp [h]), List.map_cons, ih]
      · rw [List.filter_cons_of_neg (by simp [h]), List.filter_cons_of_neg (by simp [h]), ih]
  exact this l 0
theorem sieve_nodup (q : List Int × Nat → Bool) (l : List (List Int)) : ((l.zipIdx.filter q).map (·.2)).Nodup := by
  refine List.Nodup.sublist (List.filter_sublist.map _) ?_
  have : l.zipIdx.map (·.2) = List.range l.length := by
    apply List.ext_getElem?
    intro j
    rw [List.getElem?_map, List.getElem?_zipIdx, Option.map_map]
    by_cases h : j < l.length
    · simp [h]
    · simp [h]
  rw [this]
  exact List.nodup_range

section
variable (g : Nat) (lb : Array Value) (eg : ∀ args w, (callFunc g args).run Tryd.prog w = .ok (.enter g args) w) (p : List Int → Bool) (bo : Option Nat) (I : World → Prop) (f : Nat → Nat) (base : Nat) (ok : Nat → Prop) (zs : List (List Int × Nat))
  (hok : ∀ k, ok k → some k ≠ bo)
  (hp : ∀ (W : World) (x : List Int) (A : Option Addr) (c : Nat), x ∈ zs.map (·.1) → I W → Kd.C (Kd.int .i64) W A x.length x → x.length ≤ c → Calls Tryd.prog g (#[.slice A x.length c] ++ lb) W fun e w' => e = .returned (.bool (p x)) ∧ I w' ∧ W.grownBy w' bo)
include eg hok hp
set_option maxHeartbeats 4000000 in
theorem index_rows (v0 : Value) (w : World) (hI0 : I w) (hR0 : (Rw f).R 22 w base ok v0 zs) :
    Calls Tryd.prog 68 #[v0, .func (.func g) #[] lb] w fun e w' => e = .returned (.int .i64 (idxOf (fun z => p z.1) zs 0)) ∧ I w' ∧ w.grownBy w' bo := by
  obtain ⟨A0, c0, rfl, hc0, hC⟩ := Kd.R_reads hR0
  have hl : zs.length ≤ 9223372036854775807 := hC.2.1
  have HR := Aside0.mk hR0
  have HI := Aside0.mk hI0
  have HP := Aside0.mk hp
  have HOK := Aside0.mk hok
  clear hC hR0 hI0 hp hok
  go_enter Tryd.func68, Tryd.ntmps68
  go_wp2
  go_loopg [5, 8] zs.length (fun gg _ s8 wr => ∃ kk : Nat, kk ≤ zs.length ∧ zs.length - kk ≤ gg ∧ s8 = .int .i64 kk ∧ Aside0 (I wr) ∧ Aside0 (w.grownBy wr bo) ∧ Aside0 (∀ j, j < kk → p (zs.getD j ([], 0)).1 = false))
  case atStart => exact ⟨0, Nat.zero_le _, by omega, rfl, HI, ⟨⟨rfl, rfl, rfl, Nat.le_refl _, fun _ _ _ => rfl⟩⟩, ⟨fun j hj => absurd hj (Nat.not_lt_zero _)⟩⟩
  case round =>
    clear HI
    obtain ⟨kk, hkk, hg, rfl, HI, HG, AF⟩ := hrel
    by_cases hlt : kk < zs.length
    · have hltz : (kk : Int) < (zs.length : Int) := by omega
      have HRW := Aside0.mk (Kd.R_grown HR.out HG.out HOK.out)
      obtain ⟨gr, cap, e2, hgb, hglt, _⟩ := Kd.R_form HR.out (by omega)
      injection e2 with e3 _ e4
      subst e3; subst e4
      obtain ⟨cs, hcl, hM, hcc, hfr⟩ := Kd.R_elem HRW.out (([], 0) : List Int × Nat) (kk : Int) (by omega) hltz
      obtain ⟨vi, rfl, hRi⟩ := hM
      have hx0 : wr.cell? ⟨gr, (kk : Int).toNat * 1, none⟩ = some vi := hcc 0 _ rfl
      simp only [Int.toNat_natCast, Nat.mul_one] at hx0 hRi
      obtain ⟨Ai, ci, rfl, hci, hCi⟩ := Kd.R_reads hRi
      have hmem : (zs.getD kk ([], 0)).1 ∈ zs.map (·.1) := List.mem_map.2 ⟨zs[kk], List.getElem_mem hlt, by simp [List.getD_eq_getElem?_getD, hlt]⟩
      have hcall := HP.out wr _ Ai ci hmem HI.out hCi hci
      clear hcl hcc hfr hRi hCi hmem hci
      have B : Aside0 (p (zs.getD kk ([], 0)).1 = p (zs.getD kk ([], 0)).1) := ⟨rfl⟩
      generalize hy : (zs.getD kk ([], 0)).1 = y at hx0 hcall
      have HY := Aside0.mk hy
      clear hy B
      cases hq : p y with
      | true =>
        rw [hq] at hcall
        go_wp2_with (go_at_fn g; refine hcall.mono ?_; rintro e w' ⟨rfl, hi', hg'⟩; have HI2 := Aside0.mk hi'; have HG2 := Aside0.mk hg'; clear hi' hg')
        go_ret
        refine ⟨?_, HI2.out, World.grownBy.trans HG.out HG2.out⟩
        rw [idxOf_hit (fun z => p z.1) ([], 0) zs 0 kk hlt (by rw [HY.out]; exact hq) AF.out]
        simp
      | false =>
        rw [hq] at hcall
        go_wp2_with (go_at_fn g; refine hcall.mono ?_; rintro e w' ⟨rfl, hi', hg'⟩; have HI2 := Aside0.mk hi'; have HG2 := Aside0.mk hg'; clear hi' hg')
        go_roundg (zs.length - (kk + 1))
        case measure => omega
        case rel =>
          refine ⟨kk + 1, by omega, by omega, by go_num, HI2, ⟨World.grownBy.trans HG.out HG2.out⟩, ⟨fun j hj => ?_⟩⟩
          by_cases e : j = kk
          · subst e
            rw [HY.out]; exact hq
          · exact AF.out j (by omega)
    · have hltz : ¬ (kk : Int) < (zs.length : Int) := by omega
      have hk : kk = zs.length := by omega
      subst hk
      go_wp2
      go_ret
      refine ⟨?_, HI.out, HG.out⟩
      rw [idxOf_miss (fun z => p z.1) ([], 0) zs 0 AF.out]
      rfl
set_option maxHeartbeats 4000000 in
theorem delete_rows (hIs : ∀ W W' row, I W → W.grownBy W' row → (∀ k, row = some k → ok k) → I W') (v0 : Value) (w : World) (hI0 : I w) (hR0 : (Rw f).R 22 w base ok v0 zs) :
    Calls Tryd.prog 52 #[v0, .func (.func g) #[] lb] w fun e w' => ∃ v' : Value, e = .returned v' ∧ (Rw f).R 22 w' base ok v' (zs.filter fun z => !p z.1) ∧ I w' ∧ Chg w w' (fun j => some j = bo ∨ some j = v0.ownBlock) := by
  have hIF := index_rows g lb eg p bo I f base ok zs hok hp v0 w hI0 hR0
  obtain ⟨A0, c0, rfl, hc0, hC⟩ := Kd.R_reads hR0
  have hl : zs.length ≤ 9223372036854775807 := hC.2.1
  have HR := Aside0.mk hR0
  have HI := Aside0.mk hI0
  have HP := Aside0.mk hp
  have HOK := Aside0.mk hok
  have HIS := Aside0.mk hIs
  clear hC hR0 hI0 hp hok hIs
  rcases idxOf_spec (fun z => p z.1) (([], 0) : List Int × Nat) zs 0 with ⟨e1, hn⟩ | ⟨k0, hk0, e1, ht, hn⟩
  · rw [e1] at hIF
    rw [filter_none (p := fun z => p z.1) ([], 0) hn]
    clear hn e1
    go_enter Tryd.func52, Tryd.ntmps52
    go_wp2_with (go_at_call 68; refine hIF.mono ?_; rintro e w' ⟨rfl, hi', hg'⟩; have HI2 := Aside0.mk hi'; have HG2 := Aside0.mk hg'; clear hi' hg')
    go_ret
    exact ⟨_, rfl, Kd.R_grown HR.out HG2.out HOK.out, HI2.out, (Chg.of_grown HG2.out).mono (fun j hj => .inl hj)⟩
  · rw [e1, Nat.zero_add] at hIF
    have hne1 : ((k0 : Int) == -1) = false := beq_eq_false_iff_ne.2 (by omega)
    have SV : Aside0 (Sieve (fun z => p z.1) zs k0 (k0 + 1) zs) := ⟨Sieve.start ([], 0) hk0 ht hn⟩
    obtain ⟨gr, cap, e2, hgb, hglt, _⟩ := Kd.R_form HR.out (by omega)
    injection e2 with e3 _ e4
    subst e3; subst e4
    have hokg : ok gr := HR.out.1 gr (by simp [Value.ownBlock])
    clear hn e1 ht
    go_enter Tryd.func52, Tryd.ntmps52
    go_wp2_with (go_at_call 68; refine hIF.mono ?_; rintro e w' ⟨rfl, hi', hg'⟩; have HI2 := Aside0.mk hi'; have HG2 := Aside0.mk hg'; clear hi' hg')
    clear hIF
    go_loopg [5, 6, 7] zs.length (fun gg s5 s6 _ wr => ∃ (i j : Nat) (L : List (List Int × Nat)), s5 = .int .i64 i ∧ s6 = .int .i64 j ∧ j ≤ zs.length ∧ i < j ∧ zs.length - j ≤ gg ∧ Aside0 (I wr) ∧ Aside0 (Chg w wr (fun j => some j = bo ∨ j = gr)) ∧ Aside0 ((Rw f).R 22 wr base ok (.slice (some ⟨gr, 0, none⟩) zs.length c0) L) ∧ Aside0 (Sieve (fun z => p z.1) zs i j L))
    case atStart => exact ⟨k0, k0 + 1, zs, rfl, by go_num, by omega, by omega, by omega, HI2, ⟨(Chg.of_grown HG2.out).mono (fun j hj => .inl hj)⟩, ⟨Kd.R_grown HR.out HG2.out HOK.out⟩, SV⟩
    case round =>
      clear SV HR HI HI2 HG2
      obtain ⟨i, j, L, rfl, rfl, hj, hij, hgg, HI, HC, HO, SV⟩ := hrel
      by_cases hlt : j < zs.length
      · have hltz : (j : Int) < (zs.length : Int) := by omega
        have hiz : (i : Int) < (zs.length : Int) := by omega
        obtain ⟨cs, hcl, hM, hcc, hfr⟩ := Kd.R_elem HO.out (([], 0) : List Int × Nat) (j : Int) (by omega) hltz
        have hM0 := hM
        obtain ⟨vi, rfl, hRi⟩ := hM
        have hx0 : wr.cell? ⟨gr, (j : Int).toNat * 1, none⟩ = some vi := hcc 0 _ rfl
        simp only [Int.toNat_natCast, Nat.mul_one] at hx0 hRi hM0
        obtain ⟨Ai, ci, rfl, hci, hCi⟩ := Kd.R_reads hRi
        have E : Aside0 (L.getD j ([], 0) = zs.getD j ([], 0)) := ⟨SV.out.at ([], 0) hlt⟩
        have hmem : (L.getD j ([], 0)).1 ∈ zs.map (·.1) := List.mem_map.2 ⟨zs[j], List.getElem_mem hlt, by rw [E.out]; simp [List.getD_eq_getElem?_getD, hlt]⟩
        have hcall := HP.out wr _ Ai ci hmem HI.out hCi hci
        have HM := Aside0.mk hM0
        clear hcl hcc hfr hRi hCi hmem hci hM0
        generalize hy : L.getD j ([], 0) = y at hx0 hcall E HM
        have EY := Aside0.mk hy
        clear hy
        obtain ⟨y1, y2⟩ := y
        simp only at hx0 hcall
        cases hq : p y1 with
        | true =>
          rw [hq] at hcall
          go_wp2_with (go_at_fn g; refine hcall.mono ?_; rintro e w' ⟨rfl, hi', hg'⟩; have HI2 := Aside0.mk hi'; have HG2 := Aside0.mk hg'; clear hi' hg')
          go_roundg (zs.length - (j + 1))
          case measure => omega
          case rel =>
            exact ⟨i, j + 1, L, rfl, by go_num, by omega, by omega, by omega, HI2, ⟨HC.out.then_ (Chg.of_grown HG2.out) (fun j hj => .inl (.inl hj))⟩, ⟨Kd.R_grown HO.out HG2.out HOK.out⟩, ⟨SV.out.skip ([], 0) hlt (by rw [← E.out]; exact hq)⟩⟩
        | false =>
          rw [hq] at hcall
          go_wp2_with (go_at_fn g; refine hcall.mono ?_; rintro e w' ⟨rfl, hi', hg'⟩; have HI2 := Aside0.mk hi'; have HG2 := Aside0.mk hg'; clear hi'; have HO2 := Aside0.mk (Kd.R_grown HO.out hg' HOK.out); have HM2 := Aside0.mk (Kd.M_grown HM.out hg' (fun k hk => HOK.out k hk.1)); clear hg'; obtain ⟨csi, hcli, hMi, hcci, hfri⟩ := Kd.R_elem HO2.out (([], 0) : List Int × Nat) (i : Int) (by omega) hiz; obtain ⟨vi, rfl, hRi⟩ := hMi; have hi0 : w'.cell? ⟨gr, (i : Int).toNat * 1, none⟩ = some vi := hcci 0 _ rfl; have hf0 : w'.frozen? ⟨gr, (i : Int).toNat * 1, none⟩ = false := hfri 0; simp only [Int.toNat_natCast, Nat.mul_one] at hi0 hf0; have HCC := Aside0.mk hcci; clear hcli hcci hfri hRi)
          have HP3 := Aside0.mk (Kd.R_seg HO2.out (i : Int) (by omega) hiz (c := [vi]) (seg := [.slice Ai y1.length ci]) (j := 0) rfl HCC.out (by exact Nat.le_refl 1) (x' := (y1, y2)) HM2.out (fun k hk => hk))
          go_roundg (zs.length - (j + 1))
          case measure => omega
          case rel =>
            have hp3 := HP3.out
            simp only [Int.toNat_natCast] at hp3
            have hgs := set_grown w' gr i (.slice Ai y1.length ci)
            have e3 : i * (Rw f).sz + 0 = i := Nat.mul_one i
            rw [e3] at hp3
            refine ⟨i + 1, j + 1, L.set i (y1, y2), by go_num, by go_num, by omega, by omega, by omega, ⟨HIS.out _ _ _ HI2.out hgs (fun k hk => by injection hk with hk; subst hk; exact hokg)⟩, ⟨(HC.out.then_ (Chg.of_grown HG2.out) (fun j hj => .inl (.inl hj))).then_ (Chg.of_grown hgs) (fun j hj => .inl (.inr (by injection hj)))⟩, ⟨hp3.1⟩, ⟨?_⟩⟩
            have := SV.out.keep ([], 0) hlt (by rw [← E.out]; exact hq)
            rw [← E.out] at this
            exact this
      · have hltz : ¬ (j : Int) < (zs.length : Int) := by omega
        obtain rfl : j = zs.length := by omega
        have hin : i < zs.length := by omega
        have hle : (i : Int) ≤ (zs.length : Int) := by omega
        have hclr := fun ty => run_clear (P := Tryd.prog) wr 36 22 ty (.slice none 0 0) Tryd.underlying36 (fun _ => by kernel_rfl) (by simp [Value.cells, Value.oneCell']) gr i (zs.length - i) (c0 - i) (by omega) (fun q hq => by
          have := R_cells HO.out (i + q) (by
            have h1 : q < 1 * (zs.length - i) := hq
            have h2 : (Rw f).sz = 1 := rfl
            rw [h2]; omega)
          exact this)
        have hil : L.length = zs.length := SV.out.len
        have hT := Aside0.mk (R_setCells_behind (Builtin.zeroCells (Value.slice none 0 0).cells (zs.length - i)).toList i (Kd.R_take HO.out (show i ≤ L.length by omega)) (by show i * 1 ≤ i; omega))
        have hD := Aside0.mk SV.out.done
        have hgs := Aside0.mk (setCells_grown gr (Builtin.zeroCells (Value.slice none 0 0).cells (zs.length - i)).toList i wr)
        clear hil HP
        go_wp2
        go_ret
        refine ⟨_, rfl, ?_, HIS.out _ _ _ HI.out hgs.out (fun k hk => by injection hk with hk; subst hk; exact hokg), (HC.out.then_ (Chg.of_grown hgs.out) (fun j hj => .inl (.inr (by injection hj)))).mono (fun j hj => hj.imp id (fun h => by rw [h]; simp [Value.ownBlock]))⟩
        have h9 := hT.out
        rw [hD.out] at h9
        exact h9
end
end Go.Proofs.YtnmibkkchgagbaaDoor.All
namespace Go.Proofs.YtnmibkkchgagbaaDoor.All
open Go.RowKit Go.Proofs.YtnmibkkchgagbaaDoorW.PrintWords Go.Proofs.YtnmibkkchgagbaaDoorW.PrintLast Go.Proofs.YtnmibkkchgagbaaDoorW.PrintMore Go.Shelf Go.Joins Go.Proofs.YtnmibkkchgagbaaDoor.PAll
set_option linter.unusedVariables false
set_option linter.unusedSimpArgs false

def PT (h : Nat) (b : List Int) (n : Nat) : List (List Int) := (List.range (n - 1)).flatMap fun (i : Nat) => lk h (i + 1) (b ++ [(i : Int) + 1])
theorem PT_succ (h : Nat) (b : List Int) {n : Nat} (hn : 1 ≤ n) : PT h b (n + 1) = PT h b n ++ lk h n (b ++ [(n : Int)]) := by
  unfold PT
  rw [show n + 1 - 1 = (n - 1) + 1 by omega, List.range_succ, List.flatMap_append]
  congr 1
  simp only [List.flatMap_cons, List.flatMap_nil, List.append_nil]
  rw [show n - 1 + 1 = n by omega, show (((n - 1 : Nat) : Int) + 1) = (n : Int) by omega]
theorem PT_le (h : Nat) (b : List Int) (n : Nat) : ∀ d : Nat, (PT h b n).length ≤ (PT h b (n + d)).length
  | 0 => Nat.le_refl _
  | d + 1 => by
    have ih := PT_le h b n d
    by_cases hn : 1 ≤ n + d
    · rw [← Nat.add_assoc, PT_succ h b hn, List.length_append]
      omega
    · have e1 : n = 0 := by omega
      have e2 : d = 0 := by omega
      subst e1; subst e2
      simp [PT]
theorem lk_succ (h wd : Nat) (b : List Int) : lk (h + 1) wd b = hd b ++ PT h b (wd + 1) := by
  rw [lk, PT, Nat.add_sub_cancel]

abbrev KI : Kd Int := Kd.int .i64
abbrev KL : Kd (List Int) := Kd.slice 3 (Kd.int .i64)
/-- Block Bo held the list v in world W; in world w1 it holds the list v1, of the rows L. -/
structure Lst (base Bo : Nat) (W : World) (v : Value) (L : List (List Int)) (w1 : World) (v1 : Value) : Prop where
  cell : w1.heap[Bo]? = some (.cells #[v1] 36 (0, 0))
  own : Kd.S KL 22 w1 base (fun _ => True) v1 L
  chg : Chg W w1 (fun j => j = Bo ∨ some j = v.ownBlock)
  at_ : v1.ownBlock = v.ownBlock ∨ ∃ k, v1.ownBlock = some k ∧ W.heap.size ≤ k
section
variable {base Bo : Nat} {W w1 w2 : World} {v v1 v2 vb : Value} {L L2 : List (List Int)} {b : List Int}
theorem Lst.then_ (h : Lst base Bo W v L w1 v1) (k : Lst base Bo w1 v1 L2 w2 v2) : Lst base Bo W v L2 w2 v2 := by
  refine ⟨k.cell, k.own, h.chg.then_ k.chg (fun j hj => ?_), ?_⟩
  · rcases hj with hj | hj
    · exact .inl (.inl hj)
    · rcases h.at_ with e | ⟨q, e, hq⟩
      · exact .inl (.inr (by rw [hj, e]))
      · rw [e] at hj
        injection hj with hj
        exact .inr (by omega)
  · rcases k.at_ with e | ⟨q, e, hq⟩
    · rw [e]
      exact h.at_
    · exact .inr ⟨q, e, Nat.le_trans h.chg.size hq⟩
theorem Lst.start (hc : W.heap[Bo]? = some (.cells #[v] 36 (0, 0))) (ho : Kd.S KL 22 W base (fun _ => True) v L) : Lst base Bo W v L W v := ⟨hc, ho, Chg.refl _ _, .inl rfl⟩
theorem Lst.below (h : Lst base Bo W v L w1 v1) (hb : Below w1.heap.size w1 w2) : Lst base Bo W v L w2 v1 := by
  refine ⟨blk_below h.cell hb, Kd.S_below h.own hb, h.chg.then_ (Chg.of_below hb) (fun _ hj => hj.elim), h.at_⟩
/-- Behind 'out = append(out, row)'. -/
theorem Lst.put (hc : W.heap[Bo]? = some (.cells #[v] 36 (0, 0))) (ho0 : Kd.S KL 22 W base (fun k => some k ≠ vb.ownBlock) v L) (ho : Kd.S KL 22 w1 base (fun _ => True) v1 L2) (hg : W.grownBy w1 v.ownBlock) (hat : v1.ownBlock = v.ownBlock ∨ ∃ k, v1.ownBlock = some k ∧ W.heap.size ≤ k) :
    w1.heap[Bo]? = some (.cells #[v] 36 (0, 0)) ∧ Lst base Bo W v L2 (w1.setCell ⟨Bo, 0, none⟩ v1) v1 := by
  have h1 := blk_grown hc hg (Kd.S_ne ho0 hc (by decide))
  refine ⟨h1, blk_put (cs := #[v]) h1 0 _ rfl, Kd.S_set ho h1 (by decide) 0 v1, ?_, hat⟩
  exact ((Chg.of_grown hg).mono (fun j hj => .inr hj)).then_ (Chg.of_grown (set_grown w1 Bo 0 v1)) (fun j hj => .inl (.inl (by injection hj)))
/-- A row of numbers stands. -/
theorem row_chg (h : KI.R 3 W base (fun _ => True) vb b) (hc : W.heap[Bo]? = some (.cells #[v] 36 (0, 0))) (ho : Kd.S KL 22 W base (fun _ => True) v L) (hg : Chg W w1 (fun j => j = Bo ∨ some j = v.ownBlock)) : KI.R 3 w1 base (fun _ => True) vb b := by
  refine Kd.R_mono (Kd.R_move (Kd.R_bound h) (fun k hk => hg.block k hk.2.2.1 (fun he => ?_))) (fun _ _ => trivial)
  obtain ⟨_, _, _, q, hq, cells, hcl⟩ := hk
  have hq3 : q = 3 := by simpa [Kd.int, Kd.scalar] using hq
  subst hq3
  rcases he with rfl | he
  · rw [hc] at hcl
    injection hcl with hcl
    injection hcl with _ h2
    exact absurd h2 (by decide)
  · obtain ⟨cells2, hc2⟩ := Kd.S_typed ho k he.symm
    rw [hc2] at hcl
    injection hcl with hcl
    injection hcl with _ h2
    exact absurd h2 (by decide)
end
end Go.Proofs.YtnmibkkchgagbaaDoor.All
namespace Go.Proofs.YtnmibkkchgagbaaDoor.All
open Go.RowKit Go.Proofs.YtnmibkkchgagbaaDoorW.PrintWords Go.Proofs.YtnmibkkchgagbaaDoorW.PrintLast Go.Proofs.YtnmibkkchgagbaaDoorW.PrintMore Go.Shelf Go.Joins Go.Proofs.YtnmibkkchgagbaaDoor.PAll
set_option linter.unusedVariables false
set_option linter.unusedSimpArgs false

set_option maxHeartbeats 4000000 in
set_option maxRecDepth 100000 in
theorem look_any (base Bo : Nat) : ∀ (h wd : Nat) (b : List Int) (vb : Value) (acc : List (List Int)) (v : Value) (W : World) (wI hI : Int), wd ≤ 6 → h ≤ 6 → b.length ≤ 6 - h → wI = wd → hI = h → W.heap[Bo]? = some (.cells #[v] 36 (0, 0)) → Kd.S KL 22 W base (fun k => some k ≠ vb.ownBlock) v acc → KI.R 3 W base (fun _ => True) vb b → base ≤ W.heap.size → acc.length + (lk h wd b).length ≤ 1000000 →
    Calls Tryd.prog 61 #[.int .i64 wI, .int .i64 hI, vb, .pointer (some ⟨Bo, 0, none⟩)] W fun e w' => e = .returned (.tuple #[]) ∧ ∃ v', Lst base Bo W v (acc ++ lk h wd b) w' v' := by
  intro h
  induction h with
  | zero =>
    intro wd b vb acc v W wI hI hwd hh hbl hwI hhI hc ho hr hbase hlen
    obtain ⟨Ab, cb, rfl⟩ := Kd.R_slice hr
    have hcb : b.length ≤ cb := (Kd.R_reads' hr).2.1
    have HC := Aside0.mk hc
    have HO := Aside0.mk ho
    have HR := Aside0.mk hr
    have HWI := Aside0.mk hwI
    have HLEN := Aside0.mk hlen
    have hb1 : (0 : Int) ≤ (b.length : Int) := Int.natCast_nonneg _
    have hb2 : b.length ≤ 6 := by omega
    have hw1 : (0 : Int) ≤ wI ∧ wI ≤ 6 := by omega
    have cB : W.cell? ⟨Bo, 0, none⟩ = some v := (blk_cell hc 0).trans rfl
    have hBlt : Bo < W.heap.size := blk_lt hc
    have hal : acc.length ≤ 1000000 := by omega
    have HHI := Aside0.mk hhI
    have hh01 : hI = 0 := by omega
    clear hc ho hr hwI hlen hhI
    subst hh01
    by_cases hb : b = []
    · subst hb
      have hz : (([] : List Int).length : Int) = 0 := rfl
      simp only [List.length_nil] at hcb hb1 hb2 HR HLEN ⊢
      go_enter Tryd.func61, Tryd.ntmps61
      go_wp2
      (try simp only [Exit.inBlock, Exit.then])
      refine bodyPost_ret (v := .tuple #[]) (results_none rfl _ _ _) rfl ?_
      refine ⟨rfl, v, ?_⟩
      rw [lk, hd, if_pos rfl, List.append_nil]
      exact Lst.start HC.out (Kd.S_mono HO.out (fun _ _ => trivial))
    · have hbp : 0 < b.length := List.length_pos_iff.2 hb
      have hbz : (0 : Int) < (b.length : Int) := by omega
      have HB := Aside0.mk hb
      clear hb
      go_enter Tryd.func61, Tryd.ntmps61
      go_wp2_with ((with_reducible refine gate_builtin (b := .append) (xs := #[.tmp 15, .tmp 17]) rfl ?_); at_builtin; refine Kd.S_append KL (w0 := W) base rfl (.tmp 15) (.tmp 17) 36 22 (.slice none 0 0) 24 rfl Tryd.underlying36 info22 rfl (by decide) (by omega) v acc b [.slice Ab b.length cb] (fun _ => True) (fun k => some k = (Value.slice Ab b.length cb).ownBlock) rfl rfl ?aP (fun k hk => ⟨trivial, fun e => (HO.out.elim fun f hf => hf.1 k e.symm) hk⟩) (fun _ _ => trivial) ?aO (Below.refl _ _) hbase ?aL ?_; (case aP => exact Kd.M_row (Kd.R_mono (Kd.R_tight rfl HR.out) (fun _ h => h))); (case aO => exact Kd.S_mono HO.out (fun k hk => ⟨trivial, hk⟩)); (case aL => omega); intro v1 w1 ho1 hb1' hg1 hat1; obtain ⟨A1, c1', e1⟩ := Kd.S_slice ho1; rw [show (acc ++ [b]).length = acc.length + 1 by simp] at e1; subst e1; have HP := Aside0.mk (Lst.put HC.out HO.out ho1 hg1 hat1); have HG1 := Aside0.mk hg1; have c1 : w1.cell? ⟨Bo, 0, none⟩ = some v := (blk_cell HP.out.1 0).trans rfl; have f1 := blk_frozen HP.out.1 0; clear ho1 hb1' hg1 hat1)
      (try simp only [Exit.inBlock, Exit.then])
      refine bodyPost_ret (v := .tuple #[]) (results_none rfl _ _ _) rfl ?_
      refine ⟨rfl, (.slice A1 (acc.length + 1) c1'), ?_⟩
      rw [lk, hd, if_neg HB.out]
      exact HP.out.2

  | succ h ih =>
    intro wd b vb acc v W wI hI hwd hh hbl hwI hhI hc ho hr hbase hlen
    obtain ⟨Ab, cb, rfl⟩ := Kd.R_slice hr
    have hcb : b.length ≤ cb := (Kd.R_reads' hr).2.1
    have HC := Aside0.mk hc
    have HO := Aside0.mk ho
    have HR := Aside0.mk hr
    have HWI := Aside0.mk hwI
    have HLEN := Aside0.mk hlen
    have hb1 : (0 : Int) ≤ (b.length : Int) := Int.natCast_nonneg _
    have hb2 : b.length ≤ 6 := by omega
    have hw1 : (0 : Int) ≤ wI ∧ wI ≤ 6 := by omega
    have cB : W.cell? ⟨Bo, 0, none⟩ = some v := (blk_cell hc 0).trans rfl
    have hBlt : Bo < W.heap.size := blk_lt hc
    have hal : acc.length ≤ 1000000 := by omega
    have HHI := Aside0.mk hhI
    have hh01 : 1 ≤ hI ∧ hI ≤ 6 := by omega
    clear hc ho hr hwI hlen hhI
    have hne : (hI == 0) = false := beq_eq_false_iff_ne.2 (by omega)
    by_cases hb : b = []
    · subst hb
      have hz : (([] : List Int).length : Int) = 0 := rfl
      simp only [List.length_nil] at hcb hb1 hb2 HR HLEN ⊢
      go_enter Tryd.func61, Tryd.ntmps61
      go_wp2
      have HL0 : Aside0 (Lst base Bo W v (acc ++ hd [] ++ PT h [] 1) W v) := ⟨by
        have e : PT h [] 1 = [] := rfl
        rw [e, List.append_nil, hd, if_pos rfl, List.append_nil]
        exact Lst.start HC.out (Kd.S_mono HO.out (fun _ _ => trivial))⟩
      have HR0 : Aside0 (KI.R 3 W base (fun _ => True) (.slice Ab 0 cb) []) := ⟨HR.out⟩

      go_loopg [8] (wd + 1) (fun gg s8 wr => ∃ (n : Nat) (v1 : Value), 1 ≤ n ∧ n ≤ wd + 1 ∧ wd + 1 - n ≤ gg ∧ s8 = .int .i64 n ∧ Aside0 (Lst base Bo W v (acc ++ hd [] ++ PT h [] n) wr v1) ∧ Aside0 (KI.R 3 wr base (fun _ => True) (.slice Ab 0 cb) []))
      case atStart => exact ⟨1, v, by omega, by omega, by omega, rfl, HL0, HR0⟩
      case round =>
        clear HL0 HR0
        obtain ⟨n, v1, hn1, hn2, hgg, rfl, HL, HRR⟩ := hrel
        by_cases hlt : n ≤ wd
        · have hltz : (n : Int) ≤ wI := by rw [HWI.out]; omega
          have hn0 : (0 : Int) ≤ (n : Int) := Int.natCast_nonneg _
          have hown := fun W' A' c' (h1 : KI.C W' A' ([] : List Int).length []) (h2 : ([] : List Int).length ≤ c') => spec_l1Own.calls A' c' [] [] W' h1 h2 (by unfold spec_l1Own.f; first | rfl | (rw [if_pos (by simp; omega)]) | (simp; omega))
          have HOWN := Aside0.mk hown
          have hlen2 : (acc ++ hd [] ++ PT h [] n).length + (lk h n ([] ++ [(n : Int)])).length ≤ 1000000 := by
            have h1 := HLEN.out
            rw [lk_succ, List.length_append] at h1
            have h2 := PT_le h [] (n + 1) (wd - n)
            rw [show n + 1 + (wd - n) = wd + 1 by omega, PT_succ h [] hn1, List.length_append] at h2
            rw [List.length_append, List.length_append]
            omega
          have HLEN2 := Aside0.mk hlen2
          have hchg := HL.out.chg.size
          have hwb : base ≤ wr.heap.size := Nat.le_trans hbase hchg
          have hih := fun (v3 : Value) (w3 : World) (r1 : KI.R 3 w3 wr.heap.size (fun _ => True) v3 ([] ++ [(n : Int)])) (b1 : Below wr.heap.size wr w3) => ih n ([] ++ [(n : Int)]) v3 (acc ++ hd [] ++ PT h [] n) v1 w3 (n : Int) (hI - 1) (by omega) (by omega) (by simp; omega) rfl (by rw [HHI.out]; omega) (blk_below HL.out.cell b1) (Kd.S_mono (Kd.S_elder' HL.out.own (Kd.R_base r1) b1) (fun _ hk => hk.2)) (Kd.R_lower r1 hwb) (Nat.le_trans hwb b1.size) HLEN2.out
          have HIH := Aside0.mk hih
          clear hown hlen2 hih hchg
          go_wp2_with (first
            | (go_at_call 74; refine (HOWN.out _ Ab cb (Kd.R_reads' HRR.out).2.2 hcb).mono ?_; rintro e w2 ⟨v2, rfl, hr2, hb2⟩; obtain ⟨A2, c2, rfl⟩ := Kd.R_slice hr2; have HR2 := Aside0.mk hr2; have HB2 := Aside0.mk hb2; clear hr2 hb2)
            | ((with_reducible refine gate_builtin (b := .append) (xs := #[.tmp 31, .tmp 33]) rfl ?_); at_builtin; refine Kd.R_append KI (w0 := wr) wr.heap.size rfl (.tmp 31) (.tmp 33) 22 3 (.int .i64 0) 8 rfl Tryd.underlying22 info3 rfl (by decide) (by omega) (.slice A2 ([] : List Int).length c2) [] (n : Int) [.int .i64 n] (fun _ => True) (fun _ => False) rfl rfl ?aP (fun _ hk => hk.elim) (fun _ _ => trivial) HR2.out HB2.out HB2.out.size ?aL ?_; (case aP => exact rfl); (case aL => first | omega | (simp; done) | (simp; omega)); intro v3 w3 ho3 hb3 hg3 hat3; have HR3 := Aside0.mk ho3; have HB3 := Aside0.mk hb3; clear ho3 hb3 hg3 hat3)
            | (go_at_call 61; refine (HIH.out v3 w3 HR3.out HB3.out).mono ?_; rintro e w4 ⟨rfl, v4, hl4⟩; have HL4 := Aside0.mk hl4; clear hl4))
          go_roundg (wd + 1 - (n + 1))
          case measure => omega
          case rel =>
            have hl3 := (HL.out.below HB3.out).then_ HL4.out
            refine ⟨n + 1, v4, by omega, by omega, by omega, by go_num, ⟨?_⟩, ⟨row_chg (Kd.R_below HRR.out HB3.out) (blk_below HL.out.cell HB3.out) (Kd.S_below HL.out.own HB3.out) HL4.out.chg⟩⟩
            rw [PT_succ h [] hn1, ← List.append_assoc]
            exact hl3
        · have hltz : ¬ (n : Int) ≤ wI := by rw [HWI.out]; omega
          obtain rfl : n = wd + 1 := by omega
          go_wp2
          go_end0
          refine ⟨rfl, v1, ?_⟩
          rw [lk_succ, ← List.append_assoc]
          exact HL.out
    · have hbp : 0 < b.length := List.length_pos_iff.2 hb
      have hbz : (0 : Int) < (b.length : Int) := by omega
      have HB := Aside0.mk hb
      clear hb
      go_enter Tryd.func61, Tryd.ntmps61
      go_wp2_with ((with_reducible refine gate_builtin (b := .append) (xs := #[.tmp 15, .tmp 17]) rfl ?_); at_builtin; refine Kd.S_append KL (w0 := W) base rfl (.tmp 15) (.tmp 17) 36 22 (.slice none 0 0) 24 rfl Tryd.underlying36 info22 rfl (by decide) (by omega) v acc b [.slice Ab b.length cb] (fun _ => True) (fun k => some k = (Value.slice Ab b.length cb).ownBlock) rfl rfl ?aP (fun k hk => ⟨trivial, fun e => (HO.out.elim fun f hf => hf.1 k e.symm) hk⟩) (fun _ _ => trivial) ?aO (Below.refl _ _) hbase ?aL ?_; (case aP => exact Kd.M_row (Kd.R_mono (Kd.R_tight rfl HR.out) (fun _ h => h))); (case aO => exact Kd.S_mono HO.out (fun k hk => ⟨trivial, hk⟩)); (case aL => omega); intro v1 w1 ho1 hb1' hg1 hat1; obtain ⟨A1, c1', e1⟩ := Kd.S_slice ho1; rw [show (acc ++ [b]).length = acc.length + 1 by simp] at e1; subst e1; have HP := Aside0.mk (Lst.put HC.out HO.out ho1 hg1 hat1); have HG1 := Aside0.mk hg1; have c1 : w1.cell? ⟨Bo, 0, none⟩ = some v := (blk_cell HP.out.1 0).trans rfl; have f1 := blk_frozen HP.out.1 0; clear ho1 hb1' hg1 hat1)
      have HL0 : Aside0 (Lst base Bo W v (acc ++ hd b ++ PT h b 1) (w1.setCell ⟨Bo, 0, none⟩ (.slice A1 (acc.length + 1) c1')) (.slice A1 (acc.length + 1) c1')) := ⟨by
        have e : PT h b 1 = [] := rfl
        rw [e, List.append_nil, hd, if_neg HB.out]
        exact HP.out.2⟩
      have HR0 : Aside0 (KI.R 3 (w1.setCell ⟨Bo, 0, none⟩ (.slice A1 (acc.length + 1) c1')) base (fun _ => True) (.slice Ab b.length cb) b) := ⟨row_chg HR.out HC.out (Kd.S_mono HO.out (fun _ _ => trivial)) HP.out.2.chg⟩
      generalize w1.setCell ⟨Bo, 0, none⟩ (.slice A1 (acc.length + 1) c1') = wx at HL0 HR0 ⊢
      clear HP HG1 c1 f1
      go_loopg [8] (wd + 1) (fun gg s8 wr => ∃ (n : Nat) (v1 : Value), 1 ≤ n ∧ n ≤ wd + 1 ∧ wd + 1 - n ≤ gg ∧ s8 = .int .i64 n ∧ Aside0 (Lst base Bo W v (acc ++ hd b ++ PT h b n) wr v1) ∧ Aside0 (KI.R 3 wr base (fun _ => True) (.slice Ab b.length cb) b))
      case atStart => exact ⟨1, (.slice A1 (acc.length + 1) c1'), by omega, by omega, by omega, rfl, HL0, HR0⟩
      case round =>
        clear HL0 HR0
        obtain ⟨n, v1, hn1, hn2, hgg, rfl, HL, HRR⟩ := hrel
        by_cases hlt : n ≤ wd
        · have hltz : (n : Int) ≤ wI := by rw [HWI.out]; omega
          have hn0 : (0 : Int) ≤ (n : Int) := Int.natCast_nonneg _
          have hown := fun W' A' c' (h1 : KI.C W' A' (b : List Int).length b) (h2 : (b : List Int).length ≤ c') => spec_l1Own.calls A' c' b b W' h1 h2 (by unfold spec_l1Own.f; first | rfl | (rw [if_pos (by simp; omega)]) | (simp; omega))
          have HOWN := Aside0.mk hown
          have hlen2 : (acc ++ hd b ++ PT h b n).length + (lk h n (b ++ [(n : Int)])).length ≤ 1000000 := by
            have h1 := HLEN.out
            rw [lk_succ, List.length_append] at h1
            have h2 := PT_le h b (n + 1) (wd - n)
            rw [show n + 1 + (wd - n) = wd + 1 by omega, PT_succ h b hn1, List.length_append] at h2
            rw [List.length_append, List.length_append]
            omega
          have HLEN2 := Aside0.mk hlen2
          have hchg := HL.out.chg.size
          have hwb : base ≤ wr.heap.size := Nat.le_trans hbase hchg
          have hih := fun (v3 : Value) (w3 : World) (r1 : KI.R 3 w3 wr.heap.size (fun _ => True) v3 (b ++ [(n : Int)])) (b1 : Below wr.heap.size wr w3) => ih n (b ++ [(n : Int)]) v3 (acc ++ hd b ++ PT h b n) v1 w3 (n : Int) (hI - 1) (by omega) (by omega) (by simp; omega) rfl (by rw [HHI.out]; omega) (blk_below HL.out.cell b1) (Kd.S_mono (Kd.S_elder' HL.out.own (Kd.R_base r1) b1) (fun _ hk => hk.2)) (Kd.R_lower r1 hwb) (Nat.le_trans hwb b1.size) HLEN2.out
          have HIH := Aside0.mk hih
          clear hown hlen2 hih hchg
          go_wp2_with (first
            | (go_at_call 74; refine (HOWN.out _ Ab cb (Kd.R_reads' HRR.out).2.2 hcb).mono ?_; rintro e w2 ⟨v2, rfl, hr2, hb2⟩; obtain ⟨A2, c2, rfl⟩ := Kd.R_slice hr2; have HR2 := Aside0.mk hr2; have HB2 := Aside0.mk hb2; clear hr2 hb2)
            | ((with_reducible refine gate_builtin (b := .append) (xs := #[.tmp 31, .tmp 33]) rfl ?_); at_builtin; refine Kd.R_append KI (w0 := wr) wr.heap.size rfl (.tmp 31) (.tmp 33) 22 3 (.int .i64 0) 8 rfl Tryd.underlying22 info3 rfl (by decide) (by omega) (.slice A2 (b : List Int).length c2) b (n : Int) [.int .i64 n] (fun _ => True) (fun _ => False) rfl rfl ?aP (fun _ hk => hk.elim) (fun _ _ => trivial) HR2.out HB2.out HB2.out.size ?aL ?_; (case aP => exact rfl); (case aL => first | omega | (simp; done) | (simp; omega)); intro v3 w3 ho3 hb3 hg3 hat3; have HR3 := Aside0.mk ho3; have HB3 := Aside0.mk hb3; clear ho3 hb3 hg3 hat3)
            | (go_at_call 61; refine (HIH.out v3 w3 HR3.out HB3.out).mono ?_; rintro e w4 ⟨rfl, v4, hl4⟩; have HL4 := Aside0.mk hl4; clear hl4))
          go_roundg (wd + 1 - (n + 1))
          case measure => omega
          case rel =>
            have hl3 := (HL.out.below HB3.out).then_ HL4.out
            refine ⟨n + 1, v4, by omega, by omega, by omega, by go_num, ⟨?_⟩, ⟨row_chg (Kd.R_below HRR.out HB3.out) (blk_below HL.out.cell HB3.out) (Kd.S_below HL.out.own HB3.out) HL4.out.chg⟩⟩
            rw [PT_succ h b hn1, ← List.append_assoc]
            exact hl3
        · have hltz : ¬ (n : Int) ≤ wI := by rw [HWI.out]; omega
          obtain rfl : n = wd + 1 := by omega
          go_wp2
          go_end0
          refine ⟨rfl, v1, ?_⟩
          rw [lk_succ, ← List.append_assoc]
          exact HL.out


def spec_cmAll.f (wide high : Int) : Option (List (List Int)) := if (0 ≤ wide ∧ wide ≤ 6) ∧ 0 ≤ high ∧ high ≤ 6 then some (allC wide.toNat high.toNat) else none
set_option maxHeartbeats 4000000 in
theorem spec_cmAll.calls (a0 a1 : Int) (r : List (List Int)) (w : World) (h : spec_cmAll.f a0 a1 = some r) :
    Calls Tryd.prog 39 #[.int .i64 a0, .int .i64 a1] w fun e w' => ∃ v0_ : Value, e = .returned (v0_) ∧ Kd.S KL 22 w' w.heap.size (fun _ => True) v0_ r ∧ Below w.heap.size w w' := by
  unfold spec_cmAll.f at h
  split at h
  case isFalse => cases h
  case isTrue hc =>
    injection h with h
    have HH := Aside0.mk h
    clear h
    have hlk := all_len (w := a0.toNat) (h := a1.toNat) (by omega) (by omega)
    have hlook := fun (v : Value) (W : World) h1 h2 h3 => look_any w.heap.size w.heap.size a1.toNat a0.toNat [] (.slice none 0 0) [] v W a0 a1 (by omega) (by omega) (by simp) (by omega) (by omega) h1 (Kd.S_apart_nil (ok := fun _ => True) h2 |> fun q => Kd.S_mono q (fun _ hk => hk.2)) (Kd.R_nil _ _ _ _ _) h3 (by rw [lk_nil]; simp; omega)
    have HLK := Aside0.mk hlook
    clear hlook hlk
    go_enter Tryd.func39, Tryd.ntmps39
    go_wp2_with (go_at_call 61; refine (HLK.out (.slice none 0 0) _ (blk_new w _) (Kd.S_nil _ _ _ _ _) (by simp)).mono ?_; rintro e w2 ⟨rfl, v2, hl2⟩; have HL2 := Aside0.mk hl2; have c2 : w2.cell? ⟨w.heap.size, 0, none⟩ = some v2 := (blk_cell hl2.cell 0).trans rfl; clear hl2)
    go_ret
    refine ⟨v2, rfl, ?_, ?_⟩
    · have := HL2.out.own
      rw [lk_nil, List.nil_append, HH.out] at this
      exact this
    · refine Chg.below (((Chg.of_below (below_alloc (Below.refl _ _) _)).then_ HL2.out.chg (fun j hj => .inr ?_)))
      rcases hj with rfl | hj
      · exact Nat.le_refl _
      · simp [Value.ownBlock] at hj
end Go.Proofs.YtnmibkkchgagbaaDoor.All
namespace Go.Proofs.YtnmibkkchgagbaaDoor.All
open Go.RowKit Go.Proofs.YtnmibkkchgagbaaDoorW.PrintWords Go.Proofs.YtnmibkkchgagbaaDoorW.PrintLast Go.Proofs.YtnmibkkchgagbaaDoorW.PrintMore Go.Shelf Go.Joins Go.Proofs.YtnmibkkchgagbaaDoor.PAll
set_option linter.unusedVariables false
set_option linter.unusedSimpArgs false

def addF (Bo Bh Ba : Nat) : Value := .func (.func 63) #[] #[.pointer (some ⟨Bo, 0, none⟩), .pointer (some ⟨Bh, 0, none⟩), .pointer (some ⟨Ba, 0, none⟩)]
theorem env_chg {base Bo B : Nat} {t : TypeId} {cs : Array Value} {W w1 : World} {v : Value} {L : List (List Int)} (hB : W.heap[B]? = some (.cells cs t (0, 0))) (h1 : t ≠ 36) (h2 : t ≠ 22) (hc : W.heap[Bo]? = some (.cells #[v] 36 (0, 0))) (ho : Kd.S KL 22 W base (fun _ => True) v L) (hg : Chg W w1 (fun j => j = Bo ∨ some j = v.ownBlock)) : w1.heap[B]? = some (.cells cs t (0, 0)) := by
  refine (hg.block B (blk_lt hB) (fun he => ?_)).trans hB
  rcases he with rfl | he
  · rw [hc] at hB
    injection hB with hB
    injection hB with _ h3
    exact h1 h3.symm
  · obtain ⟨cells2, hc2⟩ := Kd.S_typed ho B he.symm
    rw [hc2] at hB
    injection hB with hB
    injection hB with _ h3
    exact h2 h3.symm
theorem cell_al {w : World} {a : Addr} {v : Value} (h : w.cell? a = some v) (o : Obj) : (w.alloc o).cell? a = some v := ((below_alloc (Below.refl w.heap.size w) o).cell (World.block_lt_of_cell? _ _ h)).trans h

theorem one_row {W : World} {g : Nat} {x : Int} (h : W.heap[g]? = some (.cells #[.int .i64 x] 3 (0, 0))) : ReadsRow (fun (x : Int) cs => cs = [Value.int .i64 x]) 1 W (some ⟨g, 0, none⟩) 1 [x] := by
  refine ⟨rfl, by simp, fun _ => ⟨⟨g, 0, none⟩, rfl, fun j p hj => ?_⟩⟩
  obtain ⟨hl, he⟩ := List.getElem?_eq_some_iff.1 hj
  have h0 : j = 0 := by simpa using hl
  subst h0
  have e : x = p := by simpa using he
  subst e
  refine ⟨[.int .i64 x], rfl, rfl, fun i u hu => ?_⟩
  obtain ⟨hl2, he2⟩ := List.getElem?_eq_some_iff.1 hu
  have h1 : i = 0 := by simpa using hl2
  subst h1
  have e2 : Value.int .i64 x = u := by simpa using he2
  subst e2
  exact (blk_cell h 0).trans rfl
theorem cA_of {Bo Bh Ba : Nat} {w : World} (h : w.heap[Ba]? = some (.cells #[addF Bo Bh Ba] 65 (0, 0))) : w.cell? ⟨Ba, 0, none⟩ = some (.func (.func 63) #[] #[.pointer (some ⟨Bo, 0, none⟩), .pointer (some ⟨Bh, 0, none⟩), .pointer (some ⟨Ba, 0, none⟩)]) := (blk_cell h 0).trans rfl

set_option maxHeartbeats 4000000 in
set_option maxRecDepth 100000 in
theorem add_any (base Bo Bh Ba : Nat) (high : Int) : ∀ (h wd : Nat) (b : List Int) (vb : Value) (acc : List (List Int)) (v : Value) (W : World) (wI : Int), wd ≤ 6 → h ≤ 6 → (b.length : Int) + h = high → b.length ≤ 6 - h → wI = wd → W.heap[Bo]? = some (.cells #[v] 36 (0, 0)) → W.heap[Bh]? = some (.cells #[.int .i64 high] 3 (0, 0)) → W.heap[Ba]? = some (.cells #[addF Bo Bh Ba] 65 (0, 0)) → Kd.S KL 22 W base (fun k => some k ≠ vb.ownBlock) v acc → KI.R 3 W base (fun _ => True) vb b → base ≤ W.heap.size → acc.length + (lk h wd b).length ≤ 1000000 →
    Calls Tryd.prog 63 #[vb, .int .i64 wI, .pointer (some ⟨Bo, 0, none⟩), .pointer (some ⟨Bh, 0, none⟩), .pointer (some ⟨Ba, 0, none⟩)] W fun e w' => e = .returned (.tuple #[]) ∧ ∃ v', Lst base Bo W v (acc ++ lk h wd b) w' v' := by
  intro h
  have eg : ∀ args w, (callFunc 63 args).run Tryd.prog w = .ok (.enter 63 args) w := enters_of Tryd.func63 (by kernel_rfl) rfl
  induction h with
  | zero =>
    intro wd b vb acc v W wI hwd hh hhi hbl hwI hc hEh hEa ho hr hbase hlen
    obtain ⟨Ab, cb, rfl⟩ := Kd.R_slice hr
    have hcb : b.length ≤ cb := (Kd.R_reads' hr).2.1
    have HC := Aside0.mk hc
    have HO := Aside0.mk ho
    have HR := Aside0.mk hr
    have HWI := Aside0.mk hwI
    have HLEN := Aside0.mk hlen
    have HEH := Aside0.mk hEh
    have HEA := Aside0.mk hEa
    have hb1 : (0 : Int) ≤ (b.length : Int) := Int.natCast_nonneg _
    have hb2 : b.length ≤ 6 := by omega
    have hw1 : (0 : Int) ≤ wI ∧ wI ≤ 6 := by omega
    have hhb : (0 : Int) ≤ high ∧ high ≤ 6 := by omega
    have cB : W.cell? ⟨Bo, 0, none⟩ = some v := (blk_cell hc 0).trans rfl
    have cH : W.cell? ⟨Bh, 0, none⟩ = some (.int .i64 high) := (blk_cell hEh 0).trans rfl
    have hBlt : Bo < W.heap.size := blk_lt hc
    have hal : acc.length ≤ 1000000 := by omega
    have hT : ((b.length : Int) == high) = true := beq_iff_eq.2 (by omega)
    have HHI := Aside0.mk hhi
    clear hc ho hr hwI hlen hhi hEh hEa
    by_cases hb : b = []
    · subst hb
      simp only [List.length_nil] at hcb hb1 hb2 HR HLEN hT HHI ⊢
      have hT0 : ((0 : Int) == high) = true := hT
      clear hT
      go_enter Tryd.func63, Tryd.ntmps63
      go_wp2
      (try simp only [Exit.inBlock, Exit.then])
      refine bodyPost_ret (v := .tuple #[]) (results_none rfl _ _ _) rfl ?_
      refine ⟨rfl, v, ?_⟩
      rw [lk, hd, if_pos rfl, List.append_nil]
      exact Lst.start HC.out (Kd.S_mono HO.out (fun _ _ => trivial))
    · have hbp : 0 < b.length := List.length_pos_iff.2 hb
      have hbz : (0 : Int) < (b.length : Int) := by omega
      have HB := Aside0.mk hb
      clear hb
      go_enter Tryd.func63, Tryd.ntmps63
      go_wp2_with ((with_reducible refine gate_builtin (b := .append) (xs := #[.tmp 11, .tmp 13]) rfl ?_); at_builtin; refine Kd.S_append KL (w0 := W) base rfl (.tmp 11) (.tmp 13) 36 22 (.slice none 0 0) 24 rfl Tryd.underlying36 info22 rfl (by decide) (by omega) v acc b [.slice Ab b.length cb] (fun _ => True) (fun k => some k = (Value.slice Ab b.length cb).ownBlock) rfl rfl ?aP (fun k hk => ⟨trivial, fun e => (HO.out.elim fun f hf => hf.1 k e.symm) hk⟩) (fun _ _ => trivial) ?aO (Below.refl _ _) hbase ?aL ?_; (case aP => exact Kd.M_row (Kd.R_mono (Kd.R_tight rfl HR.out) (fun _ h => h))); (case aO => exact Kd.S_mono HO.out (fun k hk => ⟨trivial, hk⟩)); (case aL => omega); intro v1 w1 ho1 hb1' hg1 hat1; obtain ⟨A1, c1', e1⟩ := Kd.S_slice ho1; rw [show (acc ++ [b]).length = acc.length + 1 by simp] at e1; subst e1; have HP := Aside0.mk (Lst.put HC.out HO.out ho1 hg1 hat1); have c1 : w1.cell? ⟨Bo, 0, none⟩ = some v := (blk_cell HP.out.1 0).trans rfl; have f1 := blk_frozen HP.out.1 0; have cH1 : (w1.setCell ⟨Bo, 0, none⟩ (.slice A1 (acc.length + 1) c1')).cell? ⟨Bh, 0, none⟩ = some (.int .i64 high) := (blk_cell (env_chg HEH.out (by decide) (by decide) HC.out (Kd.S_mono HO.out (fun _ _ => trivial)) HP.out.2.chg) 0).trans rfl; clear ho1 hb1' hg1 hat1)
      (try simp only [Exit.inBlock, Exit.then])
      refine bodyPost_ret (v := .tuple #[]) (results_none rfl _ _ _) rfl ?_
      refine ⟨rfl, (.slice A1 (acc.length + 1) c1'), ?_⟩
      rw [lk, hd, if_neg HB.out]
      exact HP.out.2

  | succ h ih =>
    intro wd b vb acc v W wI hwd hh hhi hbl hwI hc hEh hEa ho hr hbase hlen
    obtain ⟨Ab, cb, rfl⟩ := Kd.R_slice hr
    have hcb : b.length ≤ cb := (Kd.R_reads' hr).2.1
    have HC := Aside0.mk hc
    have HO := Aside0.mk ho
    have HR := Aside0.mk hr
    have HWI := Aside0.mk hwI
    have HLEN := Aside0.mk hlen
    have HEH := Aside0.mk hEh
    have HEA := Aside0.mk hEa
    have hb1 : (0 : Int) ≤ (b.length : Int) := Int.natCast_nonneg _
    have hb2 : b.length ≤ 6 := by omega
    have hw1 : (0 : Int) ≤ wI ∧ wI ≤ 6 := by omega
    have hhb : (0 : Int) ≤ high ∧ high ≤ 6 := by omega
    have cB : W.cell? ⟨Bo, 0, none⟩ = some v := (blk_cell hc 0).trans rfl
    have cH : W.cell? ⟨Bh, 0, none⟩ = some (.int .i64 high) := (blk_cell hEh 0).trans rfl
    have hBlt : Bo < W.heap.size := blk_lt hc
    have hal : acc.length ≤ 1000000 := by omega
    have hT : ((b.length : Int) == high) = false := beq_eq_false_iff_ne.2 (by omega)
    have HHI := Aside0.mk hhi
    clear hc ho hr hwI hlen hhi hEh hEa
    by_cases hb : b = []
    · subst hb
      simp only [List.length_nil] at hcb hb1 hb2 HR HLEN hT HHI ⊢
      have hT0 : ((0 : Int) == high) = false := hT
      clear hT
      go_enter Tryd.func63, Tryd.ntmps63
      go_wp2
      have HL0 : Aside0 (Lst base Bo W v (acc ++ hd [] ++ PT h [] 1) W v) := ⟨by
        have e : PT h [] 1 = [] := rfl
        rw [e, List.append_nil, hd, if_pos rfl, List.append_nil]
        exact Lst.start HC.out (Kd.S_mono HO.out (fun _ _ => trivial))⟩
      have HR0 : Aside0 (KI.R 3 W base (fun _ => True) (.slice Ab 0 cb) []) := ⟨HR.out⟩
      have HH0 : Aside0 (W.heap[Bh]? = some (.cells #[.int .i64 high] 3 (0, 0))) := ⟨HEH.out⟩
      have HA0 : Aside0 (W.heap[Ba]? = some (.cells #[addF Bo Bh Ba] 65 (0, 0))) := ⟨HEA.out⟩
      clear HEH HEA cH
      go_loopg [7] (wd + 1) (fun gg s7 wr => ∃ (n : Nat) (v1 : Value), 1 ≤ n ∧ n ≤ wd + 1 ∧ wd + 1 - n ≤ gg ∧ s7 = .int .i64 n ∧ Aside0 (Lst base Bo W v (acc ++ hd [] ++ PT h [] n) wr v1) ∧ Aside0 (KI.R 3 wr base (fun _ => True) (.slice Ab 0 cb) []) ∧ Aside0 (wr.heap[Bh]? = some (.cells #[.int .i64 high] 3 (0, 0))) ∧ Aside0 (wr.heap[Ba]? = some (.cells #[addF Bo Bh Ba] 65 (0, 0))))
      case atStart => exact ⟨1, v, by omega, by omega, by omega, rfl, HL0, HR0, HH0, HA0⟩
      case round =>
        clear HL0 HR0 HH0 HA0
        obtain ⟨n, v1, hn1, hn2, hgg, rfl, HL, HRR, HEH, HEA⟩ := hrel
        by_cases hlt : n ≤ wd
        · have hltz : (n : Int) ≤ wI := by rw [HWI.out]; omega
          have hn0 : (0 : Int) ≤ (n : Int) := Int.natCast_nonneg _
          have hown := fun W' A' c' (h1 : KI.C W' A' ([] : List Int).length []) (h2 : ([] : List Int).length ≤ c') => slices_Clone_int_int.calls A' c' [] [] W' h1 h2 (by unfold slices_Clone_int_int.f; exact if_pos (by first | omega | (simp; done) | (simp; omega)))
          have HOWN := Aside0.mk hown
          have hlen2 : (acc ++ hd [] ++ PT h [] n).length + (lk h n ([] ++ [(n : Int)])).length ≤ 1000000 := by
            have h1 := HLEN.out
            rw [lk_succ, List.length_append] at h1
            have h2 := PT_le h [] (n + 1) (wd - n)
            rw [show n + 1 + (wd - n) = wd + 1 by omega, PT_succ h [] hn1, List.length_append] at h2
            rw [List.length_append, List.length_append]
            omega
          have HLEN2 := Aside0.mk hlen2
          have hchg := HL.out.chg.size
          have hwb : base ≤ wr.heap.size := Nat.le_trans hbase hchg
          have hih := fun (v3 : Value) (w3 : World) (r1 : KI.R 3 w3 wr.heap.size (fun _ => True) v3 ([] ++ [(n : Int)])) (b1 : Below wr.heap.size wr w3) => ih n ([] ++ [(n : Int)]) v3 (acc ++ hd [] ++ PT h [] n) v1 w3 (n : Int) (by omega) (by omega) (by have := HHI.out; simp; omega) (by simp; omega) rfl (blk_below HL.out.cell b1) (blk_below HEH.out b1) (blk_below HEA.out b1) (Kd.S_mono (Kd.S_elder' HL.out.own (Kd.R_base r1) b1) (fun _ hk => hk.2)) (Kd.R_lower r1 hwb) (Nat.le_trans hwb b1.size) HLEN2.out
          have HIH := Aside0.mk hih
          have s0 : wr.drew.cell? ⟨Ba, 0, none⟩ = some (.func (.func 63) #[] #[.pointer (some ⟨Bo, 0, none⟩), .pointer (some ⟨Bh, 0, none⟩), .pointer (some ⟨Ba, 0, none⟩)]) := (blk_cell (blk_drew HEA.out) 0).trans rfl
          have hbd : Below wr.heap.size wr wr.drew := below_drew (Below.refl _ _)
          have hsd : wr.drew.heap.size = wr.heap.size := rfl
          have HSD := Aside0.mk hsd
          have HBD := Aside0.mk hbd
          clear hown hlen2 hih hchg hbd hsd
          go_wp2
          go_region_held3 (fun w' => w'.cell? ⟨Ba, 0, none⟩ = some (.func (.func 63) #[] #[.pointer (some ⟨Bo, 0, none⟩), .pointer (some ⟨Bh, 0, none⟩), .pointer (some ⟨Ba, 0, none⟩)])) (first | assumption | exact cell_al (by assumption) _)
            (first
              | (go_at_call 64; refine (HOWN.out _ Ab cb (by first | exact (Kd.R_reads' (Kd.R_drew HRR.out)).2.2 | exact Kd.C_alloc (Kd.R_reads' (Kd.R_drew HRR.out)).2.2 _) hcb).mono ?_; rintro e w2 ⟨v2, rfl, hrx, hbx⟩; obtain ⟨A2, c2, rfl⟩ := Kd.R_slice hrx; have HR2 := Aside0.mk (Kd.R_lower (base' := wr.heap.size) hrx (by first | exact Nat.le_refl _ | (simp; done))); have HB2 : Aside0 (Below wr.heap.size wr w2) := ⟨below_then (by first | exact HBD.out | exact below_alloc HBD.out _) (by first | exact Nat.le_refl _ | (simp; done)) hbx⟩; (try have HK2 := Aside0.mk (blk_below (blk_new wr.drew _) hbx)); have s2 := cA_of (blk_below HEA.out HB2.out); clear hrx hbx)
              | (refine Kd.R_append_step KI (w0 := wr) wr.heap.size (by rfl) (.tmp 26) (.tmp 28) 22 3 (.int .i64 0) 8 rfl Tryd.underlying22 info3 rfl (by decide) (by omega) (.slice A2 ([] : List Int).length c2) [] (n : Int) [.int .i64 n] (fun _ => True) (fun _ => False) rfl rfl ?aP (fun _ hk => hk.elim) (fun _ _ => trivial) HR2.out HB2.out HB2.out.size ?aL ?_; (case aP => exact rfl); (case aL => first | omega | (simp; done) | (simp; omega)); intro v3 w3 ho3 hb3 hg3 hat3; have HR3 := Aside0.mk ho3; have HB3 := Aside0.mk hb3; have s3 := cA_of (blk_below HEA.out hb3); clear ho3 hb3 hg3 hat3)
              | (refine Kd.R_append_rows_step KI (Rr := fun (x : Int) cs => cs = [Value.int .i64 x]) (w0 := wr) wr.heap.size (by rfl) (.tmp 26) (.tmp 28) 22 3 (.int .i64 0) 8 rfl Tryd.underlying22 info3 rfl (by decide) (by omega) (.slice A2 ([] : List Int).length c2) [] [(n : Int)] _ 1 1 (fun _ => True) (fun _ => False) rfl rfl HR2.out (one_row HK2.out) (fun _ _ hx => hx) (fun _ hk => hk.elim) (fun _ _ => trivial) HB2.out HB2.out.size ?aL ?_; (case aL => first | omega | (simp; done) | (simp; omega)); intro v3 w3 ho3 hb3 hg3 hat3; have HR3 := Aside0.mk ho3; have HB3 := Aside0.mk hb3; have s3 := cA_of (blk_below HEA.out hb3); clear ho3 hb3 hg3 hat3)
              | (go_at_fn 63; refine (HIH.out v3 w3 HR3.out HB3.out).mono ?_; rintro e w4 ⟨rfl, v4, hl4⟩; have HL4 := Aside0.mk hl4; have HA4 := Aside0.mk (env_chg (blk_below HEA.out HB3.out) (by decide) (by decide) (blk_below HL.out.cell HB3.out) (Kd.S_below HL.out.own HB3.out) hl4.chg); have s4 := cA_of HA4.out; clear hl4))
          all_goals (try go_wp2_with fail)
          all_goals go_roundg (wd + 1 - (n + 1))
          all_goals first
            | omega
            | exact ⟨n + 1, v4, by omega, by omega, by omega, by go_num, ⟨by rw [PT_succ h [] hn1, ← List.append_assoc]; exact (HL.out.below HB3.out).then_ HL4.out⟩, ⟨row_chg (Kd.R_below HRR.out HB3.out) (blk_below HL.out.cell HB3.out) (Kd.S_below HL.out.own HB3.out) HL4.out.chg⟩, ⟨env_chg (blk_below HEH.out HB3.out) (by decide) (by decide) (blk_below HL.out.cell HB3.out) (Kd.S_below HL.out.own HB3.out) HL4.out.chg⟩, HA4⟩
        · have hltz : ¬ (n : Int) ≤ wI := by rw [HWI.out]; omega
          obtain rfl : n = wd + 1 := by omega
          go_wp2
          go_end0
          refine ⟨rfl, v1, ?_⟩
          rw [lk_succ, ← List.append_assoc]
          exact HL.out
    · have hbp : 0 < b.length := List.length_pos_iff.2 hb
      have hbz : (0 : Int) < (b.length : Int) := by omega
      have HB := Aside0.mk hb
      clear hb
      go_enter Tryd.func63, Tryd.ntmps63
      go_wp2_with ((with_reducible refine gate_builtin (b := .append) (xs := #[.tmp 11, .tmp 13]) rfl ?_); at_builtin; refine Kd.S_append KL (w0 := W) base rfl (.tmp 11) (.tmp 13) 36 22 (.slice none 0 0) 24 rfl Tryd.underlying36 info22 rfl (by decide) (by omega) v acc b [.slice Ab b.length cb] (fun _ => True) (fun k => some k = (Value.slice Ab b.length cb).ownBlock) rfl rfl ?aP (fun k hk => ⟨trivial, fun e => (HO.out.elim fun f hf => hf.1 k e.symm) hk⟩) (fun _ _ => trivial) ?aO (Below.refl _ _) hbase ?aL ?_; (case aP => exact Kd.M_row (Kd.R_mono (Kd.R_tight rfl HR.out) (fun _ h => h))); (case aO => exact Kd.S_mono HO.out (fun k hk => ⟨trivial, hk⟩)); (case aL => omega); intro v1 w1 ho1 hb1' hg1 hat1; obtain ⟨A1, c1', e1⟩ := Kd.S_slice ho1; rw [show (acc ++ [b]).length = acc.length + 1 by simp] at e1; subst e1; have HP := Aside0.mk (Lst.put HC.out HO.out ho1 hg1 hat1); have c1 : w1.cell? ⟨Bo, 0, none⟩ = some v := (blk_cell HP.out.1 0).trans rfl; have f1 := blk_frozen HP.out.1 0; have cH1 : (w1.setCell ⟨Bo, 0, none⟩ (.slice A1 (acc.length + 1) c1')).cell? ⟨Bh, 0, none⟩ = some (.int .i64 high) := (blk_cell (env_chg HEH.out (by decide) (by decide) HC.out (Kd.S_mono HO.out (fun _ _ => trivial)) HP.out.2.chg) 0).trans rfl; clear ho1 hb1' hg1 hat1)
      have HL0 : Aside0 (Lst base Bo W v (acc ++ hd b ++ PT h b 1) (w1.setCell ⟨Bo, 0, none⟩ (.slice A1 (acc.length + 1) c1')) (.slice A1 (acc.length + 1) c1')) := ⟨by
        have e : PT h b 1 = [] := rfl
        rw [e, List.append_nil, hd, if_neg HB.out]
        exact HP.out.2⟩
      have HR0 : Aside0 (KI.R 3 (w1.setCell ⟨Bo, 0, none⟩ (.slice A1 (acc.length + 1) c1')) base (fun _ => True) (.slice Ab b.length cb) b) := ⟨row_chg HR.out HC.out (Kd.S_mono HO.out (fun _ _ => trivial)) HP.out.2.chg⟩
      have HH0 : Aside0 ((w1.setCell ⟨Bo, 0, none⟩ (.slice A1 (acc.length + 1) c1')).heap[Bh]? = some (.cells #[.int .i64 high] 3 (0, 0))) := ⟨env_chg HEH.out (by decide) (by decide) HC.out (Kd.S_mono HO.out (fun _ _ => trivial)) HP.out.2.chg⟩
      have HA0 : Aside0 ((w1.setCell ⟨Bo, 0, none⟩ (.slice A1 (acc.length + 1) c1')).heap[Ba]? = some (.cells #[addF Bo Bh Ba] 65 (0, 0))) := ⟨env_chg HEA.out (by decide) (by decide) HC.out (Kd.S_mono HO.out (fun _ _ => trivial)) HP.out.2.chg⟩
      clear cH1
      generalize w1.setCell ⟨Bo, 0, none⟩ (.slice A1 (acc.length + 1) c1') = wx at HL0 HR0 HH0 HA0 ⊢
      clear HP c1 f1 HEH HEA cH
      go_loopg [7] (wd + 1) (fun gg s7 wr => ∃ (n : Nat) (v1 : Value), 1 ≤ n ∧ n ≤ wd + 1 ∧ wd + 1 - n ≤ gg ∧ s7 = .int .i64 n ∧ Aside0 (Lst base Bo W v (acc ++ hd b ++ PT h b n) wr v1) ∧ Aside0 (KI.R 3 wr base (fun _ => True) (.slice Ab b.length cb) b) ∧ Aside0 (wr.heap[Bh]? = some (.cells #[.int .i64 high] 3 (0, 0))) ∧ Aside0 (wr.heap[Ba]? = some (.cells #[addF Bo Bh Ba] 65 (0, 0))))
      case atStart => exact ⟨1, (.slice A1 (acc.length + 1) c1'), by omega, by omega, by omega, rfl, HL0, HR0, HH0, HA0⟩
      case round =>
        clear HL0 HR0 HH0 HA0
        obtain ⟨n, v1, hn1, hn2, hgg, rfl, HL, HRR, HEH, HEA⟩ := hrel
        by_cases hlt : n ≤ wd
        · have hltz : (n : Int) ≤ wI := by rw [HWI.out]; omega
          have hn0 : (0 : Int) ≤ (n : Int) := Int.natCast_nonneg _
          have hown := fun W' A' c' (h1 : KI.C W' A' (b : List Int).length b) (h2 : (b : List Int).length ≤ c') => slices_Clone_int_int.calls A' c' b b W' h1 h2 (by unfold slices_Clone_int_int.f; exact if_pos (by first | omega | (simp; done) | (simp; omega)))
          have HOWN := Aside0.mk hown
          have hlen2 : (acc ++ hd b ++ PT h b n).length + (lk h n (b ++ [(n : Int)])).length ≤ 1000000 := by
            have h1 := HLEN.out
            rw [lk_succ, List.length_append] at h1
            have h2 := PT_le h b (n + 1) (wd - n)
            rw [show n + 1 + (wd - n) = wd + 1 by omega, PT_succ h b hn1, List.length_append] at h2
            rw [List.length_append, List.length_append]
            omega
          have HLEN2 := Aside0.mk hlen2
          have hchg := HL.out.chg.size
          have hwb : base ≤ wr.heap.size := Nat.le_trans hbase hchg
          have hih := fun (v3 : Value) (w3 : World) (r1 : KI.R 3 w3 wr.heap.size (fun _ => True) v3 (b ++ [(n : Int)])) (b1 : Below wr.heap.size wr w3) => ih n (b ++ [(n : Int)]) v3 (acc ++ hd b ++ PT h b n) v1 w3 (n : Int) (by omega) (by omega) (by have := HHI.out; simp; omega) (by simp; omega) rfl (blk_below HL.out.cell b1) (blk_below HEH.out b1) (blk_below HEA.out b1) (Kd.S_mono (Kd.S_elder' HL.out.own (Kd.R_base r1) b1) (fun _ hk => hk.2)) (Kd.R_lower r1 hwb) (Nat.le_trans hwb b1.size) HLEN2.out
          have HIH := Aside0.mk hih
          have s0 : wr.drew.cell? ⟨Ba, 0, none⟩ = some (.func (.func 63) #[] #[.pointer (some ⟨Bo, 0, none⟩), .pointer (some ⟨Bh, 0, none⟩), .pointer (some ⟨Ba, 0, none⟩)]) := (blk_cell (blk_drew HEA.out) 0).trans rfl
          have hbd : Below wr.heap.size wr wr.drew := below_drew (Below.refl _ _)
          have hsd : wr.drew.heap.size = wr.heap.size := rfl
          have HSD := Aside0.mk hsd
          have HBD := Aside0.mk hbd
          clear hown hlen2 hih hchg hbd hsd
          go_wp2
          go_region_held3 (fun w' => w'.cell? ⟨Ba, 0, none⟩ = some (.func (.func 63) #[] #[.pointer (some ⟨Bo, 0, none⟩), .pointer (some ⟨Bh, 0, none⟩), .pointer (some ⟨Ba, 0, none⟩)])) (first | assumption | exact cell_al (by assumption) _)
            (first
              | (go_at_call 64; refine (HOWN.out _ Ab cb (by first | exact (Kd.R_reads' (Kd.R_drew HRR.out)).2.2 | exact Kd.C_alloc (Kd.R_reads' (Kd.R_drew HRR.out)).2.2 _) hcb).mono ?_; rintro e w2 ⟨v2, rfl, hrx, hbx⟩; obtain ⟨A2, c2, rfl⟩ := Kd.R_slice hrx; have HR2 := Aside0.mk (Kd.R_lower (base' := wr.heap.size) hrx (by first | exact Nat.le_refl _ | (simp; done))); have HB2 : Aside0 (Below wr.heap.size wr w2) := ⟨below_then (by first | exact HBD.out | exact below_alloc HBD.out _) (by first | exact Nat.le_refl _ | (simp; done)) hbx⟩; (try have HK2 := Aside0.mk (blk_below (blk_new wr.drew _) hbx)); have s2 := cA_of (blk_below HEA.out HB2.out); clear hrx hbx)
              | (refine Kd.R_append_step KI (w0 := wr) wr.heap.size (by rfl) (.tmp 26) (.tmp 28) 22 3 (.int .i64 0) 8 rfl Tryd.underlying22 info3 rfl (by decide) (by omega) (.slice A2 (b : List Int).length c2) b (n : Int) [.int .i64 n] (fun _ => True) (fun _ => False) rfl rfl ?aP (fun _ hk => hk.elim) (fun _ _ => trivial) HR2.out HB2.out HB2.out.size ?aL ?_; (case aP => exact rfl); (case aL => first | omega | (simp; done) | (simp; omega)); intro v3 w3 ho3 hb3 hg3 hat3; have HR3 := Aside0.mk ho3; have HB3 := Aside0.mk hb3; have s3 := cA_of (blk_below HEA.out hb3); clear ho3 hb3 hg3 hat3)
              | (refine Kd.R_append_rows_step KI (Rr := fun (x : Int) cs => cs = [Value.int .i64 x]) (w0 := wr) wr.heap.size (by rfl) (.tmp 26) (.tmp 28) 22 3 (.int .i64 0) 8 rfl Tryd.underlying22 info3 rfl (by decide) (by omega) (.slice A2 (b : List Int).length c2) b [(n : Int)] _ 1 1 (fun _ => True) (fun _ => False) rfl rfl HR2.out (one_row HK2.out) (fun _ _ hx => hx) (fun _ hk => hk.elim) (fun _ _ => trivial) HB2.out HB2.out.size ?aL ?_; (case aL => first | omega | (simp; done) | (simp; omega)); intro v3 w3 ho3 hb3 hg3 hat3; have HR3 := Aside0.mk ho3; have HB3 := Aside0.mk hb3; have s3 := cA_of (blk_below HEA.out hb3); clear ho3 hb3 hg3 hat3)
              | (go_at_fn 63; refine (HIH.out v3 w3 HR3.out HB3.out).mono ?_; rintro e w4 ⟨rfl, v4, hl4⟩; have HL4 := Aside0.mk hl4; have HA4 := Aside0.mk (env_chg (blk_below HEA.out HB3.out) (by decide) (by decide) (blk_below HL.out.cell HB3.out) (Kd.S_below HL.out.own HB3.out) hl4.chg); have s4 := cA_of HA4.out; clear hl4))
          all_goals (try go_wp2_with fail)
          all_goals go_roundg (wd + 1 - (n + 1))
          all_goals first
            | omega
            | exact ⟨n + 1, v4, by omega, by omega, by omega, by go_num, ⟨by rw [PT_succ h b hn1, ← List.append_assoc]; exact (HL.out.below HB3.out).then_ HL4.out⟩, ⟨row_chg (Kd.R_below HRR.out HB3.out) (blk_below HL.out.cell HB3.out) (Kd.S_below HL.out.own HB3.out) HL4.out.chg⟩, ⟨env_chg (blk_below HEH.out HB3.out) (by decide) (by decide) (blk_below HL.out.cell HB3.out) (Kd.S_below HL.out.own HB3.out) HL4.out.chg⟩, HA4⟩
        · have hltz : ¬ (n : Int) ≤ wI := by rw [HWI.out]; omega
          obtain rfl : n = wd + 1 := by omega
          go_wp2
          go_end0
          refine ⟨rfl, v1, ?_⟩
          rw [lk_succ, ← List.append_assoc]
          exact HL.out


end Go.Proofs.YtnmibkkchgagbaaDoor.All
namespace Go.Proofs.YtnmibkkchgagbaaDoor.All
open Go.RowKit Go.Proofs.YtnmibkkchgagbaaDoorW.PrintWords Go.Proofs.YtnmibkkchgagbaaDoorW.PrintLast Go.Proofs.YtnmibkkchgagbaaDoorW.PrintMore Go.Shelf Go.Joins Go.Proofs.YtnmibkkchgagbaaDoor.PAll
set_option linter.unusedVariables false
set_option linter.unusedSimpArgs false

namespace PrintSizes
theorem size_alloc_ (w : World) (o : Obj) : (w.alloc o).heap.size = w.heap.size + 1 := by simp
end PrintSizes
theorem S_empty {W : World} {base g : Nat} (h : W.heap[g]? = some (.cells #[] 22 (0, 0))) (hb : base ≤ g) : Kd.S KL 22 W base (fun _ => True) (.slice (some ⟨g, 0, none⟩) 0 0) [] :=
  ⟨fun _ => 0, fun _ _ => trivial, [], ⟨rfl, .inr ⟨g, 0, #[], rfl, hb, h, Nat.le_refl _, Nat.zero_le _, rfl, rfl⟩⟩, Reps.none _ _⟩
def impl_chomps.f (wide high : Int) : Option (List (List Int)) := if (0 ≤ wide ∧ wide ≤ 6) ∧ 0 ≤ high ∧ high ≤ 6 then some (allC wide.toNat high.toNat) else none
set_option maxHeartbeats 4000000 in
set_option maxRecDepth 100000 in
theorem impl_chomps.calls (a0 a1 : Int) (r : List (List Int)) (w : World) (h : impl_chomps.f a0 a1 = some r) :
    Calls Tryd.prog 43 #[.int .i64 a0, .int .i64 a1] w fun e w' => ∃ v0_ : Value, e = .returned (v0_) ∧ Kd.S KL 22 w' w.heap.size (fun _ => True) v0_ r ∧ Below w.heap.size w w' := by
  unfold impl_chomps.f at h
  split at h
  case isFalse => cases h
  case isTrue hc =>
    injection h with h
    have HH := Aside0.mk h
    clear h
    have eg : ∀ args w, (callFunc 63 args).run Tryd.prog w = .ok (.enter 63 args) w := enters_of Tryd.func63 (by kernel_rfl) rfl
    have hlk := all_len (w := a0.toNat) (h := a1.toNat) (by omega) (by omega)
    obtain ⟨Bh, hBh⟩ : ∃ B, w.heap.size = B := ⟨_, rfl⟩
    have hadd := fun (Bo Ba : Nat) (v : Value) (W : World) h1 h2 h3 h4 h5 => add_any Bh Bo Bh Ba a1 a1.toNat a0.toNat [] (.slice none 0 0) [] v W a0 (by omega) (by omega) (by simp; omega) (by simp) (by omega) h1 h2 h3 (Kd.S_mono (Kd.S_apart_nil (ok := fun _ => True) h4) (fun _ hk => hk.2)) (Kd.R_nil _ _ _ _ _) h5 (by rw [lk_nil]; simp; omega)
    have HLK := Aside0.mk hadd
    clear hadd hlk
    have b1 := blk_new w (.cells #[.int .i64 a1] 3)
    have b2 := blk_new (w.alloc (.cells #[.int .i64 a1] 3)) (.cells #[] 22)
    have b3 := blk_new ((w.alloc (.cells #[.int .i64 a1] 3)).alloc (.cells #[] 22)) (.cells #[.slice (some ⟨Bh + 1, 0, none⟩) 0 0] 36)
    have b4 := blk_new (((w.alloc (.cells #[.int .i64 a1] 3)).alloc (.cells #[] 22)).alloc (.cells #[.slice (some ⟨Bh + 1, 0, none⟩) 0 0] 36)) (.cells #[addF (Bh + 1 + 1) Bh (Bh + 1 + 1 + 1)] 65)
    have c1 := blk_alloc (blk_alloc (blk_alloc b1 (.cells #[] 22)) (.cells #[.slice (some ⟨Bh + 1, 0, none⟩) 0 0] 36)) (.cells #[addF (Bh + 1 + 1) Bh (Bh + 1 + 1 + 1)] 65)
    have c2 := blk_alloc (blk_alloc b2 (.cells #[.slice (some ⟨Bh + 1, 0, none⟩) 0 0] 36)) (.cells #[addF (Bh + 1 + 1) Bh (Bh + 1 + 1 + 1)] 65)
    have c3 := blk_alloc b3 (.cells #[addF (Bh + 1 + 1) Bh (Bh + 1 + 1 + 1)] 65)
    have hbl := below_alloc (below_alloc (below_alloc (below_alloc (Below.refl w.heap.size w) (.cells #[.int .i64 a1] 3)) (.cells #[] 22)) (.cells #[.slice (some ⟨Bh + 1, 0, none⟩) 0 0] 36)) (.cells #[addF (Bh + 1 + 1) Bh (Bh + 1 + 1 + 1)] 65)
    simp only [PrintSizes.size_alloc_, hBh] at b1 b2 b3 b4 c1 c2 c3 hbl
    have C1 := Aside0.mk c1
    have C2 := Aside0.mk c2
    have C3 := Aside0.mk c3
    have C4 := Aside0.mk b4
    have HBL := Aside0.mk hbl
    have HSZ := Aside0.mk (Nat.le_trans (Nat.le_of_eq hBh.symm) hbl.size)
    clear b1 b2 b3 b4 c1 c2 c3 hbl
    go_enter Tryd.func43, Tryd.ntmps43
    go_wp2_with (go_at_fn 63; refine (HLK.out _ _ _ _ C3.out C1.out C4.out (S_empty C2.out (by omega)) HSZ.out).mono ?_; rintro e w2 ⟨rfl, v2, hl2⟩; have HL2 := Aside0.mk hl2; have c2 : w2.cell? ⟨Bh + 1 + 1, 0, none⟩ = some v2 := (blk_cell hl2.cell 0).trans rfl; clear hl2)
    go_ret
    refine ⟨v2, rfl, ?_, ?_⟩
    · have := HL2.out.own
      rw [lk_nil, List.nil_append, HH.out] at this
      rw [hBh]
      exact this
    · rw [hBh]
      have h1 : Chg w _ (fun _ => False) := ⟨HBL.out.os, HBL.out.tape, HBL.out.output, HBL.out.size, fun j hj _ => HBL.out.block j (by omega)⟩
      have h2 := (h1.then_ HL2.out.chg (fun j hj => .inr (by
        rcases hj with rfl | hj
        · omega
        · have hj : Bh + 1 = j := by simpa [Value.ownBlock] using hj.symm
          omega))).below
      rw [hBh] at h2
      exact h2
end Go.Proofs.YtnmibkkchgagbaaDoor.All
