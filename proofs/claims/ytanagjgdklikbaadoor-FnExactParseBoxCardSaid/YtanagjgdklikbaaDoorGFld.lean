/- strings.IndexRune and ContainsRune on a sign of one byte, walked by hand. -/
import Derived.Test.YtanagjgdklikbaaDoorShelfB
import Derived.Test.YtanagjgdklikbaaDoorAx0
import Derived.Shelf.Small.Utf8
import Derived.Lib.SmallJoins
import Derived.Deep.LoopGhost
import Derived.Scope
namespace Go.Proofs.YtanagjgdklikbaaDoor.All
open Go.RowKit Go.Shelf Go.Proofs.YtanagjgdklikbaaDoorW.PrintWords Go.Proofs.YtanagjgdklikbaaDoorW.PrintLast Go.Proofs.YtanagjgdklikbaaDoorW.PrintMore
set_option linter.unusedVariables false

theorem encode_two (r : Int) (S : ByteArray) (h : Utf8.encode r = S) (h1 : 128 ≤ r) (hE : ¬ r = 65533) : 2 ≤ S.size ∧ S.size ≤ 4 := by
  subst h
  have hc : 128 ≤ (if Utf8.valid r then r.toNat else Utf8.runeError) := by
    split
    · omega
    · decide
  unfold Utf8.encode
  simp only []
  generalize (if Utf8.valid r then r.toNat else Utf8.runeError) = c at hc
  split
  · omega
  · split
    · simp [ByteArray.size]
    · split <;> simp [ByteArray.size]
theorem wrap64_id {n : Int} (h0 : -9223372036854775808 ≤ n) (h1 : n ≤ 9223372036854775807) : wrap64 n = n := by
  unfold wrap64
  omega

set_option maxHeartbeats 2000000 in
set_option maxRecDepth 1000000 in
theorem indexRune_one (b : UInt8) (hb : b = 120 ∨ b = 42) (r : Int) (h128 : 128 ≤ r) (hx : r ≤ 1114111) (w : World) :
    Calls Tryd.prog 43 #[.string ⟨#[b]⟩, .int .i32 r] w fun e w' => e = .returned (.int .i64 (-1)) ∧ Below w.heap.size w w' := by
  have i0 : decide (0 ≤ r) = true := decide_eq_true (by omega)
  have i1 : decide (r < 128) = false := decide_eq_false (by omega)
  have h128 := Aside0.mk h128
  have hx := Aside0.mk hx
  by_cases hE : r = 65533
  · subst hE
    have hd : ∃ c : Nat, Utf8.decode ⟨#[b]⟩ 0 = (c, 1) ∧ ((c : Int) == 65533) = false := by
      rcases hb with rfl | rfl
      · exact ⟨120, by decide, by decide⟩
      · exact ⟨42, by decide, by decide⟩
    obtain ⟨c, hd1, hd2⟩ := hd
    have hsz : (⟨#[b]⟩ : ByteArray).size = 1 := rfl
    clear hb
    obtain ⟨s, hs⟩ : ∃ s : ByteArray, (⟨#[b]⟩ : ByteArray) = s := ⟨_, rfl⟩
    rw [hs] at hd1 hsz ⊢
    clear hs
    have Hd := Aside0.mk hd1
    have Hs := Aside0.mk hsz
    clear hd1 hsz
    go_enter Tryd.func43, Tryd.ntmps43
    go_wp2
    go_loopg [5, 6] 1 (fun gf v5 v6 wx => ∃ pos : Nat, wx.heap[w.heap.size]? = some (.stringIter s pos) ∧ Below w.heap.size w wx ∧ pos + gf = 1)
    case atStart => exact ⟨0, World.iter_heap w s 0, (Below.refl _ w).alloc (Nat.le_refl _) _, rfl⟩
    case round =>
      obtain ⟨pos, hit, hbw, hp⟩ := hrel
      have hwd := Hs.out
      by_cases hps : pos < s.size
      · obtain ⟨g', rfl⟩ : ∃ g', gk = g' + 1 := ⟨gk - 1, by omega⟩
        obtain rfl : pos = 0 := by omega
        obtain rfl : g' = 0 := by omega
        have hnx : ∀ ty, (Instr.next (.pointer (some ⟨w.heap.size, 0, none⟩)) true ty).run Tryd.prog wr = _ := fun ty => Lib.run_next_any_at wr w.heap.size s 0 ty hit hps
        have hit2 := Lib.iterAt_heap wr w.heap.size s 0 (0 + 1) hit
        have hbw2 := Lib.below_iterAt hbw (k := w.heap.size) (Nat.le_refl _) s (0 + 1)
        rw [Hd.out] at hnx
        obtain ⟨W, hWd⟩ : ∃ W, wr.iterAt w.heap.size s (0 + 1) = W := ⟨_, rfl⟩
        rw [hWd] at hnx hit2 hbw2
        clear hwd
        go_wp2
        go_roundg 0
        case measure => omega
        case rel => exact ⟨1, hit2, hbw2, rfl⟩
      · have hnx : ∀ ty, (Instr.next (.pointer (some ⟨w.heap.size, 0, none⟩)) true ty).run Tryd.prog wr = _ := fun ty => Lib.run_next_end_at wr w.heap.size s pos ty hit hps
        clear hwd
        go_wp2
        go_ret
        exact ⟨rfl, hbw⟩
  · have i2 : decide (r = 65533) = false := decide_eq_false hE
    clear hx
    cases hv : Lib.validRune r with
    | false =>
      go_enter Tryd.func43, Tryd.ntmps43
      go_wp2_with (go_at_call 50; refine (Tryd.utf8_ValidRune r _).mono ?_; rw [hv]; rintro e w1 ⟨rfl, rfl⟩)
      go_ret
      exact ⟨rfl, Below.refl _ _⟩
    | true =>
      obtain ⟨S, hS⟩ : ∃ S, Utf8.encode r = S := ⟨_, rfl⟩
      have hcv : ∀ W, (convert 21 9 (.int .i32 r)).run Tryd.prog W = .ok (.string S) W := by
        intro W
        have u21 := run_underlying Tryd.underlying21
        have u9 := run_underlying Tryd.underlying9
        subst hS
        unfold convert
        go_simp
        rfl
      go_enter Tryd.func43, Tryd.ntmps43
      go_wp2_with (first
        | (go_at_call 50; refine (Tryd.utf8_ValidRune r _).mono ?_; rw [hv]; rintro e w1 ⟨rfl, hw⟩; rw [hw]))
      go_loud (go_wp2)
      subst hw
      have hz : 2 ≤ S.size ∧ S.size ≤ 4 := encode_two r S hS h128.out hE
      have hz2 := Aside0.mk hz
      have k2 : decide (wrap64 ((S.size : Int) - 1) < 1) = false := decide_eq_false (by rw [wrap64_id (by omega) (by omega)]; omega)
      clear hz
      refine wp_scope_straight ?_
      go_wp2
      go_loopg [9] 0 (fun gf v9 wx => wx = w1 ∧ v9 = .int .i64 (wrap64 ((S.size : Int) - 1)))
      case atStart => exact ⟨rfl, rfl⟩
      case round =>
        obtain ⟨rfl, rfl⟩ := hrel
        go_wp2
        show bodyPost Tryd.prog Tryd.f43 (fun e w' => e = Ending.returned (Value.int IntKind.i64 (-1)) ∧ Below wr.heap.size wr w') Exit.ret _ wr
        go_ret
        exact ⟨rfl, Below.refl _ _⟩

theorem index_ascii : ∀ x : Fin 128, ∀ b ∈ [(120 : UInt8), 42], decide (0 ≤ Lib.indexByte [b] ((x.val : Int).toNat.toUInt8)) = decide (x.val = b.toNat) := by decide +kernel

set_option maxHeartbeats 2000000 in
set_option maxRecDepth 1000000 in
theorem containsRune_one (b : UInt8) (hb : b = 120 ∨ b = 42) (x : Nat) (hx : x ≤ 1114111) (w : World) :
    Calls Tryd.prog 39 #[.string ⟨#[b]⟩, .int .i32 x] w fun e w' => e = .returned (.bool (decide (x = b.toNat))) ∧ Below w.heap.size w w' := by
  by_cases h : x < 128
  · have h1 := index_ascii ⟨x, h⟩ b (by rcases hb with rfl | rfl <;> simp)
    refine (Tryd.strings_ContainsRune_ascii ⟨#[b]⟩ x w (by omega) (by omega)).mono ?_
    rintro e w' ⟨rfl, rfl⟩
    refine ⟨?_, Below.refl _ _⟩
    rw [← h1]
  · have h2 : decide (x = b.toNat) = false := decide_eq_false (by rcases hb with rfl | rfl <;> simp <;> omega)
    rw [h2]
    have hI := indexRune_one b hb x (by omega) (by omega) w
    clear h hx hb h2
    go_enter Tryd.func39, Tryd.ntmps39
    go_wp2_with (go_at_call 43; refine hI.mono ?_; rintro e w1 ⟨rfl, hb1⟩)
    go_ret
    exact ⟨rfl, hb1⟩

/-- The runes that are the one sign. -/
def isSign (a1 : ByteArray) (c : Nat) : Bool := decide (c = (a1.data.toList.headD 0).toNat)

set_option maxHeartbeats 2000000 in
set_option maxRecDepth 1000000 in
theorem closure_calls (a1 : ByteArray) (h1 : a1 = ⟨#[120]⟩ ∨ a1 = ⟨#[42]⟩) (bk x : Nat) (hx : x ≤ 1114111) (w : World) (hc : w.cell? ⟨bk, 0, none⟩ = some (.string a1)) :
    Calls Tryd.prog 38 #[.int .i32 x, .pointer (some ⟨bk, 0, none⟩)] w fun e w' => e = .returned (.bool (isSign a1 x)) ∧ Below w.heap.size w w' := by
  have hI : ∀ W, Calls Tryd.prog 39 #[.string a1, .int .i32 x] W fun e w' => e = .returned (.bool (isSign a1 x)) ∧ Below W.heap.size W w' := by
    intro W
    rcases h1 with rfl | rfl
    · exact containsRune_one 120 (Or.inl rfl) x hx W
    · exact containsRune_one 42 (Or.inr rfl) x hx W
  clear h1 hx
  go_enter Tryd.func38, Tryd.ntmps38
  go_wp2_with (go_at_call 39; refine (hI _).mono ?_; rintro e w1 ⟨rfl, hb1⟩)
  go_ret
  exact ⟨rfl, hb1⟩

def strings_FieldsFunc.f (a0 : ByteArray) (a1 : ByteArray) : Option (List ByteArray) :=
  if a0.size ≤ 4294967296 ∧ (a1 = ⟨#[120]⟩ ∨ a1 = ⟨#[42]⟩) then some (Lib.goFieldsP (isSign a1) a0) else none

theorem strings_FieldsFunc.calls (a0 : ByteArray) (a1 : ByteArray) (r : List ByteArray) (w : World) (bk : Nat) (hc : w.cell? ⟨bk, 0, none⟩ = some (.string a1)) (h : strings_FieldsFunc.f a0 a1 = some r) :
    Calls Tryd.prog 37 #[.string a0, .func (.func 38) #[] #[.pointer (some ⟨bk, 0, none⟩)]] w fun e w' => ∃ v0_ : Value, e = .returned (v0_) ∧ Kd.R Kd.string 9 w' w.heap.size (fun _ => True) v0_ r ∧ Below w.heap.size w w' := by
  unfold strings_FieldsFunc.f at h
  split at h
  · rename_i hh
    obtain rfl := Option.some.inj h
    refine (Tryd.strings_FieldsFunc_grows 38 #[.pointer (some ⟨bk, 0, none⟩)] (enters_of Tryd.func38 (by kernel_rfl) rfl) (isSign a1) a0 w hh.1 ?_).mono ?_
    · intro W x hx hb
      exact closure_calls a1 hh.2 bk x hx W ((hb.cell (World.block_lt_of_cell? w _ hc)).trans hc)
    · rintro e w' ⟨A, rfl, hA, hown, hb⟩
      exact ⟨_, rfl, Kd.R_of_own hown (fun _ _ => trivial), hb⟩
  · cases h

theorem alloc_grows (w : World) (o : Obj) : w.heap.size < (w.alloc o).heap.size := by simp
theorem alloc_cell0 (w : World) (v : Value) (t : TypeId) (fr : Nat × Nat) : (w.alloc (.cells #[v] t fr)).cell? ⟨w.heap.size, 0, none⟩ = some v := by
  have h : (w.alloc (.cells #[v] t fr)).heap[w.heap.size]? = some (.cells #[v] t fr) := by
    show (w.heap.push (.cells #[v] t fr))[w.heap.size]? = _
    simp
  rw [Joins.cell_of_block h 0]
  rfl
end Go.Proofs.YtanagjgdklikbaaDoor.All
