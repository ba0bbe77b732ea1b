/- What the printed functions that write numbers answer: a number below 100 in decimal, and numbers with a text between them. Conditions: numbers from 0 to 99; at most a million of them. -/
import Derived.Test.YtanagjgdklikbaaDoorAx1
import Derived.Test.YtanagjgdklikbaaDoorAx11
import Derived.Test.YtanagjgdklikbaaDoorPEv
import Derived.Lib.SmallJoins
namespace Go.Proofs.YtanagjgdklikbaaDoor.PText
open Go.RowKit Go.Proofs.YtanagjgdklikbaaDoor.All Go.Proofs.YtanagjgdklikbaaDoorW.PrintWords Go.Proofs.YtanagjgdklikbaaDoorW.PrintLast Go.Proofs.YtanagjgdklikbaaDoor.PEv
set_option linter.unusedSimpArgs false
set_option linter.unusedVariables false

def dd (n : Nat) : List UInt8 := if n < 10 then [UInt8.ofNat (48 + n)] else [UInt8.ofNat (48 + n / 10), UInt8.ofNat (48 + n % 10)]
theorem dec_small (n : Nat) (h : n < 100) : Lib.decDigits n = dd n := by
  unfold Lib.decDigits dd
  by_cases c : n < 10
  · rw [dif_pos c, if_pos c]
  · rw [dif_neg c, if_neg c]
    unfold Lib.decDigits
    rw [dif_pos (by omega)]
    rfl
theorem dd_len (n : Nat) : (dd n).length ≤ 2 := by
  unfold dd
  split <;> simp
def num (n : Int) : ByteArray := ⟨(dd n.toNat).toArray⟩
theorem num_all : ∀ n : Fin 100, spec_l1Num.f 3 (n.val : Int) = some (num (n.val : Int)) := by decide +kernel
theorem num_ev (n : Int) (h0 : 0 ≤ n) (h1 : n < 100) : Ev (fun k => spec_l1Num.f k n) (num n) := by
  obtain ⟨m, rfl⟩ := Int.eq_ofNat_of_zero_le h0
  exact Ev.of (fun k => spec_l1Num.mono _ k) (k := 3) (num_all ⟨m, by omega⟩)
theorem itoa_eq (n : Int) (h0 : 0 ≤ n) (h1 : n < 100) : strconv_Itoa.f n = some (num n) := by
  unfold strconv_Itoa.f num
  rw [if_pos ⟨h0, h1⟩, dec_small _ (by omega)]
/-- The text of numbers with a text between them. -/
def txt (l : List Int) (sep : ByteArray) : ByteArray := ⟨(Lib.join (l.map (fun n => dd n.toNat)) sep.data.toList).toArray⟩
theorem tail_len (sep : List UInt8) : ∀ l : List Int, (Lib.joinTail sep (l.map (fun n => dd n.toNat))).length ≤ l.length * (sep.length + 2)
  | [] => by simp [Lib.joinTail]
  | x :: r => by
    have ih := tail_len sep r
    have h2 := dd_len x.toNat
    simp only [Lib.joinTail, List.map_cons, List.flatten_cons, List.length_append, List.length_cons] at ih ⊢
    rw [Nat.succ_mul]
    omega
theorem join_len (sep : List UInt8) (l : List Int) : (Lib.join (l.map (fun n => dd n.toNat)) sep).length ≤ l.length * (sep.length + 2) + 2 := by
  cases l with
  | nil => simp [Lib.join_nil]
  | cons x r =>
    have ih := tail_len sep r
    have h2 := dd_len x.toNat
    rw [List.map_cons, Lib.join_cons, List.length_append, List.length_cons, Nat.succ_mul]
    omega
theorem join_eq (l : List Int) (sep : ByteArray) (hl : l.length ≤ 1000000) (hs : sep.size ≤ 1000000) : strings_Join.f (l.map num) sep = some (txt l sep) := by
  unfold strings_Join.f txt
  have e : (l.map num).map (fun x => x.data.toList) = l.map (fun n => dd n.toNat) := by
    rw [List.map_map]
    rfl
  rw [e, if_pos]
  refine ⟨by simp; omega, ?_⟩
  have h := join_len sep.data.toList l
  have h2 : sep.data.toList.length ≤ 1000000 := by simpa using hs
  have h3 : l.length * (sep.data.toList.length + 2) ≤ 1000000 * (1000000 + 2) := Nat.mul_le_mul hl (by omega)
  omega
theorem joined_go (l : List Int) (sep : ByteArray) (hl : l.length ≤ 1000000) (hs : sep.size ≤ 1000000) (hn : ∀ n ∈ l, 0 ≤ n ∧ n < 100) : ∀ (d i : Nat), i ≤ l.length → l.length - i = d →
    Ev (fun k => impl_joined.l0 k sep ((l.take i).map num) l (l.length : Int) (i : Int)) (txt l sep) := by
  intro d
  induction d with
  | zero =>
    intro i h1 h2
    rw [List.take_of_length_le (by omega)]
    refine Ev.step (f := fun _ => some (txt l sep)) (fun k => ?_) (Ev.now _)
    simp only [impl_joined.l0]
    rw [if_neg (by omega), join_eq l sep hl hs, Option.bind_some]
  | succ d ih =>
    intro i h1 h2
    have hi : i < l.length := by omega
    have er : rd l (i : Int) = l[i] := by simp [rd, List.getD_eq_getElem?_getD, hi]
    have hw2 : wrap64 ((i : Int) + 1) = ((i + 1 : Nat) : Int) := by rw [wrap_in (x := (i : Int) + 1) (by omega) (by omega)]; omega
    have hin := hn l[i] (List.getElem_mem hi)
    have et : (l.take i).map num ++ [num l[i]] = (l.take (i + 1)).map num := by rw [List.take_succ_eq_append_getElem hi, List.map_append]; rfl
    have HW2 := Aside0.mk hw2
    have ER := Aside0.mk er
    have ET := Aside0.mk et
    clear hw2 er et
    refine Ev.step (f := fun k => impl_joined.l0 k sep ((l.take (i + 1)).map num) l (l.length : Int) ((i + 1 : Nat) : Int)) (fun k => ?_) (ih (i + 1) (by omega) (by omega))
    simp only [impl_joined.l0]
    rw [if_pos (by omega), if_pos (by omega), if_pos (by omega), ER.out, itoa_eq _ hin.1 hin.2, Option.bind_some, if_pos (by simp; omega), HW2.out, ET.out]
theorem joined_ev (l : List Int) (sep : ByteArray) (hl : l.length ≤ 1000000) (hs : sep.size ≤ 1000000) (hn : ∀ n ∈ l, 0 ≤ n ∧ n < 100) : Ev (fun k => impl_joined.f k l sep) (txt l sep) :=
  Ev.congr (fun k => rfl) (joined_go l sep hl hs hn l.length 0 (Nat.zero_le _) rfl)
/-- Two texts with the same letters are one. -/
theorem bytes_ext {a b : ByteArray} (h : a.data.toList = b.data.toList) : a = b := by
  obtain ⟨⟨x⟩⟩ := a
  obtain ⟨⟨y⟩⟩ := b
  simp only at h
  rw [h]
theorem txt_data (l : List Int) (sep : ByteArray) : (txt l sep).data.toList = Lib.join (l.map (fun n => dd n.toNat)) sep.data.toList := by simp [txt]
theorem num_size (n : Int) : (num n).size ≤ 2 := by
  have := dd_len n.toNat
  simpa [num, ByteArray.size] using this
end Go.Proofs.YtanagjgdklikbaaDoor.PText
