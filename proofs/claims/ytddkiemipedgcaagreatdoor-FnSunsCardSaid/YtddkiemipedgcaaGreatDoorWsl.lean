/-
  Texts cut at a byte: the library's functions and the reference's.
-/
import Derived.Test.YtddkiemipedgcaaGreatDoorPw
import Derived.Test.YtddkiemipedgcaaGreatDoorOs
import Derived.Test.YtddkiemipedgcaaGreatDoorSs
import Derived.Test.YtddkiemipedgcaaGreatDoorWpr
namespace Go.Proofs.YtddkiemipedgcaaGreatDoor
open Go.RowKit Go.Proofs.Fl Go.Proofs.Pl Go.Proofs.Hx
open Go.Lib hiding intOf
set_option linter.unusedVariables false
/-- The library's own variable holds some number. -/
def Mx (w : World) : Prop := ∃ m, w.cell? ⟨Tryz.laysM145_ren.g 1, 0, none⟩ = some (.int .i64 m)
theorem Mx.below {w w' : World} (h : Mx w) (hb : Below w.heap.size w w') : Mx w' := by
  obtain ⟨m, hm⟩ := h
  exact ⟨m, (hb.cell (World.block_lt_of_cell? w _ hm)).trans hm⟩
theorem mx_of {w : World} (h : w.ShapedOpen Tryz.prog) : Mx w := Tryz.laysM145.s1_3 w h
theorem cut_at (s : ByteArray) (hs : s.size ≤ 1048576) (w : World) (hM : Mx w) :
    Calls Tryz.prog 53 #[.string s, .string ⟨#[64]⟩] w fun e w' => (∃ A B ok, e = .returned (.tuple #[.string A, .string B, .bool ok]) ∧ cut s.data.toList [64] = (A.data.toList, B.data.toList, ok) ∧ A.size ≤ 1048576 ∧ B.size ≤ 1048576) ∧ Below w.heap.size w w' := by
  obtain ⟨m, hm⟩ := hM
  refine (Any.strings_Cut { Tryz.laysM145 with } s ⟨#[64]⟩ m w (by omega) hm).mono ?_
  rintro e w' ⟨rfl, k, rfl⟩
  refine ⟨⟨_, _, _, rfl, rfl, ?_, ?_⟩, ⟨rfl, rfl, rfl, Nat.le_refl _, fun _ _ => rfl⟩⟩
  all_goals
    show (List.toArray _).size ≤ _
    rw [List.size_toArray]
    have hl := Lib.size_eq s
    rcases cut_cases 64 s.data.toList with ⟨_, h2⟩ | ⟨p, q, _, h2, h3⟩
    · rw [show ((⟨#[64]⟩ : ByteArray).data.toList) = [64] from rfl, h2]; simp; try omega
    · rw [show ((⟨#[64]⟩ : ByteArray).data.toList) = [64] from rfl, h3]
      have := congrArg List.length h2
      simp at this ⊢
      omega
/-- How 'Split' ends: the words lie in a row of their own. -/
def SplitPost (w : World) (l : List UInt8) (e : Ending) (w' : World) : Prop := ∃ (xs : List ByteArray) (g : Nat), xs.map (·.data.toList) = splitL 32 l ∧ e = .returned (.slice (some ⟨g, 0, none⟩) xs.length xs.length) ∧ w.heap.size ≤ g ∧ Row w' g (xs.map Value.string).toArray ∧ Below w.heap.size w w' ∧ ∀ x ∈ xs, x.size ≤ 1048576
theorem words_size {c : UInt8} : ∀ {l : List UInt8} {x : List UInt8}, x ∈ splitL c l → x.length ≤ l.length
  | [], x, h => by
    simp [splitL] at h
    subst h; simp
  | b :: r, x, h => by
    unfold splitL at h
    split at h
    · rcases List.mem_cons.1 h with rfl | h
      · simp
      · have := words_size h; simp; omega
    · cases hs : splitL c r with
      | nil => exact absurd hs (splitL_ne_nil c r)
      | cons y t =>
        rw [hs] at h
        rcases List.mem_cons.1 h with rfl | h
        · have := words_size (c := c) (l := r) (x := y) (by rw [hs]; exact List.mem_cons_self)
          simp; omega
        · have := words_size (c := c) (l := r) (x := x) (by rw [hs]; exact List.mem_cons_of_mem _ h)
          simp; omega
theorem words_small {c : UInt8} {T : ByteArray} (hT : T.size ≤ 1048576) {xs : List ByteArray} (hx : xs.map (·.data.toList) = splitL c T.data.toList) : ∀ x ∈ xs, x.size ≤ 1048576 := fun x h => by
  have : x.data.toList ∈ splitL c T.data.toList := by rw [← hx]; exact List.mem_map.2 ⟨x, h, rfl⟩
  have := words_size this
  rw [← Lib.size_eq, ← Lib.size_eq] at this
  omega
theorem split_at (s : ByteArray) (hs : s.size ≤ 1048576) (w : World) (hM : Mx w) :
    Calls Tryz.prog 52 #[.string s, .string ⟨#[32]⟩] w fun e w' => SplitPost w s.data.toList e w' := by
  obtain ⟨m, hm⟩ := hM
  refine (Any.strings_Split { Tryz.laysM146 with } Tryz.laysM146.i9 s ⟨#[32]⟩ m w (by omega) hm (by decide)).mono ?_
  rintro e w' ⟨rfl, rfl⟩
  have hx := splitB_eq (sep := ⟨#[32]⟩) (c := 32) rfl s
  exact ⟨_, w.heap.size, hx, by rw [splitB_len (sep := ⟨#[32]⟩) (c := 32) rfl], Nat.le_refl _, Row.new _ _ _, (Below.refl _ _).alloc (Nat.le_refl _) _, words_small hs hx⟩
end Go.Proofs.YtddkiemipedgcaaGreatDoor
