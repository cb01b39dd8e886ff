import Derived.Test.YtaajombljiiigaaRows
import Derived.JoinedOf
import Derived.KernelRfl
namespace Go.Proofs.Ytaajombljiiigaa
open Go

theorem words_ne : ∀ a : List Char, wordsSigns a ≠ [] := by
  intro a
  fun_cases wordsSigns a <;> simp

/-- Words of two texts with a blank between them. -/
theorem words_app (r : List Char) : ∀ a : List Char, wordsSigns (a ++ (" ".toList ++ r)) = wordsSigns a ++ wordsSigns r := by
  intro a
  fun_induction wordsSigns a with
  | case1 => rfl
  | case2 a ih => rw [List.cons_append]; simp only [wordsSigns, ih, List.cons_append]
  | case3 c a hc w ws hw ih =>
    rw [List.cons_append]
    rw [hw] at ih
    rw [wordsSigns, ih]
    · rfl
    · exact hc
  | case4 c a hc hw ih => exact absurd hw (words_ne a)

set_option maxRecDepth 100000 in
theorem io : ∃ L : List Char, Try.prog.initOrder = String.ofList L ∧ (∀ W, behindMainWord (wordsSigns (L.take 76) ++ W) = "cut".toList :: W) ∧ L.drop 76 = " ".toList ++ L.drop 77 :=
  ⟨_, rfl, fun W => by kernel_rfl, by kernel_rfl⟩

theorem io_words : ∃ W, behindMainWord (wordsSigns Try.prog.initOrder.toList) = "cut".toList :: W := by
  obtain ⟨L, h1, h2, h3⟩ := io
  refine ⟨wordsSigns (L.drop 77), ?_⟩
  rw [h1, String.toList_ofList, ← List.take_append_drop 76 L, h3, words_app, h2]
  rw [← h3, List.take_append_drop]

theorem make_of (P : Program) (W : List (List Char)) (h : behindMainWord (wordsSigns P.initOrder.toList) = "cut".toList :: W) : P.make = some .cut := by
  unfold Program.make
  rw [h]
  show (if ("cut".toList == "gc".toList || "cut".toList == "spec".toList) = true then _ else _) = _
  rw [if_neg (by decide), if_pos (by simp)]

theorem strip_of (W : List (List Char)) : stripLifts liftWords ("cut".toList :: W) = ([], "cut".toList :: W) := by kernel_rfl

theorem lifts_of (P : Program) (W : List (List Char)) (h : behindMainWord (wordsSigns P.initOrder.toList) = "cut".toList :: W) : P.liftsFinal = false := by
  unfold Program.liftsFinal Program.headLifts
  rw [h, strip_of]
  rfl

theorem enter_of (P : Program) (W : List (List Char)) (h : behindMainWord (wordsSigns P.initOrder.toList) = "cut".toList :: W) (h1 : P.laysLater = false) (h2 : P.bearsReflect = false) (h3 : P.doorFits [] = true) : P.mayEnter = true := by
  unfold Program.mayEnter
  rw [h]
  show (_ || _ || ((stripLifts liftWords ("cut".toList :: W)).2.head? == some "cut".toList && _ && _ && _ && _)) = true
  rw [strip_of, h1, h2, h3]
  simp

theorem make_ok : Try.prog.make = some .cut := by
  obtain ⟨W, h⟩ := io_words
  exact make_of _ W h
theorem lifts_ok : Try.prog.liftsFinal = false := by
  obtain ⟨W, h⟩ := io_words
  exact lifts_of _ W h
theorem lays_ok : Try.prog.laysLater = false := by kernel_rfl
theorem refl_ok : Try.prog.bearsReflect = false := by kernel_rfl
theorem door_ok : Try.prog.doorFits [] = true := by kernel_rfl
theorem enter_ok : Try.prog.mayEnter = true := by
  obtain ⟨W, h⟩ := io_words
  exact enter_of _ W h lays_ok refl_ok door_ok

end Go.Proofs.Ytaajombljiiigaa
