/- The head of the translation: what the row's closed facts ask of its words, read off its first three words alone (the whole head, evaluated at once, is too long for the kernel). -/
import Derived.Test.YtfehhbmmdbpdpaaRows
import Derived.JoinedOf
import Derived.JoinedCond
namespace Go.Proofs.Ytfehhbmmdbpdpaa
open Go

theorem wordsSigns_append (r : List Char) : ∀ w : List Char, (∀ c ∈ w, c ≠ Char.ofNat 32) → wordsSigns (w ++ Char.ofNat 32 :: r) = w :: wordsSigns r
  | [], _ => rfl
  | c :: w, h => by
    have ih := wordsSigns_append r w (fun x hx => h x (List.mem_cons_of_mem _ hx))
    have hc : c ≠ Char.ofNat 32 := h c List.mem_cons_self
    rw [List.cons_append, wordsSigns, ih]
    exact hc

def word1 : List Char := [104, 97, 114, 110, 101, 115, 115].map Char.ofNat
def word2 : List Char := [49, 99, 102, 98, 99, 101, 55, 50, 53, 98, 100, 49, 55, 99, 54, 99, 52, 55, 50, 48, 100, 53, 56, 54, 49, 102, 48, 101, 55, 50, 101, 54, 97, 102, 102, 57, 56, 51, 53, 53, 54, 57, 100, 55, 50, 98, 57, 56, 102, 54, 98, 53, 48, 55, 55, 49, 56, 101, 102, 97, 50, 52, 54, 51].map Char.ofNat
def wordCut : List Char := [99, 117, 116].map Char.ofNat

set_option maxRecDepth 100000 in
theorem initOrder_eq : ∃ more : List Char, Try.prog.initOrder = String.ofList (word1 ++ Char.ofNat 32 :: (word2 ++ Char.ofNat 32 :: (wordCut ++ Char.ofNat 32 :: more))) := ⟨_, rfl⟩
theorem headCut_of (P : Program) (more : List Char) (h0 : P.initOrder = String.ofList (word1 ++ Char.ofNat 32 :: (word2 ++ Char.ofNat 32 :: (wordCut ++ Char.ofNat 32 :: more)))) : behindMainWord (wordsSigns P.initOrder.toList) = wordCut :: wordsSigns more := by
  rw [h0, String.toList_ofList, wordsSigns_append _ word1 (by decide), wordsSigns_append _ word2 (by decide), wordsSigns_append _ wordCut (by decide)]
  generalize wordsSigns more = W
  have h : ((word1 == "harness".toList || word1 == "ownmain".toList) && isSumSigns word2) = true := by decide +kernel
  show (if ((word1 == "harness".toList || word1 == "ownmain".toList) && isSumSigns word2) = true then wordCut :: W else word1 :: word2 :: wordCut :: W) = wordCut :: W
  rw [if_pos h]
theorem headCut : ∃ W, behindMainWord (wordsSigns Try.prog.initOrder.toList) = wordCut :: W := initOrder_eq.elim fun m h => ⟨_, headCut_of _ m h⟩

theorem strip_cut (W : List (List Char)) : stripLifts liftWords (wordCut :: W) = ([], wordCut :: W) := by
  have h : ∀ ls : List String, (∀ s ∈ ls, (wordCut == s.toList) = false) → stripLifts ls (wordCut :: W) = ([], wordCut :: W) := by
    intro ls
    induction ls with
    | nil => intro _; rfl
    | cons s ls ih =>
      intro hs
      rw [stripLifts, if_neg (by rw [hs s List.mem_cons_self]; decide), ih (fun x hx => hs x (List.mem_cons_of_mem _ hx))]
  exact h _ (by decide +kernel)

theorem laysLater_no : Try.prog.laysLater = false := by kernel_rfl
theorem bearsReflect_no : Try.prog.bearsReflect = false := by kernel_rfl
theorem doorFits_yes : Try.prog.doorFits [] = true := by kernel_rfl
theorem headLifts_of (P : Program) (W : List (List Char)) (h : behindMainWord (wordsSigns P.initOrder.toList) = wordCut :: W) : P.headLifts = [] := by
  unfold Program.headLifts
  rw [h, strip_cut]
  dsimp only
  split <;> rfl
theorem mayEnter_of (P : Program) (W : List (List Char)) (h : behindMainWord (wordsSigns P.initOrder.toList) = wordCut :: W) (k1 : P.laysLater = false) (k2 : P.bearsReflect = false) (k3 : P.doorFits [] = true) : P.mayEnter = true := by
  unfold Program.mayEnter
  rw [h]
  simp only [strip_cut, k1, k2, k3]
  have h1 : (wordCut == "gc".toList) = false := by decide +kernel
  have h2 : (wordCut == "spec".toList) = false := by decide +kernel
  have h3 : (wordCut == "carried".toList) = false := by decide +kernel
  have h4 : (some wordCut == some "cut".toList) = true := by decide +kernel
  simp only [h1, h2, h3, h4, Bool.or_self, Bool.false_and, Bool.false_or, List.head?_cons, Bool.not_false, Bool.and_true, Bool.or_true, Bool.true_and]
  decide
theorem make_of (P : Program) (W : List (List Char)) (h : behindMainWord (wordsSigns P.initOrder.toList) = wordCut :: W) : P.make = some .cut := by
  unfold Program.make
  rw [h]
  have h1 : (wordCut == "gc".toList) = false := by decide +kernel
  have h2 : (wordCut == "spec".toList) = false := by decide +kernel
  have h4 : (wordCut == "cut".toList) = true := by decide +kernel
  simp only [h1, h2, h4, Bool.or_self, Bool.true_or, if_true, if_false, Bool.false_eq_true]
theorem liftsFinal_of (P : Program) (W : List (List Char)) (h : behindMainWord (wordsSigns P.initOrder.toList) = wordCut :: W) : P.liftsFinal = false := by
  unfold Program.liftsFinal
  rw [h, headLifts_of P W h]
  have h5 : (some wordCut == some "carried".toList) = false := by decide +kernel
  simp only [List.head?_cons, h5, Bool.false_and, Bool.false_or]
  rfl
theorem mayEnter_yes : Try.prog.mayEnter = true := headCut.elim fun W h => mayEnter_of _ W h laysLater_no bearsReflect_no doorFits_yes
theorem make_cut : Try.prog.make = some .cut := headCut.elim fun W h => make_of _ W h
theorem liftsFinal_no : Try.prog.liftsFinal = false := headCut.elim fun W h => liftsFinal_of _ W h

end Go.Proofs.Ytfehhbmmdbpdpaa
