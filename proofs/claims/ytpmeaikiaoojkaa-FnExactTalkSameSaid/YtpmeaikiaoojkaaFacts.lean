/- The facts on the head of the translation that every claim of this seat needs. -/
import Derived.Test.YtpmeaikiaoojkaaRows
import Derived.WalkKit
import Derived.ProofKit
namespace Go.Proofs.Ytpmeaikiaoojkaa
def headNums : List Nat := [104, 97, 114, 110, 101, 115, 115, 32, 97, 50, 56, 57, 99, 101, 50, 99, 57, 102, 99, 101, 55, 98, 98, 56, 100, 102, 55, 51, 99, 51, 57, 55, 102, 101, 53, 100, 100, 99, 53, 54, 51, 97, 49, 53, 49, 53, 102, 50, 99, 55, 49, 56, 101, 49, 102, 54, 99, 49, 53, 101, 53, 54, 98, 57, 101, 99, 101, 49, 49, 50, 56, 52, 32, 99, 117, 116, 32, 97, 116, 32, 108, 111, 111, 112, 46, 101, 120, 97, 109, 112, 108, 101, 47, 101, 110, 103, 114, 111, 115, 115, 101, 114, 47, 108, 97, 119, 115, 46, 70, 110, 69, 120, 97, 99, 116, 67, 111, 110, 115, 116, 97, 110, 116, 115, 32, 108, 111, 111, 112, 46, 101, 120, 97, 109, 112, 108, 101, 47, 101, 110, 103, 114, 111, 115, 115, 101, 114, 47, 108, 97, 119, 115, 46, 70, 110, 69, 120, 97, 99, 116, 76, 101, 116, 116, 101, 114, 79, 107, 32, 108, 111, 111, 112, 46, 101, 120, 97, 109, 112, 108, 101, 47, 101, 110, 103, 114, 111, 115, 115, 101, 114, 47, 108, 97, 119, 115, 46, 70, 110, 69, 120, 97, 99, 116, 76, 101, 116, 116, 101, 114, 84, 101, 120, 116, 32, 108, 111, 111, 112, 46, 101, 120, 97, 109, 112, 108, 101, 47, 101, 110, 103, 114, 111, 115, 115, 101, 114, 47, 108, 97, 119, 115, 46, 70, 110, 76, 101, 116, 116, 101, 114, 66, 101, 110, 116, 32, 108, 111, 111, 112, 46, 101, 120, 97, 109, 112, 108, 101, 47, 101, 110, 103, 114, 111, 115, 115, 101, 114, 47, 108, 97, 119, 115, 46, 70, 110, 69, 120, 97, 99, 116, 76, 101, 116, 116, 101, 114, 115, 84, 101, 120, 116, 32, 108, 111, 111, 112, 46, 101, 120, 97, 109, 112, 108, 101, 47, 101, 110, 103, 114, 111, 115, 115, 101, 114, 47, 108, 97, 119, 115, 46, 70, 110, 69, 120, 97, 99, 116, 83, 101, 97, 116, 83, 97, 109, 101, 32, 108, 111, 111, 112, 46, 101, 120, 97, 109, 112, 108, 101, 47, 101, 110, 103, 114, 111, 115, 115, 101, 114, 47, 108, 97, 119, 115, 46, 70, 110, 84, 97, 108, 107, 83, 97, 109, 101, 32, 108, 111, 111, 112, 46, 101, 120, 97, 109, 112, 108, 101, 47, 101, 110, 103, 114, 111, 115, 115, 101, 114, 47, 108, 97, 119, 115, 46, 70, 110, 69, 120, 97, 99, 116, 84, 97, 108, 107, 83, 97, 109, 101]
def headWords : List (List Nat) := [[104, 97, 114, 110, 101, 115, 115], [97, 50, 56, 57, 99, 101, 50, 99, 57, 102, 99, 101, 55, 98, 98, 56, 100, 102, 55, 51, 99, 51, 57, 55, 102, 101, 53, 100, 100, 99, 53, 54, 51, 97, 49, 53, 49, 53, 102, 50, 99, 55, 49, 56, 101, 49, 102, 54, 99, 49, 53, 101, 53, 54, 98, 57, 101, 99, 101, 49, 49, 50, 56, 52], [99, 117, 116], [97, 116], [108, 111, 111, 112, 46, 101, 120, 97, 109, 112, 108, 101, 47, 101, 110, 103, 114, 111, 115, 115, 101, 114, 47, 108, 97, 119, 115, 46, 70, 110, 69, 120, 97, 99, 116, 67, 111, 110, 115, 116, 97, 110, 116, 115], [108, 111, 111, 112, 46, 101, 120, 97, 109, 112, 108, 101, 47, 101, 110, 103, 114, 111, 115, 115, 101, 114, 47, 108, 97, 119, 115, 46, 70, 110, 69, 120, 97, 99, 116, 76, 101, 116, 116, 101, 114, 79, 107], [108, 111, 111, 112, 46, 101, 120, 97, 109, 112, 108, 101, 47, 101, 110, 103, 114, 111, 115, 115, 101, 114, 47, 108, 97, 119, 115, 46, 70, 110, 69, 120, 97, 99, 116, 76, 101, 116, 116, 101, 114, 84, 101, 120, 116], [108, 111, 111, 112, 46, 101, 120, 97, 109, 112, 108, 101, 47, 101, 110, 103, 114, 111, 115, 115, 101, 114, 47, 108, 97, 119, 115, 46, 70, 110, 76, 101, 116, 116, 101, 114, 66, 101, 110, 116], [108, 111, 111, 112, 46, 101, 120, 97, 109, 112, 108, 101, 47, 101, 110, 103, 114, 111, 115, 115, 101, 114, 47, 108, 97, 119, 115, 46, 70, 110, 69, 120, 97, 99, 116, 76, 101, 116, 116, 101, 114, 115, 84, 101, 120, 116], [108, 111, 111, 112, 46, 101, 120, 97, 109, 112, 108, 101, 47, 101, 110, 103, 114, 111, 115, 115, 101, 114, 47, 108, 97, 119, 115, 46, 70, 110, 69, 120, 97, 99, 116, 83, 101, 97, 116, 83, 97, 109, 101], [108, 111, 111, 112, 46, 101, 120, 97, 109, 112, 108, 101, 47, 101, 110, 103, 114, 111, 115, 115, 101, 114, 47, 108, 97, 119, 115, 46, 70, 110, 84, 97, 108, 107, 83, 97, 109, 101], [108, 111, 111, 112, 46, 101, 120, 97, 109, 112, 108, 101, 47, 101, 110, 103, 114, 111, 115, 115, 101, 114, 47, 108, 97, 119, 115, 46, 70, 110, 69, 120, 97, 99, 116, 84, 97, 108, 107, 83, 97, 109, 101]]
theorem headIs : Try.prog.initOrder = String.ofList (headNums.map Char.ofNat) := by kernel_rfl
theorem wordsIs : wordsSigns (headNums.map Char.ofNat) = headWords.map (·.map Char.ofNat) := by kernel_rfl
theorem words : wordsSigns Try.prog.initOrder.toList = headWords.map (·.map Char.ofNat) := by rw [headIs, String.toList_ofList, wordsIs]
theorem and_mk {a b : Bool} (h : a = true) (k : b = true) : (a && b) = true := by rw [h, k]; rfl
theorem mayEnter_cut (P : Program) (c : List Char) (rest : List (List Char)) (h1 : behindMainWord (wordsSigns P.initOrder.toList) = c :: rest) (hc : (some c == some "cut".toList) = true)
    (hs : stripLifts liftWords (c :: rest) = ([], c :: rest)) (p1 : P.laysLater = false) (p2 : P.bearsReflect = false) (p3 : P.doorFits [] = true) : P.mayEnter = true := by
  unfold Program.mayEnter
  rw [h1]
  dsimp only
  rw [hs]
  dsimp only
  rw [p1, p2, p3, List.head?_cons, hc]
  simp
theorem headLifts_cut (P : Program) (c : List Char) (rest : List (List Char)) (h1 : behindMainWord (wordsSigns P.initOrder.toList) = c :: rest) (hc : (some c == some "cut".toList) = true)
    (hs : stripLifts liftWords (c :: rest) = ([], c :: rest)) : P.headLifts = [] := by
  unfold Program.headLifts
  rw [h1, hs]
  dsimp only
  rw [List.head?_cons, hc]
  rfl
theorem liftsFinal_cut (P : Program) (c : List Char) (rest : List (List Char)) (h1 : behindMainWord (wordsSigns P.initOrder.toList) = c :: rest) (hc : (some c == some "cut".toList) = true)
    (hn : (some c == some "carried".toList) = false)
    (hs : stripLifts liftWords (c :: rest) = ([], c :: rest)) : P.liftsFinal = false := by
  unfold Program.liftsFinal
  rw [headLifts_cut P c rest h1 hc hs, h1]
  dsimp only
  rw [List.head?_cons, hn]
  rfl
theorem make_cut (P : Program) (c : List Char) (rest : List (List Char)) (h1 : behindMainWord (wordsSigns P.initOrder.toList) = c :: rest) (hc : (c == "cut".toList) = true)
    (hn : (c == "gc".toList || c == "spec".toList) = false) : P.make = some .cut := by
  unfold Program.make
  rw [h1]
  dsimp only
  rw [hn, hc]
  rfl
theorem p1 : Try.prog.laysLater = false := by kernel_rfl
theorem p2 : Try.prog.bearsReflect = false := by kernel_rfl
theorem p3 : Try.prog.doorFits [] = true := by kernel_rfl
def cutCs : List Char := [Char.ofNat 99, Char.ofNat 117, Char.ofNat 116]
def restWs : List (List Char) := (headWords.drop 3).map (·.map Char.ofNat)
theorem p5 : behindMainWord (wordsSigns Try.prog.initOrder.toList) = cutCs :: restWs := by rw [words]; kernel_rfl
theorem p6 : stripLifts liftWords (cutCs :: restWs) = ([], cutCs :: restWs) := by kernel_rfl
theorem mayEnter : Try.prog.mayEnter = true := mayEnter_cut _ _ _ p5 (by kernel_rfl) p6 p1 p2 p3
theorem liftsFinal : Try.prog.liftsFinal = false := liftsFinal_cut _ _ _ p5 (by kernel_rfl) (by kernel_rfl) p6
theorem makeIs : Try.prog.make = some .cut := make_cut _ _ _ p5 (by kernel_rfl) (by kernel_rfl)
end Go.Proofs.Ytpmeaikiaoojkaa
