/- RxS25, RxS26 in one text. -/
import Derived.Test.YtikjlgcbcljehaaGreatDoorRxS24
set_option linter.all false
/- The program's reader of words: rows of alternatives. -/
namespace Go.Vm.Rx
open Go Go.Proofs P
set_option linter.unusedVariables false
set_option linter.unusedSimpArgs false
set_option maxRecDepth 10000
set_option maxHeartbeats 400000
variable {l : List Word} (hl : l.length ≤ 1000000) (hw : ∀ w, w ∈ l → w.t.length ≤ 100000000)
/-- what a reader of the program comes to -/
def progOut (A : St) (k : Nat) (l : List Word) (o : Nat) (x : Except (Nat × Int) (Rx × Nat)) (r : Res × St) : Prop :=
  match x with
  | .ok (e, j) => r = (.ret (encRx e), st A k (psC l (j : Nat) (o : Nat)))
  | .error (a, c) => ∃ i' o' : Int, r = (.pan (.iface 103 (.agg [.int .i64 (a : Nat), .int .i64 c])), st A k (psC l i' o'))
/-- what the program's readers come to, by the bound on steps -/
structure ProgSpec (l : List Word) (n : Nat) : Prop where
  alt : ∀ A k o i x, k < A.length → i ≤ l.length → o ≤ 50 → pAlt l n o i = some x → Tot (progOut A k l o x) (f55 mL (Run Tryz.prog rxA) (Dcall Tryz.prog rxA) (.ref k 0) (st A k (psC l (i : Nat) (o : Nat))))
  alts : ∀ A k o i i0 acc b x r0 r1 r2, k < A.length → i0 < i → i ≤ l.length → acc ≠ [] → Rx.sizes acc + acc.length ≤ 2 * (i - i0) → Rx.Nms acc → AccOk b 3 (acc.map encRx) → o ≤ 50 → pAlts l n o i acc = some x →
    Tot (progOut A k l o x) (iterK (f55_s0 mL (Run Tryz.prog rxA) (Dcall Tryz.prog rxA) (st A k (psC l (i0 : Nat) (o : Nat)))) (Env.mk (sp [(0, .ref k 0), (1, .ref A.length 0), (0, accD b (A.length + 1) 3 (acc.map encRx))] 28) []) (st (accA b (A ++ [.cells [r0, r1, r2]]) (acc.map encRx)) k (psC l (i : Nat) (o : Nat))))
  seq : ∀ A k o i x, k < A.length → i ≤ l.length → o ≤ 50 → pSeq l n o i = some x → Tot (progOut A k l o x) (f79 mL (Run Tryz.prog rxA) (Dcall Tryz.prog rxA) (.ref k 0) (st A k (psC l (i : Nat) (o : Nat))))
  seqs : ∀ A k o i i0 acc b x r0 r1 r2, k < A.length → i0 < i → i ≤ l.length → acc ≠ [] → Rx.sizes acc + acc.length ≤ 2 * (i - i0) → Rx.Nms acc → AccOk b 3 (acc.map encRx) → o ≤ 50 → pSeqs l n o i acc = some x →
    Tot (progOut A k l o x) (iterK (f79_s0 mL (Run Tryz.prog rxA) (Dcall Tryz.prog rxA) (st A k (psC l (i0 : Nat) (o : Nat)))) (Env.mk (sp [(0, .ref k 0), (1, .ref A.length 0), (0, accD b (A.length + 1) 3 (acc.map encRx)), (0, .str (wordAt l i))] 38) []) (st (accA b (A ++ [.cells [r0, r1, r2]]) (acc.map encRx)) k (psC l (i : Nat) (o : Nat))))
  rep : ∀ A k o i x, k < A.length → i ≤ l.length → o ≤ 50 → pRep l n o i = some x → Tot (progOut A k l o x) (f97 mL (Run Tryz.prog rxA) (Dcall Tryz.prog rxA) (.ref k 0) (st A k (psC l (i : Nat) (o : Nat))))
  atom : ∀ A k o i x, k < A.length → i ≤ l.length → o ≤ 50 → pAtom l n o i = some x → Tot (progOut A k l o x) (f104 mL (Run Tryz.prog rxA) (Dcall Tryz.prog rxA) (.ref k 0) (st A k (psC l (i : Nat) (o : Nat))))
include hl hw
end Go.Vm.Rx

/- The program's reader of words: rows of parts. -/
namespace Go.Vm.Rx
open Go Go.Proofs P
set_option linter.unusedVariables false
set_option linter.unusedSimpArgs false
set_option linter.unusedSectionVars false
set_option maxRecDepth 10000
set_option maxHeartbeats 1000000
variable {l : List Word} (hl : l.length ≤ 1000000) (hw : ∀ w, w ∈ l → w.t.length ≤ 100000000)
include hl hw
end Go.Vm.Rx
