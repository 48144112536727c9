/- RxS76, RxS77, RxS35 in one text. -/
import Derived.Test.YtagmpieoalkneaaGreatDoorRxS75
import Derived.Test.YtagmpieoalkneaaGreatDoorRxI8
import Derived.Test.YtagmpieoalkneaaGreatDoorRxS60
set_option linter.all false
/- Which invariants may be: both texts. -/
namespace Go.Vm.Rx
open Go Go.Proofs P
set_option maxRecDepth 10000
set_option maxHeartbeats 4000000
def ahead (l : List Str) (i : Nat) : Option Str:=if i = 0 then none else some (l.getD (i - 1) [])
theorem ahead_succ {l t : List Str} {i : Nat} {x : Str} (h : l.drop i = x :: t) : ahead l (i + 1) = some x:=by
  unfold ahead
  have h1:=drop_lt h
  have:=List.drop_eq_getElem_cons h1
  rw [h] at this
  rw [if_neg (by omega),Nat.add_sub_cancel,List.getD_eq_getElem?_getD,List.getElem?_eq_getElem h1,Option.getD_some,(List.cons.inj this).1]
theorem idx_ahead {l : List Str} {i : Nat} (h0 : i ≠ 0) (h : i < l.length) : indexAddrO 1 false (encL 1 (l.map .str)) (.int .i64 ((i : Int) - 1)) = some (.peek [.str (l.getD (i - 1) [])]):=by
  have e : ((i : Int) - 1) = ((i - 1 : Nat) : Int):=by omega
  rw [e,idx_map (by omega : i - 1 < l.length),List.getD_eq_getElem?_getD,List.getElem?_eq_getElem (by omega)]
  rfl
theorem s36 (n a b : Int) (A : St) : f36 (.int .i64 n) (.int .i64 a) (.int .i64 b) A = some (.ret (.bool (decide (a ≤ n ∧ n ≤ b))),A):=by
  unfold f36 n36; dsimp only
  refine qbc ?_
  by_cases h1 : a ≤ n
  · by_cases h2 : n ≤ b
    · rw [decide_eq_true ⟨h1,h2⟩]
      (repeat' first | (with_reducible first | apply qab | apply qa4 | apply qbn | apply qai | apply qaw (b:=true) | apply qaa (b:=true) | apply tot_iftt | (apply tot_leq_t; omega) | (apply tot_geq_t; omega)))
      ((try conv => arg 2; simp only [qbm,qac,qa9,qal,qae,List.take_length,qa3,qad,qag]); refine qak ?_)
      rfl
    · rw [decide_eq_false (fun h => h2 h.2)]
      (repeat' first | (with_reducible first | apply qab | apply qa4 | apply qbn | apply qai | apply qaw (b:=true) | apply qaa (b:=true) | apply tot_iftt | (apply tot_leq_f; omega) | (apply tot_geq_t; omega)))
      ((try conv => arg 2; simp only [qbm,qac,qa9,qal,qae,List.take_length,qa3,qad,qag]); refine qak ?_)
      rfl
  · rw [decide_eq_false (fun h => h1 h.1)]
    (repeat' first | (with_reducible first | apply qab | apply qa4 | apply qbn | apply qai | apply qaw (b:=false) | apply qaa (b:=false) | apply tot_ifft | (apply tot_geq_f; omega)))
    ((try conv => arg 2; simp only [qbf,qac,qa9,qal,qae,List.take_length,qa3,qad,qag]); refine qak ?_)
    rfl
section
variable (v : Iv) (hv : IvOk v) (hs : ∀ s,s ∈ v.ing → s.length < 4611686018427387904) (hnm : v.nm.length < 4611686018427387904) (hpk : v.pk.length < 4611686018427387904) (A : St)
include hv hs
theorem s14_loop : ∀ (t : List Str) (i : Nat) (ok : Bool),v.ing.drop i = t → i ≤ v.ing.length →
    LP Tryz.prog rxA 14 [0,1,0,1,1] [A] (Env.mk (sp [(1,.ref A.length 0),(1,.bool ok),(33,encL 1 (v.ing.map .str)),(0,.int .i64 (v.ing.length : Nat)),(0,.int .i64 (i : Nat))] 29) []) (A ++ [.cells (ivC v)]) = some (.ret (.int .i64 (if (ok && risT (ahead v.ing i) t) = true then v.path.check else 120)),A):=by
  have hlen:=hv.2
  have hchk:=fun A => s37 v.path hv.1 A
  have hsh:=str_shut v.ing 1
  have hrs : (D.ref A.length 0).shut (A.length + 1) = .ref A.length 0:=shut_ref _ (by omega)
  have hbn : ∀ b : Bool,unD UnOp.not (.bool b) = some (.bool (!b)):=fun _ => rfl
  intro t
  induction t with
  | nil =>
    intro i ok ht hi
    have h1:=drop_len ht
    have e : (ok && risT (ahead v.ing i) []) = ok:=by simp [risT]
    rw [e]
    refine qbc (qbj (q14_0 ..) ?_)
    unfold n14_0; dsimp only
    cases ok
    · (repeat' first | (with_reducible first | apply qai | apply qaa (b:=true) | apply qaa (b:=false) | apply qaq | apply qao) | ((conv => arg 2; arg 1; simp only [Option.map_some,qar,un_not,Bool.not_false,qa6,qbd,qbb]); (with_reducible first | apply qab | (apply qba; omega))))
      ((try conv => arg 2; simp (disch:=first | omega | assumption) only [qac,qaj,qaz,qae,qah,qad,qag,List.take_left']); refine qak ?_)
      rfl
    · (repeat' first | (with_reducible first | apply qa4 | apply qat | apply qai | apply qaa (b:=false) | apply qao) | ((conv => arg 2; arg 1; simp (disch:=first | omega | assumption) only [Option.map_some,qar,qaf,Nat.zero_add,un_not,Bool.not_true,qa6,qbd,qbb,qbp,ldc0,ivc6,rx_canon,r37,hchk]); (with_reducible first | apply qab | (apply qba; omega))))
      ((try conv => arg 2; simp (disch:=first | omega | assumption) only [qac,qaj,qaz,qae,qah,qad,qag,List.take_left']); refine qak ?_)
      rfl
  | cons x t ih =>
    intro i ok ht hi
    have h1:=drop_lt ht
    have hx:=idx_drop (f:=D.str) ht 1 false .i64
    have hn:=fun A => s34 x (hs x (drop_mem ht)) A
    have hah:=ahead_succ ht
    have hih:=fun ok => ih (i + 1) ok (qbt ht) (by omega)
    rw [hah] at hih
    refine qbc (qbj (q14_0 ..) ?_)
    unfold n14_0; dsimp only
    cases ok
    · have e : (false && risT (ahead v.ing i) (x :: t)) = (false && risT (some x) t):=rfl
      rw [e]
      (repeat' first | (with_reducible first | apply qab | apply qa4 | apply qbn | apply qat | apply tp_gk | apply tot_gbn | apply qaa (b:=true) | apply qaq | apply qao | apply tot_ifft) | ((conv => arg 2; arg 1; simp (disch:=first | omega | assumption) only [qbf,qa7,qa2,qal,qbg,qa5,qa6,qbd,qbb,qa0,cell_str,hx]); (with_reducible first | apply qab | apply qbi | apply qaw (b:=false) | apply qaa (b:=false) | (apply qa1; omega))))
      (refine qa8 ?_; (conv => lhs; simp (disch:=first | omega | assumption) only [qbf,qaj,qa9,qbr,shut_ref,List.map_nil,Nat.zero_add,List.length_append,List.length_cons,List.length_nil,qa6,qbd,qbb,take_n1]); rw [hsh]; exact hih false)
    · rw [risT_cons]
      cases hnx : isName x
      · rw [hnx] at hn
        have e : (true && (false && lessO (ahead v.ing i) x && risT (some x) t)) = (false && risT (some x) t):=by simp
        rw [e]
        (repeat' first | (with_reducible first | apply qab | apply qa4 | apply qbn | apply qat | apply tp_gk | apply tot_gbn | apply qaa (b:=true) | apply qaq | apply qao | apply tot_iftt | apply tot_ifft) | ((conv => arg 2; arg 1; simp (disch:=first | omega | assumption) only [qbm,qa7,qa2,qal,qbg,qa5,qa6,qbd,qbb,qa0,qap,cell_str,hx,r34,hn]); (with_reducible first | apply qab | apply qbi | apply qaw (b:=true) | apply qaw (b:=false) | apply qaa (b:=true) | apply qaa (b:=false) | (apply qa1; omega))))
        (refine qa8 ?_; (conv => lhs; simp (disch:=first | omega | assumption) only [qbf,qaj,qa9,qbr,shut_ref,List.map_nil,Nat.zero_add,List.length_append,List.length_cons,List.length_nil,qa6,qbd,qbb,take_n1]); rw [hsh]; exact hih false)
      · rw [hnx] at hn
        by_cases h0 : i = 0
        · subst h0
          have e : (true && (true && lessO (ahead v.ing 0) x && risT (some x) t)) = (true && risT (some x) t):=by simp [ahead,lessO]
          rw [e]
          (repeat' first | (with_reducible first | apply qab | apply qa4 | apply qbn | apply qat | apply tp_gk | apply qaw (b:=true) | apply qaa (b:=true) | apply qaq | apply tot_iftt | apply tot_iftf) | ((conv => arg 2; arg 1; simp (disch:=first | omega | assumption) only [qbm,qa7,qa2,qal,qbg,qa5,qa6,qbd,qbb,qa0,qap,cell_str,hx,r34,hn]); (with_reducible first | apply qab | apply qbi | apply qaw (b:=true) | apply qaa (b:=true) | (apply qa1; omega) | (apply tot_eql_t; omega))))
          (refine qa8 ?_; (conv => lhs; simp (disch:=first | omega | assumption) only [qbm,qaj,qa9,qbr,shut_ref,List.map_nil,Nat.zero_add,List.length_append,List.length_cons,List.length_nil,qa6,qbd,qbb,take_n1]); rw [hsh]; exact hih true)
        · have hix:=idx_ahead (l:=v.ing) h0 h1
          have ha : ahead v.ing i = some (v.ing.getD (i - 1) []):=by unfold ahead; rw [if_neg h0]
          have hls:=slss 3 false (v.ing.getD (i - 1) []) x
          rw [ha]
          generalize v.ing.getD (i - 1) [] = y at hix hls
          show Tot (fun z => z = (Res.ret (.int .i64 (if (true && (true && decide (y < x) && risT (some x) t)) = true then v.path.check else 120)),A)) _
          cases hlt : decide (y < x)
          · rw [hlt] at hls
            have e : (true && (true && false && risT (some x) t)) = (false && risT (some x) t):=by simp
            rw [e]
            (repeat' first | (with_reducible first | apply qab | apply qa4 | apply qbn | apply qat | apply tp_gk | apply qaw (b:=false) | apply qaa (b:=true) | apply qaa (b:=false) | apply qaq | apply tot_iftt | apply tot_ifff) | ((conv => arg 2; arg 1; simp (disch:=first | omega | assumption) only [qbm,qa7,binO_sub,qa2,qal,qaf,qbg,qa5,Nat.zero_add,qa6,qbd,qbb,qa0,qap,cell_str,qbp,ldc0,hx,r34,hn,ivc2,hix,hls]); (with_reducible first | apply qab | apply qbi | apply qaw (b:=true) | apply qaa (b:=true) | (apply qa1; omega) | (apply tot_eql_f; omega))))
            (refine qa8 ?_; (conv => lhs; simp (disch:=first | omega | assumption) only [qbm,qbf,qaj,qa9,qbr,shut_ref,List.map_nil,Nat.zero_add,List.length_append,List.length_cons,List.length_nil,qa6,qbd,qbb,take_n1]); rw [hsh]; exact hih false)
          · rw [hlt] at hls
            have e : (true && (true && true && risT (some x) t)) = (true && risT (some x) t):=by simp
            rw [e]
            (repeat' first | (with_reducible first | apply qab | apply qa4 | apply qbn | apply qat | apply tp_gk | apply qaw (b:=false) | apply qaa (b:=true) | apply qaa (b:=false) | apply qaq | apply tot_iftt | apply tot_ifff) | ((conv => arg 2; arg 1; simp (disch:=first | omega | assumption) only [qbm,qa7,binO_sub,qa2,qal,qaf,qbg,qa5,Nat.zero_add,qa6,qbd,qbb,qa0,qap,cell_str,qbp,ldc0,hx,r34,hn,ivc2,hix,hls]); (with_reducible first | apply qab | apply qbi | apply qaw (b:=true) | apply qaa (b:=true) | (apply qa1; omega) | (apply tot_eql_f; omega))))
            (refine qa8 ?_; (conv => lhs; simp (disch:=first | omega | assumption) only [qbm,qbf,qaj,qa9,qbr,shut_ref,List.map_nil,Nat.zero_add,List.length_append,List.length_cons,List.length_nil,qa6,qbd,qbb,take_n1]); rw [hsh]; exact hih true)
end
end Go.Vm.Rx

/- Which invariants may be: both texts' answers. -/
namespace Go.Vm.Rx
open Go Go.Proofs P
set_option maxRecDepth 10000
set_option maxHeartbeats 4000000
structure IvWell (v : Iv) : Prop where
  ok : IvOk v
  nm : v.nm.length ≤ 100000000
  pk : v.pk.length ≤ 100000000
  ing : ∀ s,s ∈ v.ing → s.length ≤ 100000000
variable (v : Iv) (hv : IvWell v) (A : St)
include hv
theorem s14 : f14 (encIv v) A = some (.ret (.int .i64 (ivForm v)),A):=by
  have hlo:=fun ok => s14_loop v hv.ok (fun s h => by have:=hv.ing s h; omega) A v.ing 0 ok rfl (by omega)
  have h0 : ahead v.ing 0 = none:=rfl
  simp only [h0,Int.natCast_zero] at hlo
  have hnm:=hv.nm; have hpk:=hv.pk; have hil:=hv.ok.2
  have hn:=fun A => s34 v.nm (by omega) A
  have hc:=fun A => s35 v.pk (by omega) A
  have hw:=fun n a b A => s36 n a b A
  have hform : ivForm v = if (isName v.nm && isCube v.pk && decide (1 ≤ v.ing.length ∧ v.ing.length ≤ 256) && decide (0 ≤ v.hops ∧ v.hops ≤ 64) && decide (1 ≤ v.cmp ∧ v.cmp ≤ 3) && decide (0 ≤ v.cnt ∧ v.cnt ≤ 62) && risT none v.ing) = true then v.path.check else 120:=rfl
  have hL : decide (1 ≤ (v.ing.length : Int) ∧ (v.ing.length : Int) ≤ 256) = decide (1 ≤ v.ing.length ∧ v.ing.length ≤ 256):=by
    rw [decide_eq_decide]; omega
  rw [hform]
  unfold f14 n14; dsimp only
  refine qbc ?_
  cases h1 : isName v.nm
  · rw [h1] at hn
    (repeat' first | (with_reducible first | apply qab | apply qa4 | apply qbn | apply qat | apply qaw (b:=false) | apply qaa (b:=false) | apply tot_ifft) | ((conv => arg 2; arg 1; simp (disch:=first | omega | assumption) only [qbf,qaf,Nat.zero_add,Nat.add_zero,qap,qbl,qbp,ldc0,List.length_map,ivbx,ivc0,ivc2,r34,hn]); (with_reducible first | apply qab | apply qaw (b:=false) | apply qaa (b:=false))))
    (refine qa8 ?_; (conv => lhs; simp only [qbf]); exact hlo false)
  · rw [h1] at hn
    cases h2 : isCube v.pk
    · simp only [h2,Bool.false_eq_true,if_false] at hc
      (repeat' first | (with_reducible first | apply qab | apply qa4 | apply qbn | apply qat | apply qaw (b:=true) | apply qaa (b:=true) | apply tot_iftt | apply tot_ifft | (apply tot_eql_f; omega)) | ((conv => arg 2; arg 1; simp (disch:=first | omega | assumption) only [qbm,qbf,qaf,Nat.zero_add,Nat.add_zero,qap,qbl,qbp,ldc0,List.length_map,ivbx,ivc0,ivc1,ivc2,r34,hn,r35,hc]); (with_reducible first | apply qab | apply qaw (b:=false) | apply qaa (b:=false))))
      (refine qa8 ?_; (conv => lhs; simp only [qbf]); exact hlo false)
    · simp only [h2,if_true] at hc
      cases h3 : decide (1 ≤ v.ing.length ∧ v.ing.length ≤ 256)
      · rw [h3] at hL
        (repeat' first | (with_reducible first | apply qab | apply qa4 | apply qbn | apply qat | apply qaw (b:=true) | apply qaa (b:=true) | apply tot_iftt | apply tot_ifft | (apply tot_eql_t; omega)) | ((conv => arg 2; arg 1; simp (disch:=first | omega | assumption) only [qbm,qbf,qaf,Nat.zero_add,Nat.add_zero,qah,qap,qbl,qbp,ldc0,List.length_map,ivbx,ivc0,ivc1,ivc2,r34,hn,r35,hc,r36,hw,hL]); (with_reducible first | apply qab | apply qaw (b:=true) | apply qaw (b:=false) | apply qaa (b:=true) | apply qaa (b:=false))))
        (refine qa8 ?_; (conv => lhs; simp only [qbf]); exact hlo false)
      · rw [h3] at hL
        cases h4 : decide (0 ≤ v.hops ∧ v.hops ≤ 64)
        · (repeat' first | (with_reducible first | apply qab | apply qa4 | apply qbn | apply qat | apply qaw (b:=true) | apply qaa (b:=true) | apply tot_iftt | apply tot_ifft | (apply tot_eql_t; omega)) | ((conv => arg 2; arg 1; simp (disch:=first | omega | assumption) only [qbm,qbf,qaf,Nat.zero_add,Nat.add_zero,qah,qap,qbl,qbp,ldc0,List.length_map,ivbx,ivc0,ivc1,ivc2,ivc3,r34,hn,r35,hc,r36,hw,hL,h4]); (with_reducible first | apply qab | apply qaw (b:=true) | apply qaw (b:=false) | apply qaa (b:=true) | apply qaa (b:=false))))
          (refine qa8 ?_; (conv => lhs; simp only [qbf]); exact hlo false)
        · cases h5 : decide (1 ≤ v.cmp ∧ v.cmp ≤ 3)
          · (repeat' first | (with_reducible first | apply qab | apply qa4 | apply qbn | apply qat | apply qaw (b:=true) | apply qaa (b:=true) | apply tot_iftt | apply tot_ifft | (apply tot_eql_t; omega)) | ((conv => arg 2; arg 1; simp (disch:=first | omega | assumption) only [qbm,qaf,Nat.zero_add,Nat.add_zero,qah,qap,qbl,qbp,ldc0,List.length_map,ivbx,ivc0,ivc1,ivc2,ivc3,ivc4,r34,hn,r35,hc,r36,hw,hL,h4,h5]); (with_reducible first | apply qab | apply qaw (b:=true) | apply qaw (b:=false) | apply qaa (b:=true) | apply qaa (b:=false))))
            (refine qa8 ?_; (conv => lhs; simp only [qbf]); exact hlo false)
          · cases h6 : decide (0 ≤ v.cnt ∧ v.cnt ≤ 62)
            · (repeat' first | (with_reducible first | apply qa4 | apply qbn | apply qat | apply qaw (b:=true) | apply qaa (b:=true) | apply tot_iftt | (apply tot_eql_t; omega)) | ((conv => arg 2; arg 1; simp (disch:=first | omega | assumption) only [qbm,qaf,Nat.zero_add,Nat.add_zero,qah,qap,qbl,qbp,ldc0,List.length_map,ivbx,ivc0,ivc1,ivc2,ivc3,ivc4,ivc5,r34,hn,r35,hc,r36,hw,hL,h4,h5,h6]); (with_reducible first | apply qab | apply qaw (b:=true) | apply qaa (b:=true))))
              (refine qa8 ?_; (conv => lhs; simp only [qbm]); exact hlo false)
            · (repeat' first | (with_reducible first | apply qa4 | apply qbn | apply qat | apply qaw (b:=true) | apply qaa (b:=true) | apply tot_iftt | (apply tot_eql_t; omega)) | ((conv => arg 2; arg 1; simp (disch:=first | omega | assumption) only [qbm,qaf,Nat.zero_add,Nat.add_zero,qah,qap,qbl,qbp,ldc0,List.length_map,ivbx,ivc0,ivc1,ivc2,ivc3,ivc4,ivc5,r34,hn,r35,hc,r36,hw,hL,h4,h5,h6]); (with_reducible first | apply qab | apply qaw (b:=true) | apply qaa (b:=true))))
              (refine qa8 ?_; (conv => lhs; simp only [qbm]); exact hlo true)
end Go.Vm.Rx

/- One word,two words: what both texts say of them. -/
namespace Go.Vm.Rx
open Go Go.Proofs P
set_option maxRecDepth 10000
set_option maxHeartbeats 2000000
theorem str_add {n : Nat} {l : Bool} {a b : Str} (h : a.length + b.length ≤ 9223372036854775807) : binO .add n l (.str a) (.str b) = some (.str (a ++ b)):=by simp [binO,strBinD,h]
theorem canon2 (a b : Str) : (D.sl .full 1 [.str a,.str b]).canon = encL 1 ([a,b].map .str):=rfl
theorem encL_c (n : Nat) (d : D) (ds : List D) : encL n (d :: ds) = .sl .sh n (d :: ds):=rfl
def signP (s : Str) : Bool:=pair s || (match s with | [c] => single c | _ => false)
end Go.Vm.Rx
