/- RxS61, RxS62 in one text. -/
import Derived.Test.YtagmpieoalkneaaGreatDoorRxS60
set_option linter.all false
/- Numbers and signs: what both texts say of them. -/
namespace Go.Vm.Rx
open Go Go.Proofs P
set_option maxRecDepth 10000
set_option maxHeartbeats 2000000
def numD : Option Int → D
  | none => .tup [.int .i64 0,.int .i64 32]
  | some n => .tup [.int .i64 n,.int .i64 0]
def numE (t : Str) (n : Int) : Option Int:=if t.all digit = false ∨ 2147483647 < digs t n then none else some (digs t n)
theorem numE_nil (n : Int) : numE [] n = if 2147483647 < n then none else some n:=by simp [numE,digs]
theorem numE_cons (c : UInt8) (t : Str) (n : Int) : numE (c :: t) n = if digit c = false then none else numE t (n * 10 + ((c.toNat : Int) - 48)):=by
  cases h : digit c
  · simp [numE,h]
  · simp [numE,h,digs]
theorem numP_eq {c : UInt8} {r : Str} (h1 : (c :: r).length ≤ 10) (h2 : ¬ (c.toNat = 48 ∧ 1 < (c :: r).length)) : numP (c :: r) = numE (c :: r) 0:=by
  unfold numP numE
  have e1 : ¬ 10 < (c :: r).length:=by omega
  simp only [List.headD_cons,h2,e1,reduceCtorEq,false_or]
theorem numP_long {s : Str} (h : 10 < s.length) : numP s = none:=by simp [numP,h]
theorem numP_zero {c : UInt8} {r : Str} (h : c.toNat = 48 ∧ 1 < (c :: r).length) : numP (c :: r) = none:=by
  unfold numP
  rw [if_pos (.inr (.inr (.inl (by simpa using h))))]
theorem pow_9 {i : Nat} (h : i < 10) : 10 ^ i ≤ 1000000000:=Nat.pow_le_pow_right (by omega) (by omega : i ≤ 9)
theorem digit_is {c : UInt8} (h : digit c = true) : 48 ≤ c.toNat ∧ c.toNat ≤ 57:=by simpa [digit] using h
theorem u8_48 {c : UInt8} (h : digit c = true) : IntKind.wrap .u8 ((c.toNat : Int) - 48) = (c.toNat : Int) - 48:=by
  have:=digit_is h
  rw [wrap_u8]; omega
theorem s111_loop (s : Str) (hs : s.length ≤ 10) (A : St) : ∀ (t : Str) (i : Nat) (n : Int),s.drop i = t → i ≤ s.length → 0 ≤ n → n + 1 ≤ ((10 ^ i : Nat) : Int) →
    LP Tryz.prog rxA 111 [0,1,0,1,1,1] [A] (Env.mk (sp [(0,.str s),(3,.int .i64 n),(19,.int .i64 (s.length : Nat)),(0,.int .i64 (i : Nat))] 19) []) A = some (.ret (numD (numE t n)),A):=by
  intro t
  induction t with
  | nil =>
    intro i n ht hi h0 h1
    have hl:=drop_len ht
    rw [numE_nil]
    refine qbc (qbj (q111_0 ..) ?_)
    unfold n111_0; dsimp only
    by_cases h : 2147483647 < n
    · rw [if_pos h]
      (repeat' first | (with_reducible first | apply qai | apply qaa (b:=true) | apply qaa (b:=false) | apply qaq | apply qao) | ((conv => arg 2; arg 1; simp only [Option.map_some,qar,qa6,qbd,qbb]); (with_reducible first | apply qab | (apply qba; omega) | (apply tot_gtr_t; omega))))
      ((try conv => arg 2; simp only [qac,qaj,qbv,qax,qau,qal,qae,List.take_length,qah,qbq,qav,qas,qad,qag]); refine qak ?_)
      rfl
    · rw [if_neg h]
      (repeat' first | (with_reducible first | apply qai | apply qaa (b:=false) | apply qao) | ((conv => arg 2; arg 1; simp only [Option.map_some,qar,qa6,qbd,qbb]); (with_reducible first | apply qab | (apply qba; omega) | (apply tot_gtr_f; omega))))
      ((try conv => arg 2; simp only [qac,qaj,qbv,qax,qau,qal,qae,List.take_length,qah,qbq,qav,qas,qad,qag]); refine qak ?_)
      rfl
  | cons c t ih =>
    intro i n ht hi h0 h1
    have hl:=drop_lt ht
    have hp:=pow_9 (i:=i) (by omega)
    have hps : 10 ^ (i + 1) = 10 ^ i * 10:=Nat.pow_succ ..
    rw [numE_cons]
    have hx:=Vm.idxStr ht .i64
    have hd:=fun A => s77 c A
    refine qbc (qbj (q111_0 ..) ?_)
    unfold n111_0; dsimp only
    cases h : digit c
    · rw [h] at hd
      (repeat' first | (with_reducible first | apply qat | apply qai | apply qaa (b:=true) | apply qaq) | ((conv => arg 2; arg 1; simp (disch:=first | omega | assumption) only [Option.map_some,qar,un_not,Bool.not_false,qa6,qbd,qbb,qah,r77,hd,hx]); (with_reducible first | apply qab | (apply qa1; omega))))
      ((try conv => arg 2; simp only [qac,qaj,qbv,qax,qau,qal,qae,List.take_length,qah,qbq,qav,qas,qad,qag]); refine qak ?_)
      rfl
    · rw [h] at hd
      have hw:=u8_48 h
      have hc:=digit_is h
      have e : 10 * n + ((c.toNat : Int) - 48) = n * 10 + ((c.toNat : Int) - 48):=by omega
      generalize hq : 10 ^ i = q at *
      (repeat' first | (with_reducible first | apply qat | apply tp_gk | apply qaa (b:=true) | apply qaa (b:=false) | apply qaq | apply qao) | ((conv => arg 2; arg 1; simp (disch:=first | omega | assumption) only [qa7,binO_sub,binO_mul,qa2,conv_i64,qal,un_not,Bool.not_true,qa6,qbd,qbb,qah,r77,hd,hx,hw]); (with_reducible first | apply qab | apply qbi | (apply qa1; omega))))
      (refine qa8 ?_; (conv => lhs; simp only [qaj,qbr,qbs,List.take_length,List.map_nil,qa6,qbd,qbb]); rw [e]; have:=ih (i + 1) (n * 10 + ((c.toNat : Int) - 48)) (qbt ht) (by omega) (by omega) (by rw [hps]; omega); exact this)
theorem s111 (s : Str) (hs : s.length < 4611686018427387904) (A : St) : f111 (.str s) A = some (.ret (numD (numP s)),A):=by
  unfold f111 n111; dsimp only
  refine qbc ?_
  cases s with
  | nil =>
    (repeat' first | (with_reducible first | apply qab | apply qa4 | apply qbn | apply qai | apply qaw (b:=true) | apply tot_gbn | apply qaa (b:=true) | apply qaq | apply qao | apply tot_iftf | (apply tot_seql_t; first | assumption | with_reducible rfl)) | ((conv => arg 2; arg 1; simp only [qbm]); (with_reducible first | apply qaw (b:=true) | apply qaa (b:=true))))
    ((try conv => arg 2; simp only [qac,qaj,qbv,qax,qau,qal,qae,List.take_length,qah,qbq,qav,qas,qad,qag]); refine qak ?_)
    rfl
  | cons c r =>
    have hx : indexStrO (.str (c :: r)) (.int .i64 0) = some (.int .u8 (c.toNat : Int)):=idxStr0 c r .i64
    simp only [List.length_cons] at hs
    by_cases h1 : 10 < (c :: r).length
    · rw [numP_long h1]
      simp only [List.length_cons] at h1
      (repeat' first | (with_reducible first | apply qab | apply qa4 | apply qbn | apply qai | apply qaw (b:=false) | apply tot_gbn | apply qaa (b:=false) | apply qaq | apply qao | apply tot_iftf | apply tot_ifff | (apply tot_gtr_t; omega) | (apply qbz; first | assumption | decide | exact List.cons_ne_nil _ _)) | ((conv => arg 2; arg 1; simp only [qbm,qbf,lenStr_str,List.length_cons]); (with_reducible first | apply qab | apply qaw (b:=true) | apply qaa (b:=true))))
      ((try conv => arg 2; simp only [qac,qaj,qbv,qax,qau,qal,qae,List.take_length,qah,qbq,qav,qas,qad,qag]); refine qak ?_)
      rfl
    · by_cases h2 : c.toNat = 48 ∧ 1 < (c :: r).length
      · rw [numP_zero h2]
        simp only [List.length_cons] at h1 h2
        obtain ⟨h2,h3⟩:=h2
        (repeat' first | (with_reducible first | apply qab | apply qa4 | apply qbn | apply qai | apply qaw (b:=true) | apply qaw (b:=false) | apply qaa (b:=true) | apply qaa (b:=false) | apply qaq | apply tot_iftt | apply tot_ifff | (apply tot_gtr_t; omega) | (apply tot_gtr_f; omega) | (apply tot_eql_t; omega) | (apply qbz; first | assumption | decide | exact List.cons_ne_nil _ _)) | ((conv => arg 2; arg 1; simp (disch:=first | omega | assumption) only [qbm,qbf,lenStr_str,List.length_cons,hx]); (with_reducible first | apply qab | apply qaw (b:=false) | apply qaa (b:=true) | apply qaa (b:=false))))
        ((try conv => arg 2; simp only [qac,qaj,qbv,qax,qau,qal,qae,List.take_length,qah,qbq,qav,qas,qad,qag]); refine qak ?_)
        rfl
      · rw [numP_eq (by omega) h2]
        have:=s111_loop (c :: r) (by omega) A (c :: r) 0 0 rfl (by omega) (by omega) (by simp)
        simp only [List.length_cons] at h1 h2
        (repeat' first | (with_reducible first | apply qab | apply qa4 | apply qbn | apply qaw (b:=true) | apply qaw (b:=false) | apply qaa (b:=true) | apply qaa (b:=false) | apply qao | apply tot_iftt | apply tot_ifft | apply tot_ifff | (apply tot_gtr_f; omega) | (apply tot_eql; all_goals intro hsp) | (apply qbz; first | assumption | decide | exact List.cons_ne_nil _ _)) | ((conv => arg 2; arg 1; simp (disch:=first | omega | assumption) only [qbm,qbf,lenStr_str,List.length_cons,hx]); (with_reducible first | apply qab | apply qaw (b:=false) | apply qaa (b:=false))))
        all_goals ((refine qa8 ?_; (conv => lhs; simp only []); exact this))
def signT (n : Int) : Str:=if n = 2 then [60,61] else if n = 3 then [62,61] else [61,61]
theorem s43 (n : Int) (A : St) : f43 (.int .i64 n) A = some (.ret (.str (signT n)),A):=by
  unfold f43 n43; dsimp only
  refine qbc ?_
  by_cases h2 : n = 2
  · subst h2
    (repeat' first | (with_reducible first | apply qai | apply qaa (b:=true) | apply qaq | (apply tot_eql_t; omega)))
    ((try conv => arg 2; simp only [qac,qbs,qal,qae,List.take_length,qap,qad,qag]); refine qak ?_)
    rfl
  · by_cases h3 : n = 3
    · subst h3
      (repeat' first | (with_reducible first | apply qai | apply qaa (b:=true) | apply qaa (b:=false) | apply qaq | apply qao | (apply tot_eql_t; omega) | (apply tot_eql_f; omega)))
      ((try conv => arg 2; simp only [qac,qbs,qal,qae,List.take_length,qap,qad,qag]); refine qak ?_)
      rfl
    · unfold signT
      rw [if_neg h2,if_neg h3]
      (repeat' first | (with_reducible first | apply qai | apply qaa (b:=false) | apply qao | (apply tot_eql_f; omega)))
      ((try conv => arg 2; simp only [qac,qbs,qal,qae,List.take_length,qap,qad,qag]); refine qak ?_)
      rfl
theorem s40_loop (a : List Str) (ha : a.length ≤ 100000000) (A : St) : ∀ (t : List Str) (i : Nat),a.drop i = t →
    LP Tryz.prog rxA 40 [0,1,0,1,1] [A] (Env.mk (sp [(0,encL 1 (a.map .str)),(0,encL 1 (a.map .str)),(3,.int .i64 (i : Nat))] 20) []) A = some (.ret (.bool true),A):=by
  intro t
  have hsh : ∀ n,(encL 1 (a.map .str)).shut n = encL 1 (a.map .str):=fun n => (encL_plain (PlainL.map (fun s => ⟨fun _ => rfl,rfl⟩) a) 1).shut n
  induction t with
  | nil =>
    intro i ht
    have hl:=drop_len ht
    refine qbc (qbj (q40_0 ..) ?_)
    unfold n40_0; dsimp only
    (repeat' first | (with_reducible first | apply qai | apply qaa (b:=false) | apply qao) | ((conv => arg 2; arg 1; simp only [Option.map_some,qar,qa6,qbd,qbb,qbl,List.length_map]); (with_reducible first | apply qab | (apply qba; omega))))
    ((try conv => arg 2; simp only [qac,qa9,qal,qae,List.take_length,qa3,qad,qag]); refine qak ?_)
    rfl
  | cons c t ih =>
    intro i ht
    have hl:=drop_lt ht
    have hx:=idx_drop (f:=D.str) ht 1 false .i64
    refine qbc (qbj (q40_0 ..) ?_)
    unfold n40_0; dsimp only
    (repeat' first | (with_reducible first | apply tp_gk | apply qaa (b:=true) | apply qaa (b:=false) | apply qaq | apply qao | (apply tot_sneq_t; first | assumption | with_reducible rfl)) | ((conv => arg 2; arg 1; simp (disch:=first | omega | assumption) only [qa7,qa2,qal,qbg,qa5,qa6,qbd,qbb,qa0,qbl,cell_str,List.length_map,hx]); (with_reducible first | apply qab | apply qbi | (apply qa1; omega))))
    (refine qa8 ?_; (conv => lhs; simp only [qaj,qbr,List.take_length,List.map_nil,qa6,qbb]); rw [hsh]; have:=ih (i + 1) (qbt ht); exact this)
theorem s40 (a : List Str) (ha : a.length ≤ 100000000) (A : St) : f40 (encL 1 (a.map .str)) (encL 1 (a.map .str)) A = some (.ret (.bool true),A):=by
  have:=s40_loop a ha A a 0 rfl
  unfold f40 n40; dsimp only
  refine qbc ?_
  (repeat' first | (with_reducible first | apply qaa (b:=false) | apply qao | (apply tot_neq_t; omega)) | ((conv => arg 2; arg 1; simp only [qbl,List.length_map]); (with_reducible apply qab)))
  (refine qa8 ?_; (conv => lhs; simp only []); exact this)
theorem dc79p (A L : St) (o : D) (x : Int) : Dcall Tryz.prog rxA (.fn (.func 79) [] []) [.ref A.length 0] (some (.iface 179 (.agg [.int .i64 x]))) (A ++ (.cells [o] :: L)) =
    some (none,A ++ (.cells [.int .i64 x] :: L)):=by
  rw [rd79p]
  unfold d79p nd79p; dsimp only
  have has : ∀ z d,assertV z (.iface 179 d) 179 true = some (.tup [d,.bool true]):=fun _ _ => rfl
  have hk:=fun M => Kept_tail (A:=A) (L:=.cells [o] :: L) (L':=.cells [.int .i64 x] :: (L ++ M)) (by simp) (fun i hi => by
    match i,hi with
    | 0,_ => exact .inr ⟨_,rfl,by simp⟩
    | i + 1,hi =>
      left
      simp only [List.length_cons] at hi
      simp only [List.getElem?_cons_succ]
      rw [List.getElem?_append_left (by omega)])
  have hk':=fun M => iff_true_intro (hk M)
  have htk : ∀ M,(A ++ (Slot.cells [.int .i64 x] :: (L ++ M))).take (A.length + (L.length + 1)) = A ++ (Slot.cells [.int .i64 x] :: L):=fun M => by
    rw [List.take_length_add_append]; simp
  have hl1 : layCells true 1 0 [D.int .i64 0] (.agg [.int .i64 x]) = some [.int .i64 x]:=rfl
  refine qbc ?_
  (repeat' first | (with_reducible first | apply qa4 | apply tp_gk | apply qaa (b:=false) | apply qao) | ((conv => arg 2; arg 1; simp (disch:=first | omega | assumption) only [qan,qaf,qa5,Nat.add_zero,qbo,lay_int,List.length_append,List.length_cons,un_not,Bool.not_true,qa0,app_one,qbx,ld_sh,qbp,ldc0,ldcS,sto_sh,sto_sh0,stoc0,stocS,ext0,extS,ifc_nil,has,hk',hl1]); (with_reducible first | apply qab | apply qbi)))
  conv => arg 2; simp (disch:=first | omega | assumption) only [List.length_append,List.length_cons,htk]
  exact qak rfl
theorem dc79n (r : D) (S : St) : Dcall Tryz.prog rxA (.fn (.func 79) [] []) [r] none S = some (none,S):=by
  rw [rd79n]
  unfold d79n nd79n; dsimp only
  have hn : binO .eql 1 true (.val .nilIface) (.val .nilIface) = some (.bool true):=rfl
  refine qbc ?_
  (repeat' first | (with_reducible first | apply tp_gk | apply qaa (b:=true) | apply qaq) | ((conv => arg 2; arg 1; simp (disch:=first | omega | assumption) only [qal,hn]); (with_reducible first | apply qab | apply qbi)))
  ((try conv => arg 2; simp only [List.take_length]); refine qak ?_)
  rfl
theorem s35 (s : Str) (hs : s.length < 4611686018427387904) (A : St) : f35 (.str s) A = some (.ret (.int .i64 (if isCube s = true then 0 else 10)),A):=by
  have hm:=fun A => s80 s hs A
  have hcn : (D.sl .full 1 [.str s]).canon = encL 1 [.str s]:=rfl
  unfold f35 n35; dsimp only
  refine qbc ?_
  cases h : isCube s
  · simp only [h,Bool.false_eq_true,if_false] at hm
    (repeat' first | (with_reducible first | apply qa4 | apply tp_pan | apply qai) | ((conv => arg 2; arg 1; simp (disch:=first | omega | assumption) only [bn_some,Option.map_some,Option.bind_some,qar,leaves_cons,qa5,qbo,qbp,ldc0,sparts_str,r80,hcn,hm,dc79p]); (with_reducible apply qab)))
    ((try conv => arg 2; simp (disch:=first | omega | assumption) only [qac,qaj,qaz,qae,qah,qad,qag,List.take_left']); refine qak ?_)
    rfl
  · simp only [h,if_true] at hm
    (repeat' first | (with_reducible first | apply qa4 | apply qat | apply qai) | ((conv => arg 2; arg 1; simp (disch:=first | omega | assumption) only [bn_some,Option.map_some,Option.bind_some,qar,leaves_cons,qa5,qbo,lay_int,qa0,qbp,ldc0,sto_sh0,stoc0,sparts_str,r80,hcn,hm,dc79n]); (with_reducible apply qab)))
    ((try conv => arg 2; simp (disch:=first | omega | assumption) only [qac,qaj,qaz,qae,qah,qad,qag,List.take_left']); refine qak ?_)
    rfl
end Go.Vm.Rx

/- The program's reader of a line: its small functions. -/
namespace Go.Vm.Rx
open Go Go.Proofs P
set_option maxRecDepth 10000
set_option maxHeartbeats 2000000
def ipC (l : List Word) (i : Int) : List D:=[encL 3 (l.map encW),.int .i64 i]
theorem ipC_shut (l : List Word) (i : Int) (n : Nat) : D.shutL n (ipC l i) = ipC l i:=by simp [ipC,ws_shut]
section
variable (l : List Word) (i x : Int)
theorem ipl0 : ofCells false (ipC l i) 0 1 = some (encL 3 (l.map encW)):=rfl
theorem ipl1 : ofCells false (ipC l i) 1 1 = some (.int .i64 i):=rfl
theorem ips1 : layCells false 1 1 (ipC l i) (.int .i64 x) = some (ipC l x):=rfl
end
structure LineOk (l : List Word) : Prop where
  ne : l ≠ []
  len : l.length ≤ 1100000
  wd : ∀ w,w ∈ l → WordOk 10000000 w
theorem LineOk.short {l : List Word} (h : LineOk l) : ∀ w,w ∈ l → w.t.length ≤ 100000000:=fun w hm => by
  have:=(h.wd w hm).2.2.2.1; omega
theorem LineOk.at_ {l : List Word} (h : LineOk l) (i : Nat) : (wordAt l i).length ≤ 10000000:=by
  unfold wordAt
  cases e : l[i]? with
  | none => simp
  | some w => exact (h.wd w (List.mem_of_getElem? e)).2.2.2.1
theorem wordW_lt {l : List Word} {i : Nat} (h : i < l.length) : wordW l i = l[i]:=by
  unfold wordW
  rw [if_pos h,List.getD_eq_getElem?_getD,List.getElem?_eq_getElem h]; rfl
theorem wordW_ge {l : List Word} {i : Nat} (h : ¬ i < l.length) (h2 : l.length - 1 < l.length) : wordW l i = ⟨[],l[l.length - 1].line,l[l.length - 1].col + l[l.length - 1].t.length⟩:=by
  unfold wordW
  rw [if_neg h,List.getD_eq_getElem?_getD,List.getElem?_eq_getElem h2]; rfl
theorem wordW_t (l : List Word) (i : Nat) : (wordW l i).t = wordAt l i:=by
  by_cases h : i < l.length
  · rw [wordW_lt h,wordAt_lt h]
  · rw [wordAt_ge h]; unfold wordW; rw [if_neg h]
theorem fld0 (w : Word) : fieldO false 0 1 (encW w) = some (.str w.t):=rfl
theorem s64 (A : St) (k : Nat) (l : List Word) (hl : LineOk l) (i : Nat) (hk : k < A.length) (hi : i ≤ 200000000) :
    f64 (.ref k 0) (st A k (ipC l i)) = some (.ret (encW (wordW l i)),st A k (ipC l i)):=by
  have hlen:=hl.len
  have hne : 0 < l.length:=by cases l with | nil => exact absurd rfl hl.ne | cons => simp
  have hix : ∀ j : Nat,(h : j < l.length) → indexAddrO 3 true (encL 3 (l.map encW)) (.int .i64 (j : Int)) = some (.peek (cellsW l[j])):=fun j h => by
    rw [idx_map h,cellW]; rfl
  have hkp:=fun L => stL_Kept (A:=A) (k:=k) (cs:=ipC l i) (cs':=ipC l i) (L:=L) (ipC_shut _ _ _)
  have hgk : ∀ L,(st (A ++ L) k (ipC l i))[k]? = some (.cells (ipC l i)):=fun L => st_k _ (lenL hk)
  unfold f64 n64; dsimp only
  refine qbc ?_
  have hlw : ∀ (w : Word) a b c,layCells true 3 0 [a,b,c] (encW w) = some [.str w.t,.int .i64 w.line,.int .i64 w.col]:=fun w a b c => rfl
  have hcw : ∀ w : Word,ofCells true [D.str w.t,.int .i64 w.line,.int .i64 w.col] 0 3 = some (encW w):=fun w => rfl
  have hl1 : ∀ a b c x,layCells false 1 1 [a,b,c] (D.int .i64 x) = some [a,.int .i64 x,c]:=fun _ _ _ _ => rfl
  have hl2 : ∀ a b c x,layCells false 1 2 [a,b,c] (D.int .i64 x) = some [a,b,.int .i64 x]:=fun _ _ _ _ => rfl
  by_cases h : i < l.length
  · have hx:=hix i h
    rw [wordW_lt h]
    generalize l[i] = w at hx
    (repeat' first | (with_reducible first | apply qab | apply tp_bnbn | apply qa4 | apply qai | apply qaa (b:=true) | apply qaq | (apply qa1; omega)) | ((conv => arg 2; arg 1; simp (disch:=first | omega | assumption) only [qan,qaf,qbg,Nat.zero_add,Nat.add_zero,qbo,qa0,qbl,qam,qbp,ldc0,sto_sh0,stoc0,List.length_map,stL_load,st_appr,st_ldo,st_sto,ipl0,ipl1,hx,cellsW,hlw,hcw]); (with_reducible apply qab)))
    ((try conv => arg 2; simp (disch:=first | omega | assumption) only [qac,qae,qad,qag,qam,stL_take,hkp]); refine qak ?_)
    rfl
  · have h8 : l.length - 1 < l.length:=by omega
    have hx:=hix (l.length - 1) h8
    have hi1 : ((l.length - 1 : Nat) : Int) = (l.length : Int) - 1:=by omega
    rw [wordW_ge h h8]
    have hwd:=hl.wd _ (List.getElem_mem h8)
    generalize l[l.length - 1] = w at hx hwd
    rw [hi1] at hx
    obtain ⟨⟨g1,g2⟩,g3,g4,g5,g6⟩:=hwd
    have hlw3 : ∀ a b c x y,layCells true 3 0 [a,b,c] (.agg [.str [],.int .i64 x,.int .i64 y]) = some [.str [],.int .i64 x,.int .i64 y]:=fun a b c x y => rfl
    have hcw3 : ∀ x y,ofCells true [D.str [],.int .i64 x,.int .i64 y] 0 3 = some (.agg [.str [],.int .i64 x,.int .i64 y]):=fun x y => rfl
    (repeat' first | (with_reducible first | apply qab | apply tp_bnbn | apply qa4 | apply tp_gs0 | apply tp_gs1 | apply qai | apply qaa (b:=false) | apply qao | (apply qba; omega)) | ((conv => arg 2; arg 1; simp (disch:=first | omega | assumption) only [qa7,binO_sub,qa2,qan,qaf,lenStr_str,qbg,qa5,ofCellsS,Nat.zero_add,Nat.add_zero,qbo,List.length_append,List.length_cons,List.length_nil,qa0,qbl,qam,app_nil',qbx,ld_sh,qbp,ldc0,ldcS,sto_sh,sto_sh0,stoc0,stocS,List.length_map,sameAd_ref,stL_load,stL_appr,st_appr,st_ldo,st_sto,ipl0,ipl1,hgk,sameAd_peek,hx,cellsW,hlw,hcw,hl1,hl2,hlw3,hcw3]); (with_reducible first | apply qab | apply qbi)))
    ((try conv => arg 2; simp (disch:=first | omega | assumption) only [qac,qaj,qbs,shut_agg,qax,qau,qae,qah,qap,qby,qav,qas,qad,qag,qam,stL_take,hkp]); refine qak ?_)
    rfl
theorem s28 (A : St) (k : Nat) (l : List Word) (hl : LineOk l) (i : Nat) (e : Int) (hk : k < A.length) (hi : i ≤ 200000000) :
    f28 (.ref k 0) (.int .i64 e) (st A k (ipC l i)) = some (.pan (.iface 55 (.agg [.int .i64 (wordW l i).line,.int .i64 (wordW l i).col,.int .i64 e])),st A k (ipC l i)):=by
  have hwd:=s64 A k l hl i hk hi
  generalize wordW l i = w at hwd
  have hlw : ∀ (w : Word) a b c,layCells true 3 0 [a,b,c] (encW w) = some [.str w.t,.int .i64 w.line,.int .i64 w.col]:=fun w a b c => rfl
  have hl0 : ∀ a b c x,layCells false 1 0 [a,b,c] (D.int .i64 x) = some [.int .i64 x,b,c]:=fun _ _ _ _ => rfl
  have hl1 : ∀ a b c x,layCells false 1 1 [a,b,c] (D.int .i64 x) = some [a,.int .i64 x,c]:=fun _ _ _ _ => rfl
  have hl2 : ∀ a b c x,layCells false 1 2 [a,b,c] (D.int .i64 x) = some [a,b,.int .i64 x]:=fun _ _ _ _ => rfl
  have hkp:=fun L => stL_Kept (A:=A) (k:=k) (cs:=ipC l i) (cs':=ipC l i) (L:=L) (ipC_shut _ _ _)
  unfold f28 n28; dsimp only
  refine qbc ?_
  (repeat' first | (with_reducible first | apply qab | apply tp_bnbn | apply qa4 | apply qat) | ((conv => arg 2; arg 1; simp (disch:=first | omega | assumption) only [qaf,qa5,ofCellsS,Nat.zero_add,qbo,qa0,qay,qam,qbp,ldc0,sto_sh0,stoc0,st_appr,st_ldo,st_sto,r64,hwd,hlw,hl0,hl1,hl2]); (with_reducible apply qab)))
  ((try conv => arg 2; simp (disch:=first | omega | assumption) only [qac,qbv,qax,qae,qbh,leaveM_mL,qbq,qav,qad,qbe,qag,qam,stL_take,hkp]); refine qak ?_)
  rfl
def ipOut {α : Type} (f : α → D) (A : St) (k : Nat) (l : List Word) (i : Nat) : Except (Nat × Int) (α × Nat) → Res × St
  | .ok (x,j) => (.ret (f x),st A k (ipC l j))
  | .error (j,e) => (.pan (.iface 55 (.agg [.int .i64 (wordW l j).line,.int .i64 (wordW l j).col,.int .i64 e])),st A k (ipC l i))
theorem s62 (A : St) (k : Nat) (l : List Word) (hl : LineOk l) (i : Nat) (s : Str) (hk : k < A.length) (hi : i ≤ 100000000) :
    f62 (.ref k 0) (.str s) (st A k (ipC l i)) = some (ipOut (fun _ : Unit => .tup []) A k l i ((mustP l s i).map fun j => ((),j))):=by
  have hwd:=s64 A k l hl i hk (by omega)
  have hst:=s28 A k l hl i 120 hk (by omega)
  have hkp:=stS_Kept (A:=A) (k:=k) (cs:=ipC l i) (cs':=ipC l ((i : Int) + 1)) (ipC_shut _ _ _)
  unfold f62 n62 mustP; dsimp only
  refine qbc ?_
  by_cases h : wordAt l i = s
  · rw [if_pos h]
    rw [← wordW_t] at h
    (repeat' first | (with_reducible first | (apply qbu; intro hkk hke) | (apply tot_jk; · assumption) | apply qa4 | apply qat | apply qai | apply qaa (b:=false) | apply qao | (apply tot_sneq_t; first | assumption | with_reducible rfl)) | ((conv => arg 2; arg 1; simp (disch:=first | omega | assumption) only [Option.map_some,qa7,qa2,qar,qan,qaf,Nat.zero_add,qa0,qay,st_load,st_store,eg_0,r64,hwd,fld0,h,ipl1,ips1]); (with_reducible apply qab)))
    ((try conv => arg 2; simp (disch:=first | omega | assumption) only [qac,qbv,qax,qae,qbq,qav,qad,qag,qam,st_take,hkp]); refine qak ?_)
    rfl
  · rw [if_neg h]
    rw [← wordW_t] at h
    (repeat' first | (with_reducible first | (apply qbu; intro hkk hke) | apply qat | apply tp_pan | apply qai | apply qaa (b:=true) | apply qaq | (apply tot_sneq_f; first | assumption | decide | exact List.cons_ne_nil _ _)) | ((conv => arg 2; arg 1; simp (disch:=first | omega | assumption) only [qah,qay,r64,hwd,fld0,r28,hst]); (with_reducible apply qab)))
    ((try conv => arg 2; simp only [qac,qaj,shut_agg,shut_iface,qax,qau,qal,qbh,qah,qby,canon_iface,qav,qas,qbe,qag,qam,st_take]); refine qak ?_)
    rfl
theorem s63 (A : St) (k : Nat) (l : List Word) (hl : LineOk l) (i : Nat) (hk : k < A.length) (hi : i ≤ 100000000) :
    f63 (.ref k 0) (st A k (ipC l i)) = some (ipOut .str A k l i (nameP l i)):=by
  have hwd:=s64 A k l hl i hk (by omega)
  have hst:=s28 A k l hl i 31 hk (by omega)
  have hsh:=hl.at_ i
  have hnm:=fun A => s34 (wordW l i).t (by rw [wordW_t]; omega) A
  rw [wordW_t] at hnm
  have hkp:=stS_Kept (A:=A) (k:=k) (cs:=ipC l i) (cs':=ipC l ((i : Int) + 1)) (ipC_shut _ _ _)
  have hf : fieldO false 0 1 (encW (wordW l i)) = some (.str (wordAt l i)):=by rw [fld0,wordW_t]
  unfold f63 n63 nameP; dsimp only
  refine qbc ?_
  cases h : isName (wordAt l i)
  · rw [h] at hnm
    rw [if_neg (by decide)]
    (repeat' first | (with_reducible first | (apply qbu; intro hkk hke) | apply qat | apply tp_pan | apply qai | apply qaa (b:=true) | apply qaq) | ((conv => arg 2; arg 1; simp (disch:=first | omega | assumption) only [qan,qaf,Nat.add_zero,un_not,Bool.not_false,qah,qap,qay,r64,hwd,hf,r34,hnm,r28,hst]); (with_reducible apply qab)))
    ((try conv => arg 2; simp only [qac,qaj,shut_agg,shut_iface,qax,qau,qal,qbh,qah,qby,canon_iface,qav,qas,qbe,qag,qam,st_take]); refine qak ?_)
    rfl
  · rw [h] at hnm
    rw [if_pos rfl]
    (repeat' first | (with_reducible first | (apply qbu; intro hkk hke) | (apply tot_jk; · assumption) | apply qa4 | apply qat | apply qai | apply qaa (b:=false) | apply qao) | ((conv => arg 2; arg 1; simp (disch:=first | omega | assumption) only [Option.map_some,qa7,qa2,qar,qan,qaf,Nat.zero_add,Nat.add_zero,un_not,Bool.not_true,qa0,qap,qay,st_load,st_store,eg_0,eg_S,r64,hwd,hf,r34,hnm,ipl1,ips1]); (with_reducible apply qab)))
    ((try conv => arg 2; simp (disch:=first | omega | assumption) only [qac,qbs,qae,qap,qad,qag,qam,st_take,hkp]); refine qak ?_)
    rfl
theorem s66 (A : St) (k : Nat) (l : List Word) (hl : LineOk l) (i : Nat) (most : Int) (hk : k < A.length) (hi : i ≤ 100000000) :
    f66 (.ref k 0) (.int .i64 most) (st A k (ipC l i)) = some (ipOut (.int .i64) A k l i (numberP l most i)):=by
  have hwd:=s64 A k l hl i hk (by omega)
  have hst:=fun e => s28 A k l hl i e hk (by omega)
  have hsh:=hl.at_ i
  have hnm:=fun A => s111 (wordW l i).t (by rw [wordW_t]; omega) A
  rw [wordW_t] at hnm
  have hkp:=stS_Kept (A:=A) (k:=k) (cs:=ipC l i) (cs':=ipC l ((i : Int) + 1)) (ipC_shut _ _ _)
  have hf : fieldO false 0 1 (encW (wordW l i)) = some (.str (wordAt l i)):=by rw [fld0,wordW_t]
  unfold f66 n66 numberP; dsimp only
  refine qbc ?_
  cases h : numP (wordAt l i) with
  | none =>
    rw [h] at hnm
    unfold numD at hnm
    (repeat' first | (with_reducible first | (apply qbu; intro hkk hke) | apply qat | apply tp_pan | apply qai | apply qaa (b:=true) | apply qaq | (apply tot_neq_f; omega)) | ((conv => arg 2; arg 1; simp (disch:=first | omega | assumption) only [qan,qaf,Nat.add_zero,qah,qap,qay,ext0,extS,r64,hwd,hf,r111,hnm,r28,hst]); (with_reducible apply qab)))
    ((try conv => arg 2; simp only [qac,qaj,shut_agg,shut_iface,qax,qau,qal,qbh,qah,qby,canon_iface,qav,qas,qbe,qag,qam,st_take]); refine qak ?_)
    rfl
  | some n =>
    rw [h] at hnm
    unfold numD at hnm
    dsimp only at hnm ⊢
    by_cases h2 : most < n
    · rw [if_pos h2]
      (repeat' first | (with_reducible first | (apply qbu; intro hkk hke) | (apply tot_jk; · assumption) | apply qat | apply tp_pan | apply qai | apply qaa (b:=true) | apply qaa (b:=false) | apply qaq | apply qao | (apply tot_neq_t; omega)) | ((conv => arg 2; arg 1; simp (disch:=first | omega | assumption) only [leaves_pan,qan,qaf,Nat.add_zero,qah,qap,qay,ext0,extS,eg_0,eg_S,r64,hwd,hf,r111,hnm,r28,hst]); (with_reducible first | apply qab | (apply tot_gtr_t; omega))))
      ((try conv => arg 2; simp only [qac,qaj,shut_agg,shut_iface,qax,qau,qal,qbh,qah,qby,canon_iface,qav,qas,qbe,qag,qam,st_take]); refine qak ?_)
      rfl
    · rw [if_neg h2]
      (repeat' first | (with_reducible first | (apply qbu; intro hkk hke) | (apply tot_jk; · assumption) | apply qa4 | apply qat | apply qai | apply qaa (b:=false) | apply qao | (apply tot_neq_t; omega)) | ((conv => arg 2; arg 1; simp (disch:=first | omega | assumption) only [Option.map_some,qa7,qa2,qar,qan,qaf,Nat.zero_add,Nat.add_zero,qa0,qap,qay,st_load,st_store,ext0,extS,eg_0,eg_S,r64,hwd,hf,r111,hnm,ipl1,ips1]); (with_reducible first | apply qab | (apply tot_gtr_f; omega))))
      ((try conv => arg 2; simp (disch:=first | omega | assumption) only [qac,qaj,qae,qah,qad,qag,qam,st_take,hkp]); refine qak ?_)
      rfl
end Go.Vm.Rx
