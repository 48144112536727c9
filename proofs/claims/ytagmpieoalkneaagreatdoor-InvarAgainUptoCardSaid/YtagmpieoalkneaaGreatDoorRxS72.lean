/- RxS70, RxS71, RxS72 in one text. -/
import Derived.Test.YtagmpieoalkneaaGreatDoorRxS66
import Derived.Test.YtagmpieoalkneaaGreatDoorRxS60
import Derived.Test.YtagmpieoalkneaaGreatDoorRxI8
set_option linter.all false
/- The program's reader of a line: a sign,and what stands before and behind it. -/
namespace Go.Vm.Rx
open Go Go.Proofs P
set_option maxRecDepth 10000
set_option maxHeartbeats 4000000
def fltD (l : List Word) (i : Nat) (e : Int) : D:=.iface 55 (.agg [.int .i64 (wordW l i).line,.int .i64 (wordW l i).col,.int .i64 e])
theorem flt_shut (l : List Word) (i : Nat) (e : Int) (n : Nat) : (fltD l i e).shut n = fltD l i e:=by simp [fltD]
theorem flt_canon (l : List Word) (i : Nat) (e : Int) : (fltD l i e).canon = fltD l i e:=rfl
section
variable (A : St) (k : Nat) (l : List Word) (hl : LineOk l) (i : Nat) (hk : k < A.length) (hi : i ≤ 100000000)
include hl hk hi
theorem ip_must (s : Str) : f62 (.ref k 0) (.str s) (st A k (ipC l i)) = some (if wordAt l i = s then (.ret (.tup []),st A k (ipC l ((i : Int) + 1))) else (.pan (fltD l i 120),st A k (ipC l i))):=by
  rw [s62 A k l hl i s hk hi]
  by_cases h : wordAt l i = s
  · rw [mustP_t h,if_pos h]; rfl
  · rw [mustP_f h,if_neg h]; rfl
theorem ip_name : f63 (.ref k 0) (st A k (ipC l i)) = some (if isName (wordAt l i) = true then (.ret (.str (wordAt l i)),st A k (ipC l ((i : Int) + 1))) else (.pan (fltD l i 31),st A k (ipC l i))):=by
  rw [s63 A k l hl i hk hi]
  unfold nameP
  by_cases h : isName (wordAt l i) = true
  · rw [if_pos h,if_pos h]; rfl
  · rw [if_neg h,if_neg h]; rfl
theorem ip_stop (e : Int) : f28 (.ref k 0) (.int .i64 e) (st A k (ipC l i)) = some (.pan (fltD l i e),st A k (ipC l i)):=s28 A k l hl i e hk (by omega)
end
def ipLine (A : St) (k : Nat) (l : List Word) : Except (Nat × Int) Iv → Res × St → Prop
  | .ok v,r => ∃ j : Int,r = (.ret (encIv v),st A k (ipC l j))
  | .error (j,e),r => ∃ j' : Int,r = (.pan (fltD l j e),st A k (ipC l j'))
theorem s65 (A : St) (k : Nat) (l : List Word) (hl : LineOk l) (i : Nat) (hk : k < A.length) (hi : i ≤ l.length) :
    Tot (ipRes (fun x : List Str => encL 1 (x.map .str)) A k l (ingP l (l.length + 1 - i) [] i)) (f65 (.ref k 0) (st A k (ipC l i))):=by
  have:=s65_loop A k l hl hk i (l.length + 1 - i) i [] [.cells []] 0 (by omega) hi List.Pairwise.nil (by simp) rfl
  unfold f65 n65; dsimp only
  (repeat' first | ((conv => arg 2; arg 1; simp (disch:=first | omega | assumption) only [qam,st_appr,tok_v0]); (with_reducible apply qab)))
  conv => arg 2; simp only []
  exact this
theorem ip_sign {Q : Res × St → Prop} (A : St) (k : Nat) (l : List Word) (hl : LineOk l) (i : Nat) (hk : k < A.length) (hi : i ≤ 100000000) (nm pk : Str) (ig y : D) (h i0 : Int) (hg : ∀ m,ig.shut m = ig)
    (hnx : ∀ y,Tot Q (LP Tryz.prog rxA 25 [0,1,0,1,1,1,1,1,1,1,1,1,1,1,1] [(st A k (ipC l i0))] (Env.mk (sp [(0,.ref k 0),(1,.ref A.length 0),(0,.ref (A.length + 1) 0),(36,y),(19,.int .i64 3)] 74) []) (st (A ++ [.cells (ivX [] [] (.sl .full 0 []) 0 0 0),.cells (ivX nm pk ig h (signOf (wordAt l i)) 0)]) k (ipC l i)))) :
    Tot Q (LP Tryz.prog rxA 25 [0,1,0,1,1,1,1,1,1,1,1,1,1,1,1] [(st A k (ipC l i0))] (Env.mk (sp [(0,.ref k 0),(1,.ref A.length 0),(0,.ref (A.length + 1) 0),(36,y),(19,.int .i64 0)] 74) []) (st (A ++ [.cells (ivX [] [] (.sl .full 0 []) 0 0 0),.cells (ivX nm pk ig h 0 0)]) k (ipC l i))):=by
  have hwd:=fun L => s64 (A ++ L) k l hl i (lenL hk) (by omega)
  have hsg:=fun n A => s43 n A
  have s1 : signT 1 = [61,61]:=rfl
  have s2 : signT 2 = [60,61]:=rfl
  have s3 : signT 3 = [62,61]:=rfl
  have hf : fieldO false 0 1 (encW (wordW l i)) = some (.str (wordAt l i)):=by rw [fld0,wordW_t]
  have hkp:=fun c c' => stLL2_Kept (A:=A) (k:=k) (s0:=.cells (ivX [] [] (.sl .full 0 []) 0 0 0)) (s1:=.cells (ivX nm pk ig h c 0)) (t1:=.cells (ivX nm pk ig h c' 0)) (cs:=ipC l i) (cs':=ipC l i) (fun n => ipC_shut _ _ _) (fun n => by simp [ivX_shut nm pk ig h c' 0 hg]) hk
  have htk:=fun cs s => stLL2_take (A:=A) (k:=k) (cs:=cs) (s0:=.cells (ivX [] [] (.sl .full 0 []) 0 0 0)) (s1:=s)
  refine qbj (q25_0 ..) ?_
  unfold n25_0; dsimp only
  by_cases h1 : wordAt l i = [61,61]
  · have hs : signOf (wordAt l i) = 1:=by rw [h1]; rfl
    rw [hs] at hnx
    rw [h1] at hf
    (repeat' first | (with_reducible first | (apply qbu; intro hkk hke) | (apply tot_jk; · assumption) | apply qa4 | apply qat | apply tp_gk | apply qaa (b:=true) | apply qaq | (apply tot_seql_t; first | assumption | with_reducible rfl)) | ((conv => arg 2; arg 1; simp (disch:=first | omega | assumption) only [qa7,qa2,qan,qaf,Nat.zero_add,Nat.add_zero,qa6,qbd,qbb,qa0,qah,qay,sto_sh,stoc0,stocS,Int.reduceAdd,eg_0,eg_S,st_sto,r64,hwd,hf,r43,hsg,s1,ivs4,hkp]); (with_reducible first | apply qab | apply qbi | (apply qa1; omega))))
    refine qbj (q25_0 ..) ?_
    unfold n25_0; dsimp only
    (repeat' first | (with_reducible first | (apply qbu; intro hkk hke) | (apply tot_jk; · assumption) | apply qat | apply tp_gk | apply qaa (b:=true) | apply qaa (b:=false) | apply qaq | apply qao | (apply qbz; first | assumption | decide | exact List.cons_ne_nil _ _)) | ((conv => arg 2; arg 1; simp (disch:=first | omega | assumption) only [qa7,qa2,qaj,qbr,shut_ref,qal,qan,qaf,List.map_nil,Nat.zero_add,Nat.add_zero,List.length_append,List.length_cons,List.length_nil,qa6,qbd,qbb,qah,qay,qam,Nat.reduceAdd,Int.reduceAdd,eg_0,eg_S,r64,hwd,hf,r43,hsg,s2,htk]); (with_reducible first | apply qab | apply qbi | (apply qa1; omega))))
    refine qbj (q25_0 ..) ?_
    unfold n25_0; dsimp only
    (repeat' first | (with_reducible first | (apply qbu; intro hkk hke) | (apply tot_jk; · assumption) | apply qat | apply tp_gk | apply qaa (b:=true) | apply qaa (b:=false) | apply qaq | apply qao | (apply qbz; first | assumption | decide | exact List.cons_ne_nil _ _)) | ((conv => arg 2; arg 1; simp (disch:=first | omega | assumption) only [qa7,qa2,qaj,qbr,shut_ref,qal,qan,qaf,List.map_nil,Nat.zero_add,Nat.add_zero,List.length_append,List.length_cons,List.length_nil,qa6,qbd,qbb,qah,qay,qam,Nat.reduceAdd,Int.reduceAdd,eg_0,eg_S,r64,hwd,hf,r43,hsg,s3,htk]); (with_reducible first | apply qab | apply qbi | (apply qa1; omega))))
    conv => arg 2; simp (disch:=first | omega | assumption) only [qaj,qbr,shut_ref,List.map_nil,Nat.zero_add,List.length_append,List.length_cons,List.length_nil,qa6,qbd,qbb,qam,Nat.reduceAdd,eg_0,eg_S,htk]
    exact hnx _
  · by_cases h2 : wordAt l i = [60,61]
    · have hs : signOf (wordAt l i) = 2:=by rw [h2]; rfl
      rw [hs] at hnx
      rw [h2] at hf
      (repeat' first | (with_reducible first | (apply qbu; intro hkk hke) | (apply tot_jk; · assumption) | apply qat | apply tp_gk | apply qaa (b:=true) | apply qaa (b:=false) | apply qaq | apply qao | (apply qbz; first | assumption | decide | exact List.cons_ne_nil _ _)) | ((conv => arg 2; arg 1; simp (disch:=first | omega | assumption) only [qa7,qa2,qal,qan,qaf,Nat.add_zero,qa6,qbd,qbb,qah,qay,Int.reduceAdd,eg_0,eg_S,r64,hwd,hf,r43,hsg,s1]); (with_reducible first | apply qab | apply qbi | (apply qa1; omega))))
      refine qbj (q25_0 ..) ?_
      unfold n25_0; dsimp only
      (repeat' first | (with_reducible first | (apply qbu; intro hkk hke) | (apply tot_jk; · assumption) | apply qa4 | apply qat | apply tp_gk | apply qaa (b:=true) | apply qaq | (apply tot_seql_t; first | assumption | with_reducible rfl)) | ((conv => arg 2; arg 1; simp (disch:=first | omega | assumption) only [qa7,qa2,qaj,qbr,shut_ref,qan,qaf,List.map_nil,Nat.zero_add,Nat.add_zero,List.length_append,List.length_cons,List.length_nil,qa6,qbd,qbb,qa0,qah,qay,qam,sto_sh,stoc0,stocS,Nat.reduceAdd,Int.reduceAdd,eg_0,eg_S,st_sto,r64,hwd,hf,r43,hsg,s2,ivs4,hkp,htk]); (with_reducible first | apply qab | apply qbi | (apply qa1; omega))))
      refine qbj (q25_0 ..) ?_
      unfold n25_0; dsimp only
      (repeat' first | (with_reducible first | (apply qbu; intro hkk hke) | (apply tot_jk; · assumption) | apply qat | apply tp_gk | apply qaa (b:=true) | apply qaa (b:=false) | apply qaq | apply qao | (apply qbz; first | assumption | decide | exact List.cons_ne_nil _ _)) | ((conv => arg 2; arg 1; simp (disch:=first | omega | assumption) only [qa7,qa2,qaj,qbr,shut_ref,qal,qan,qaf,List.map_nil,Nat.zero_add,Nat.add_zero,List.length_append,List.length_cons,List.length_nil,qa6,qbd,qbb,qah,qay,qam,Nat.reduceAdd,Int.reduceAdd,eg_0,eg_S,r64,hwd,hf,r43,hsg,s3,htk]); (with_reducible first | apply qab | apply qbi | (apply qa1; omega))))
      conv => arg 2; simp (disch:=first | omega | assumption) only [qaj,qbr,shut_ref,List.map_nil,Nat.zero_add,List.length_append,List.length_cons,List.length_nil,qa6,qbd,qbb,qam,Nat.reduceAdd,eg_0,eg_S,htk]
      exact hnx _
    · by_cases h3 : wordAt l i = [62,61]
      · have hs : signOf (wordAt l i) = 3:=by rw [h3]; rfl
        rw [hs] at hnx
        rw [h3] at hf
        (repeat' first | (with_reducible first | (apply qbu; intro hkk hke) | (apply tot_jk; · assumption) | apply qat | apply tp_gk | apply qaa (b:=true) | apply qaa (b:=false) | apply qaq | apply qao | (apply qbz; first | assumption | decide | exact List.cons_ne_nil _ _)) | ((conv => arg 2; arg 1; simp (disch:=first | omega | assumption) only [qa7,qa2,qal,qan,qaf,Nat.add_zero,qa6,qbd,qbb,qah,qay,Int.reduceAdd,eg_0,eg_S,r64,hwd,hf,r43,hsg,s1]); (with_reducible first | apply qab | apply qbi | (apply qa1; omega))))
        refine qbj (q25_0 ..) ?_
        unfold n25_0; dsimp only
        (repeat' first | (with_reducible first | (apply qbu; intro hkk hke) | (apply tot_jk; · assumption) | apply qat | apply tp_gk | apply qaa (b:=true) | apply qaa (b:=false) | apply qaq | apply qao | (apply qbz; first | assumption | decide | exact List.cons_ne_nil _ _)) | ((conv => arg 2; arg 1; simp (disch:=first | omega | assumption) only [qa7,qa2,qaj,qbr,shut_ref,qal,qan,qaf,List.map_nil,Nat.zero_add,Nat.add_zero,List.length_append,List.length_cons,List.length_nil,qa6,qbd,qbb,qah,qay,qam,Nat.reduceAdd,Int.reduceAdd,eg_0,eg_S,r64,hwd,hf,r43,hsg,s2,htk]); (with_reducible first | apply qab | apply qbi | (apply qa1; omega))))
        refine qbj (q25_0 ..) ?_
        unfold n25_0; dsimp only
        (repeat' first | (with_reducible first | (apply qbu; intro hkk hke) | (apply tot_jk; · assumption) | apply qa4 | apply qat | apply tp_gk | apply qaa (b:=true) | apply qaq | (apply tot_seql_t; first | assumption | with_reducible rfl)) | ((conv => arg 2; arg 1; simp (disch:=first | omega | assumption) only [qa7,qa2,qaj,qbr,shut_ref,qan,qaf,List.map_nil,Nat.zero_add,Nat.add_zero,List.length_append,List.length_cons,List.length_nil,qa6,qbd,qbb,qa0,qah,qay,qam,sto_sh,stoc0,stocS,Nat.reduceAdd,Int.reduceAdd,eg_0,eg_S,st_sto,r64,hwd,hf,r43,hsg,s3,ivs4,hkp,htk]); (with_reducible first | apply qab | apply qbi | (apply qa1; omega))))
        conv => arg 2; simp (disch:=first | omega | assumption) only [qaj,qbr,shut_ref,List.map_nil,Nat.zero_add,List.length_append,List.length_cons,List.length_nil,qa6,qbd,qbb,qam,Nat.reduceAdd,eg_0,eg_S,htk]
        exact hnx _
      · have hs : signOf (wordAt l i) = 0:=by unfold signOf; rw [if_neg h1,if_neg h2,if_neg h3]
        rw [hs] at hnx
        (repeat' first | (with_reducible first | (apply qbu; intro hkk hke) | (apply tot_jk; · assumption) | apply qat | apply tp_gk | apply qaa (b:=true) | apply qaa (b:=false) | apply qaq | apply qao | (apply qbz; first | assumption | decide | exact List.cons_ne_nil _ _)) | ((conv => arg 2; arg 1; simp (disch:=first | omega | assumption) only [qa7,qa2,qal,qan,qaf,Nat.add_zero,qa6,qbd,qbb,qah,qay,Int.reduceAdd,eg_0,eg_S,r64,hwd,hf,r43,hsg,s1]); (with_reducible first | apply qab | apply qbi | (apply qa1; omega))))
        refine qbj (q25_0 ..) ?_
        unfold n25_0; dsimp only
        (repeat' first | (with_reducible first | (apply qbu; intro hkk hke) | (apply tot_jk; · assumption) | apply qat | apply tp_gk | apply qaa (b:=true) | apply qaa (b:=false) | apply qaq | apply qao | (apply qbz; first | assumption | decide | exact List.cons_ne_nil _ _)) | ((conv => arg 2; arg 1; simp (disch:=first | omega | assumption) only [qa7,qa2,qaj,qbr,shut_ref,qal,qan,qaf,List.map_nil,Nat.zero_add,Nat.add_zero,List.length_append,List.length_cons,List.length_nil,qa6,qbd,qbb,qah,qay,qam,Nat.reduceAdd,Int.reduceAdd,eg_0,eg_S,r64,hwd,hf,r43,hsg,s2,htk]); (with_reducible first | apply qab | apply qbi | (apply qa1; omega))))
        refine qbj (q25_0 ..) ?_
        unfold n25_0; dsimp only
        (repeat' first | (with_reducible first | (apply qbu; intro hkk hke) | (apply tot_jk; · assumption) | apply qat | apply tp_gk | apply qaa (b:=true) | apply qaa (b:=false) | apply qaq | apply qao | (apply qbz; first | assumption | decide | exact List.cons_ne_nil _ _)) | ((conv => arg 2; arg 1; simp (disch:=first | omega | assumption) only [qa7,qa2,qaj,qbr,shut_ref,qal,qan,qaf,List.map_nil,Nat.zero_add,Nat.add_zero,List.length_append,List.length_cons,List.length_nil,qa6,qbd,qbb,qah,qay,qam,Nat.reduceAdd,Int.reduceAdd,eg_0,eg_S,r64,hwd,hf,r43,hsg,s3,htk]); (with_reducible first | apply qab | apply qbi | (apply qa1; omega))))
        conv => arg 2; simp (disch:=first | omega | assumption) only [qaj,qbr,shut_ref,List.map_nil,Nat.zero_add,List.length_append,List.length_cons,List.length_nil,qa6,qbd,qbb,qam,Nat.reduceAdd,eg_0,eg_S,htk]
        exact hnx _
end Go.Vm.Rx

/- The program's reader of a line: all of it. -/
namespace Go.Vm.Rx
open Go Go.Proofs P
set_option maxRecDepth 10000
set_option maxHeartbeats 4000000
theorem s25_end (A : St) (k : Nat) (l : List Word) (hl : LineOk l) (hk : k < A.length) (nm pk : Str) (ing : List Str) (h c : Int) (i : Nat) (hi : i < l.length) (i0 : Int) (y : D) (hc : c ≠ 0) :
    Tot (ipLine A k l ((numberP l 62 (i + 1)).bind fun y => tail4P l nm pk ing h c y.1 y.2)) (LP Tryz.prog rxA 25 [0,1,0,1,1,1,1,1,1,1,1,1,1,1,1] [(st A k (ipC l i0))] (Env.mk (sp [(0,.ref k 0),(1,.ref A.length 0),(0,.ref (A.length + 1) 0),(36,y),(19,.int .i64 3)] 74) []) (st (A ++ [.cells (ivX [] [] (.sl .full 0 []) 0 0 0),.cells (ivX nm pk (encL 1 (ing.map .str)) h c 0)]) k (ipC l i))):=by
  have hlen:=hl.len
  have hkp:=fun L j => stL_Kept (A:=A) (k:=k) (cs:=ipC l i0) (cs':=ipC l j) (L:=L) (ipC_shut _ _ _)
  have hb2:=fun L => s66 (A ++ L) k l hl (i + 1) 62 (lenL hk) (by omega)
  have hps:=str_shut ing 1
  have hpc:=str_canon ing 1
  have hpe : (encL 1 (ing.map D.str)).cell?.isSome = true:=rfl
  simp only [Int.natCast_add,Int.natCast_one] at hb2
  refine qbj (q25_0 ..) ?_
  unfold n25_0; dsimp only
  rcases numberP_cases l 62 (i + 1) with ⟨e,he,h5⟩ | ⟨m,h5,h6⟩
  · simp only [h5,ipOut] at hb2
    rw [h5]
    (repeat' first | (with_reducible first | (apply qbu; intro hkk hke) | (apply tot_jk; · assumption) | apply qa4 | apply tp_pan | apply qai | apply qaa (b:=false) | apply qao | (apply tot_eql_f; omega)) | ((conv => arg 2; arg 1; simp (disch:=first | omega | assumption) only [qa7,qa2,leaves_pan,qan,qaf,Nat.zero_add,Nat.add_zero,qa6,qbd,qbb,qa0,qah,qay,ld_sh,ldc0,ldcS,eg_0,eg_S,stL_load,stL_store,st_ldo,ipl1,ips1,ivl4,r66,hb2]); (with_reducible first | apply qab | (apply qba; omega))))
    ((try conv => arg 2; simp (disch:=first | omega | assumption) only [qac,qaj,shut_agg,shut_iface,qax,qau,qbh,qah,qby,canon_iface,qav,qas,qbe,qag,qam,stL_take,hkp]); refine qak ?_)
    exact ⟨_,rfl⟩
  · simp only [h5,ipOut] at hb2
    rw [h5]
    show Tot (ipLine A k l (tail4P l nm pk ing h c m (i + 1 + 1))) _
    have hm3:=fun L => ip_must (A ++ L) k l hl (i + 1 + 1) (lenL hk) (by omega) wPath
    simp only [Int.natCast_add,Int.natCast_one] at hm3 hb2
    (repeat' first | (with_reducible first | (apply qbu; intro hkk hke) | (apply tot_jk; · assumption) | apply qa4 | apply qat | apply qaa (b:=false) | apply qao | (apply tot_eql_f; omega)) | ((conv => arg 2; arg 1; simp (disch:=first | omega | assumption) only [qa7,qa2,qan,qaf,Nat.zero_add,Nat.add_zero,qa6,qbd,qbb,qa0,qah,qap,qay,ld_sh,ldc0,ldcS,sto_sh,stoc0,stocS,eg_0,eg_S,stL_load,stL_store,st_ldo,st_sto,ipl1,ips1,ivl4,r66,hb2,ivs5,r62,hm3]); (with_reducible first | apply qab | (apply qba; omega))))
    by_cases hp : wordAt l (i + 1 + 1) = wPath
    · rw [if_pos hp,tail4_t _ _ _ _ _ _ hp]
      have hi7:=qbw (l:=l) (i:=i + 1 + 1) (by rw [hp]; simp)
      obtain ⟨z,hz,_,hzc⟩:=from_enc encW 3 (by omega) plainWs l (i + 1 + 1 + 1) (by omega)
      have hwd8 : ∀ w,w ∈ l.drop (i + 1 + 1 + 1) → w.t.length ≤ 100000000:=fun w hm => hl.short w (List.mem_of_mem_drop hm)
      have hrd:=fun A => s67 (l.drop (i + 1 + 1 + 1)) (by simp only [List.length_drop]; omega) hwd8 A
      have hat:=readP_at hwd8
      simp only [List.length_drop] at hat
      have hg2 : ∀ L x,(st (A ++ L) k x)[A.length + 2]? = (A ++ L)[A.length + 2]?:=fun L x => st_other (by omega)
      unfold pathP
      generalize readP (l.drop (i + 1 + 1 + 1)) = q at hrd hat ⊢
      obtain ⟨r,at_,e⟩:=q
      unfold readD at hrd
      dsimp only at hrd hat ⊢
      simp only [Int.natCast_add,Int.natCast_one] at hz
      have hsF:=fun h c n => ivsF nm pk [] [] (encL 1 (ing.map .str)) (.sl .full 0 []) h c n 0 0 0 r hpe
      have hFs:=fun h c n m => ivF_shut nm pk (encL 1 (ing.map .str)) h c n r hps m
      have hFc:=fun h c n => ivF_can nm pk (encL 1 (ing.map .str)) h c n r hpc
      have hwt : ∀ cs k A,waitO cs k A = guardP (A[k]? = some (.cells cs)) (some (.ref k 0)):=fun _ _ _ => rfl
      by_cases he : e = 0
      · subst he
        (repeat' first | (with_reducible first | (apply qbu; intro hkk hke) | (apply tot_jk; · assumption) | apply qa4 | apply qat | apply tp_gs0 | apply tp_gs1 | apply qai | apply qaa (b:=false) | apply qao | (apply tot_neq_t; omega)) | ((conv => arg 2; arg 1; simp (disch:=first | omega | assumption) only [bn_some,qac,Option.map_some,qar,qan,qaf,Nat.zero_add,Nat.add_zero,ofA3,List.length_append,List.length_cons,List.length_nil,sameAd_refl,qa6,qbd,qbb,qa0,qam,app_nil',qbx,ld_sh,qbp,ldc0,ldcS,sto_sh,sto_sh0,stoc0,stocS,ext0,extS,Nat.reduceAdd,get_sh,List.getElem?_cons_succ,eg_0,eg_S,stL_load,stL_appr,st_ldo,st_sto,ipl0,ipl1,hz,hzc,r67,hrd,mL_gw,hwt,hg2,rx_lay,rx_fold,ivs6,ivlF,hsF,List.getElem?_cons_zero]); (with_reducible first | apply qab | apply qbi)))
        ((try conv => arg 2; simp (disch:=first | omega | assumption) only [qac,shut_agg,qae,qby,qad,qag,qam,stL_take,hkp,hFs,hFc]); refine qak ?_)
        exact ⟨_,rfl⟩
      · have hst:=fun L => ip_stop (A ++ L) k l hl (i + 1 + 1 + 1 + at_) (lenL hk) (by omega) e
        simp only [Int.natCast_add,Int.natCast_one] at hst
        rw [if_neg he]
        (repeat' first | (with_reducible first | (apply qbu; intro hkk hke) | apply qa4 | apply qat | apply tp_pan | apply tp_gs0 | apply tp_gs1 | apply qai | apply qaa (b:=true) | apply qaq | (apply tot_neq_f; omega)) | ((conv => arg 2; arg 1; simp (disch:=first | omega | assumption) only [qac,qa7,qa2,leaves_pan,qan,qaf,Nat.zero_add,Nat.add_zero,List.length_append,List.length_cons,List.length_nil,sameAd_refl,qa6,qbd,qbb,qa0,qah,qay,qam,app_nil',qbx,sto_sh,stoc0,stocS,ext0,extS,Nat.reduceAdd,get_sh,List.getElem?_cons_succ,eg_0,eg_S,stL_load,stL_store,stL_appr,st_sto,ipl0,ipl1,ips1,hz,hzc,r67,hrd,mL_gw,hwt,hg2,rx_lay,r28,hst,List.getElem?_cons_zero]); (with_reducible first | apply qab | apply qbi)))
        ((try conv => arg 2; simp (disch:=first | omega | assumption) only [qac,qbh,qbe,qag,qam,stL_take,hkp,flt_shut,flt_canon]); refine qak ?_)
        exact ⟨_,rfl⟩
    · rw [if_neg hp,tail4_f _ _ _ _ _ _ hp]
      (repeat' first | (with_reducible first | apply tp_pan | apply qai) | ((conv => arg 2; arg 1; simp only [leaves_pan,qa6,qbd,qbb,eg_0,eg_S]); (with_reducible apply qab)))
      ((try conv => arg 2; simp (disch:=first | omega | assumption) only [qac,qbh,qbe,qag,qam,stL_take,hkp,flt_shut,flt_canon]); refine qak ?_)
      exact ⟨_,rfl⟩
end Go.Vm.Rx

/- The program's reader of a line: the whole. -/
namespace Go.Vm.Rx
open Go Go.Proofs P
set_option maxRecDepth 10000
set_option maxHeartbeats 4000000
theorem s25 (A : St) (k : Nat) (l : List Word) (hl : LineOk l) (hk : k < A.length) :
    Tot (ipLine A k l (lineP l)) (f25 (.ref k 0) (st A k (ipC l 0))):=by
  have hlen:=hl.len
  have hkp:=fun L j => stL_Kept (A:=A) (k:=k) (cs:=ipC l 0) (cs':=ipC l j) (L:=L) (ipC_shut _ _ _)
  have hm0 : ∀ L,f62 (.ref k 0) (.str wInvariant) (st (A ++ L) k (ipC l 0)) = some (if wordAt l 0 = wInvariant then (.ret (.tup []),st (A ++ L) k (ipC l 1)) else (.pan (fltD l 0 120),st (A ++ L) k (ipC l 0))):=fun L => ip_must (A ++ L) k l hl 0 (lenL hk) (by omega) wInvariant
  have hm2 : ∀ L,f62 (.ref k 0) (.str wPackets) (st (A ++ L) k (ipC l 2)) = some (if wordAt l 2 = wPackets then (.ret (.tup []),st (A ++ L) k (ipC l 3)) else (.pan (fltD l 2 120),st (A ++ L) k (ipC l 2))):=fun L => ip_must (A ++ L) k l hl 2 (lenL hk) (by omega) wPackets
  have hm4 : ∀ L,f62 (.ref k 0) (.str wFrom) (st (A ++ L) k (ipC l 4)) = some (if wordAt l 4 = wFrom then (.ret (.tup []),st (A ++ L) k (ipC l 5)) else (.pan (fltD l 4 120),st (A ++ L) k (ipC l 4))):=fun L => ip_must (A ++ L) k l hl 4 (lenL hk) (by omega) wFrom
  have hnm : ∀ L,f63 (.ref k 0) (st (A ++ L) k (ipC l 1)) = some (if isName (wordAt l 1) = true then (.ret (.str (wordAt l 1)),st (A ++ L) k (ipC l 2)) else (.pan (fltD l 1 31),st (A ++ L) k (ipC l 1))):=fun L => ip_name (A ++ L) k l hl 1 (lenL hk) (by omega)
  have hw3 : ∀ L,f64 (.ref k 0) (st (A ++ L) k (ipC l 3)) = some (.ret (encW (wordW l 3)),st (A ++ L) k (ipC l 3)):=fun L => s64 (A ++ L) k l hl 3 (lenL hk) (by omega)
  have hf3 : ∀ L,f28 (.ref k 0) (.int .i64 10) (st (A ++ L) k (ipC l 3)) = some (.pan (fltD l 3 10),st (A ++ L) k (ipC l 3)):=fun L => ip_stop (A ++ L) k l hl 3 (lenL hk) (by omega) 10
  have hs3:=hl.at_ 3
  have hcu:=fun A => s35 (wordAt l 3) (by omega) A
  have hwt:=wordW_t l 3
  have hl0 : layCells false 1 0 [D.str [],.str [],.sl .full 0 [],.int .i64 0,.int .i64 0,.int .i64 0,.int .i64 0,.str [],.sl .full 0 []] (.str (wordAt l 1)) = some (ivX (wordAt l 1) [] (.sl .full 0 []) 0 0 0):=rfl
  have hX : [D.str [],.str [],.sl .full 0 [],.int .i64 0,.int .i64 0,.int .i64 0,.int .i64 0,.str [],.sl .full 0 []] = ivX [] [] (.sl .full 0 []) 0 0 0:=rfl
  have hsA:=fun nm => ivsA nm [] [] [] (.sl .full 0 []) (.sl .full 0 []) 0 0 0 0 0 0 rfl
  unfold f25 n25 lineP; dsimp only
  simp only [hX]
  (repeat' first | ((conv => arg 2; arg 1; simp (disch:=first | omega | assumption) only [qan,qaf,Nat.add_zero,qbo,qap,qay,qam,st_appr,r62,hm0]); (with_reducible apply qab)))
  by_cases h0 : wordAt l 0 = wInvariant
  · rw [if_pos h0,mustP_t h0]
    dsimp only [Except.bind]
    have h01:=qbw (l:=l) (i:=0) (by rw [h0]; simp)
    (repeat' first | (with_reducible apply qat) | ((conv => arg 2; arg 1; simp (disch:=first | omega | assumption) only [qay,r63,hnm]); (with_reducible apply qab)))
    unfold nameP
    by_cases h1 : isName (wordAt l 1) = true
    · rw [if_pos h1,if_pos h1]
      dsimp only
      (repeat' first | (with_reducible first | apply qab | apply tp_bnbn | apply qa4 | apply qat) | ((conv => arg 2; arg 1; simp (disch:=first | omega | assumption) only [qan,qaf,Nat.zero_add,Nat.add_zero,qbo,List.length_append,List.length_cons,List.length_nil,qa0,qap,qay,qam,app_nil',qbx,sto_sh,stoc0,stocS,stL_appr,st_sto,ivs0,hsA,r62,hm2]); (with_reducible apply qab)))
      by_cases h2 : wordAt l 2 = wPackets
      · rw [if_pos h2,mustP_t h2]
        dsimp only
        have h21:=qbw (l:=l) (i:=2) (by rw [h2]; simp)
        unfold cubeP
        by_cases h3 : isCube (wordAt l 3) = true
        · rw [if_pos h3]
          simp only [h3,if_true] at hcu
          dsimp only
          (repeat' first | (with_reducible first | (apply qbu; intro hkk hke) | (apply tot_jk; · assumption) | apply qa4 | apply qat | apply qaa (b:=false) | apply qao | (apply tot_neq_t; omega)) | ((conv => arg 2; arg 1; simp (disch:=first | omega | assumption) only [qa7,qa2,qan,qaf,Nat.zero_add,Nat.add_zero,qa0,qap,qay,ld_sh,ldc0,ldcS,sto_sh,stoc0,stocS,Int.reduceAdd,eg_0,stL_load,stL_store,st_ldo,st_sto,ipl1,ips1,ivl1,ivs1,r64,hw3,fld0,hwt,r35,hcu,r62,hm4]); (with_reducible apply qab)))
          by_cases h4 : wordAt l 4 = wFrom
          · rw [if_pos h4,mustP_t h4]
            dsimp only
            have h41:=qbw (l:=l) (i:=4) (by rw [h4]; simp)
            have hin:=fun L => s65 (A ++ L) k l hl 5 (lenL hk) (by omega)
            unfold tail1P
            (repeat' first | (with_reducible apply qat))
            conv => arg 2; arg 1; simp (disch:=first | omega | assumption) only [qay,eg_0,r65]
            refine tot_bn (hin _) fun z hz => ?_
            have hle:=ingP_le (l:=l) (l.length + 1 - 5) 5 []
            generalize ingP l (l.length + 1 - 5) [] 5 = q at hz hle
            rcases q with ⟨j,e⟩ | ⟨ing,j⟩
            · obtain ⟨i',rfl⟩:=hz
              (repeat' first | (with_reducible first | apply tp_pan | apply qai) | ((conv => arg 2; arg 1; simp only [leaves_pan,eg_0,eg_S]); (with_reducible apply qab)))
              ((try conv => arg 2; simp (disch:=first | omega | assumption) only [qac,qaj,shut_agg,shut_iface,qax,qau,qbh,qah,qby,canon_iface,qav,qas,qbe,qag,qam,stL_take,hkp]); refine qak ?_)
              exact ⟨_,rfl⟩
            · cases (show z = _ from hz)
              obtain ⟨hj,hil⟩:=hle ing j (by omega) (by omega) (by simp) rfl
              dsimp only [Except.bind]
              have hm5:=fun L => ip_must (A ++ L) k l hl j (lenL hk) (by omega) wHops
              have hb1:=fun L => s66 (A ++ L) k l hl (j + 1) 64 (lenL hk) (by omega)
              simp only [Int.natCast_add,Int.natCast_one] at hb1
              (repeat' first | (with_reducible first | apply qa4 | apply qat) | ((conv => arg 2; arg 1; simp (disch:=first | omega | assumption) only [qan,qaf,Nat.zero_add,Nat.add_zero,qa0,qap,qay,sto_sh,stoc0,stocS,eg_0,eg_S,st_sto,ivs2,r62,hm5]); (with_reducible apply qab)))
              by_cases h5 : wordAt l j = wHops
              · rw [if_pos h5,tail2_t _ _ _ h5]
                have h51:=qbw (l:=l) (i:=j) (by rw [h5]; simp)
                rcases numberP_cases l 64 (j + 1) with ⟨e,he,k5⟩ | ⟨n,k5,k6⟩
                · simp only [k5,ipOut] at hb1
                  rw [k5]
                  (repeat' first | (with_reducible first | apply qat | apply tp_pan | apply qai) | ((conv => arg 2; arg 1; simp (disch:=first | omega | assumption) only [leaves_pan,qah,qay,eg_0,eg_S,r66,hb1]); (with_reducible apply qab)))
                  ((try conv => arg 2; simp (disch:=first | omega | assumption) only [qac,qaj,shut_agg,shut_iface,qax,qau,qbh,qah,qby,canon_iface,qav,qas,qbe,qag,qam,stL_take,hkp]); refine qak ?_)
                  exact ⟨_,rfl⟩
                · simp only [k5,ipOut] at hb1
                  rw [k5]
                  show Tot (ipLine A k l (tail3P l (wordAt l 1) (wordAt l 3) ing n (j + 1 + 1))) _
                  have hm6:=fun L => ip_must (A ++ L) k l hl (j + 1 + 1) (lenL hk) (by omega) wCount
                  simp only [Int.natCast_add,Int.natCast_one] at hm6 hb1
                  (repeat' first | (with_reducible first | apply qa4 | apply qat) | ((conv => arg 2; arg 1; simp (disch:=first | omega | assumption) only [qan,qaf,Nat.zero_add,Nat.add_zero,qa0,qah,qap,qay,sto_sh,stoc0,stocS,eg_0,eg_S,st_sto,r66,hb1,ivs3,r62,hm6]); (with_reducible apply qab)))
                  by_cases h6 : wordAt l (j + 1 + 1) = wCount
                  · rw [if_pos h6,tail3_t _ _ _ _ h6]
                    have h61:=qbw (l:=l) (i:=j + 1 + 1) (by rw [h6]; simp)
                    conv => arg 2; simp (disch:=first | omega | assumption) only [bn_some,elim_ret,qbh,leaves_pan,leaveM_mL,qbe,qag,qam,eg_0,eg_S,stL_take]
                    refine ip_sign A k l hl (j + 1 + 1 + 1) hk (by omega) _ _ _ _ _ _ (str_shut ing 1) fun y => ?_
                    by_cases hs : signOf (wordAt l (j + 1 + 1 + 1)) = 0
                    · have hst:=fun L => ip_stop (A ++ L) k l hl (j + 1 + 1 + 1) (lenL hk) (by omega) 120
                      rw [signP_f hs,hs]
                      refine qbj (q25_0 ..) ?_
                      unfold n25_0; dsimp only
                      (repeat' first | (with_reducible first | (apply qbu; intro hkk hke) | apply qa4 | apply tp_pan | apply qai | apply qaa (b:=true) | apply qaa (b:=false) | apply qaq | apply qao | (apply tot_eql_t; omega)) | ((conv => arg 2; arg 1; simp (disch:=first | omega | assumption) only [leaves_pan,qan,qaf,Nat.zero_add,Nat.add_zero,qa6,qbd,qbb,qah,qay,ld_sh,ldc0,ldcS,st_ldo,ivl4,r28,hst]); (with_reducible first | apply qab | (apply qba; omega))))
                      ((try conv => arg 2; simp (disch:=first | omega | assumption) only [qac,qbh,qbe,qag,qam,stL_take,hkp,flt_shut,flt_canon]); refine qak ?_)
                      exact ⟨_,rfl⟩
                    · rw [signP_t hs]
                      have hlt : j + 1 + 1 + 1 < l.length:=by
                        refine qbw fun e => hs ?_
                        rw [e]; rfl
                      exact s25_end A k l hl hk (wordAt l 1) (wordAt l 3) ing n _ (j + 1 + 1 + 1) hlt 0 y hs
                  · rw [if_neg h6,tail3_f _ _ _ _ h6]
                    (repeat' first | (with_reducible first | apply tp_pan | apply qai) | ((conv => arg 2; arg 1; simp only [leaves_pan,eg_0,eg_S]); (with_reducible apply qab)))
                    ((try conv => arg 2; simp (disch:=first | omega | assumption) only [qac,qbh,qbe,qag,qam,stL_take,hkp,flt_shut,flt_canon]); refine qak ?_)
                    exact ⟨_,rfl⟩
              · rw [if_neg h5,tail2_f _ _ _ h5]
                (repeat' first | (with_reducible first | apply tp_pan | apply qai) | ((conv => arg 2; arg 1; simp only [leaves_pan,eg_0,eg_S]); (with_reducible apply qab)))
                ((try conv => arg 2; simp (disch:=first | omega | assumption) only [qac,qbh,qbe,qag,qam,stL_take,hkp,flt_shut,flt_canon]); refine qak ?_)
                exact ⟨_,rfl⟩
          · rw [if_neg h4,mustP_f h4]
            (repeat' first | (with_reducible first | apply tp_pan | apply qai) | ((conv => arg 2; arg 1; simp only [leaves_pan,eg_0,eg_S]); (with_reducible apply qab)))
            ((try conv => arg 2; simp (disch:=first | omega | assumption) only [qac,qbh,qbe,qag,qam,stL_take,hkp,flt_shut,flt_canon]); refine qak ?_)
            exact ⟨_,rfl⟩
        · rw [if_neg h3]
          simp only [Bool.not_eq_true] at h3
          simp only [h3,Bool.false_eq_true,if_false] at hcu
          (repeat' first | (with_reducible first | (apply qbu; intro hkk hke) | apply qa4 | apply qat | apply tp_pan | apply qai | apply qaa (b:=true) | apply qaq | (apply tot_neq_f; omega)) | ((conv => arg 2; arg 1; simp (disch:=first | omega | assumption) only [qan,qaf,Nat.zero_add,Nat.add_zero,qa0,qah,qap,qay,ld_sh,ldc0,ldcS,sto_sh,stoc0,stocS,st_ldo,st_sto,ivl1,ivs1,r64,hw3,fld0,hwt,r35,hcu,r28,hf3]); (with_reducible apply qab)))
          ((try conv => arg 2; simp (disch:=first | omega | assumption) only [qac,qbh,qbe,qag,qam,stL_take,hkp,flt_shut,flt_canon]); refine qak ?_)
          exact ⟨_,rfl⟩
      · rw [if_neg h2,mustP_f h2]
        (repeat' first | (with_reducible first | apply tp_pan | apply qai))
        ((try conv => arg 2; simp (disch:=first | omega | assumption) only [qac,qbh,qbe,qag,qam,stL_take,hkp,flt_shut,flt_canon]); refine qak ?_)
        exact ⟨_,rfl⟩
    · rw [if_neg h1,if_neg h1]
      (repeat' first | (with_reducible first | apply tp_pan | apply qai))
      ((try conv => arg 2; simp (disch:=first | omega | assumption) only [qac,qbh,qbe,qag,qam,stL_take,hkp,flt_shut,flt_canon]); refine qak ?_)
      exact ⟨_,rfl⟩
  · rw [if_neg h0,mustP_f h0]
    (repeat' first | (with_reducible first | apply tp_pan | apply qai))
    ((try conv => arg 2; simp (disch:=first | omega | assumption) only [qac,qbh,qbe,qag,qam,stL_take,hkp,flt_shut,flt_canon]); refine qak ?_)
    exact ⟨_,rfl⟩
end Go.Vm.Rx
