/- How the abstract values and store stand for the model's values and memory; what is kept from world to world. -/
import Derived.Test.YtagmpieoalkneaaGreatDoorVmAbs
import Derived.Below
set_option linter.all false
namespace Go.Vm
open Go.RowKit

inductive Bind where
 | var (b o n x:Nat)
 | tok (r:Option (Nat×Nat×Nat)) (n:Nat)
 | none
 | wait
 | obj (l:Nat)

structure Gh where
 base:Nat
 len:Nat
 m:Nat→Bind
 S:Nat→Nat→Prop

def Gh.stab (g:Gh) (b off:Nat):Prop:=b<g.base∨g.S b off

def isAtom:Value→Bool
 | .pointer none|.nilFunc|.nilIface|.map none=>true
 | _=>false

def OwnOk (g:Gh) (o:Own) (es len:Nat) (a:Option Addr) (cap:Nat):Prop :=
 match o with
 | .sh=>True
 | .full=>cap=len
 | .own c s=>c<g.len∧∀ r n,g.m c=.tok r n→s+len≤n∧(s+len=n→cap=len ∨
   ∃ b e lim off,r=some (b,e,lim)∧a=some ⟨b,off,none⟩∧off+len * es=e∧off+cap * es≤lim)

def VslOk (b o n x:Nat) (a:Option Addr) (cap off es len:Nat):Prop :=
 off+len * es≤n∧(a=some ⟨b,o+off,none⟩∨(len=0∧cap=0))∧(off+len * es=n→cap * es≤len * es+x)

def VC (n:Nat) (v:Value):Prop:=v.cells.size=n∧∀ u ∈ v.cells,u.oneCell'=true
mutual
def Rep (g:Gh) (w:World):D→Value→Prop
 | .any,_=>True
 | .bool b,v=>v=.bool b
 | .int k n,v=>v=.int k n
 | .str s,v=>∃ x:ByteArray,v=.string x∧x.data.toList=s
 | .val u,v=>v=u∧isAtom u=true
 | .agg cs,v=>∃ vs:Array Value,v=.agg vs∧RepL g w cs vs.toList
 | .tup ds,v=>∃ vs:Array Value,v=.tuple vs∧RepL g w ds vs.toList
 | .sl o es ds,v=>∃ a cap,v=.slice a ds.length cap∧ds.length≤cap∧OwnOk g o es ds.length a cap ∧
   (ds≠[]→∃ b off,a=some ⟨b,off,none⟩∧RepRow g w b es ds off)
 | .vsl k off es len,v=>k<g.len∧∃ a cap,v=.slice a len cap∧(len≤cap∧(a=none→len=0)∧cap≤9223372036854775807)∧g.m k≠.wait∧∀ b o n x,g.m k=.var b o n x→VslOk b o n x a cap off es len
 | .ref k off,v=>k<g.len∧∃ a,v=.pointer (some a)∧g.m k≠.wait∧∀ b o n x,g.m k=.var b o n x→a=⟨b,o+off,none⟩
 | .peek cs,v=>∃ b off,v=.pointer (some ⟨b,off,none⟩)∧RepAt g w b cs off
 | .fn f first cap,v=>∃ fs cs:Array Value,v=.func f fs cs∧RepL g w first fs.toList∧RepL g w cap cs.toList
 | .iface t d,v=>∃ u,v=.iface t u∧Rep g w d u
 | .yld m k,v=>m=false∧k<g.len∧∃ l,v=.func (.yield l) #[] #[]∧g.m k≠.wait∧∀ l',g.m k=.obj l'→l=l'
 | .mp k,v=>k<g.len∧∃ l,v=.map (some l)∧g.m k≠.wait∧∀ l',g.m k=.obj l'→l=l'
def RepL (g:Gh) (w:World):List D→List Value→Prop
 | [],vs=>vs=[]
 | d::ds,vs=>∃ v r,vs=v::r∧Rep g w d v∧RepL g w ds r
def RepAt (g:Gh) (w:World) (b:Nat):List D→Nat→Prop
 | [],_=>True
 | d::ds,off=>(∃ v,g.stab b off∧w.cell? ⟨b,off,none⟩=some v∧Rep g w d v)∧RepAt g w b ds (off+1)
def RepRow (g:Gh) (w:World) (b es:Nat):List D→Nat→Prop
 | [],_=>True
 | d::ds,off=>(∃ v,Rep g w d v∧VC es v∧∀ j,j<es→g.stab b (off+j)∧w.cell? ⟨b,off+j,none⟩=v.cells[j]?)∧RepRow g w b es ds (off+es)
end

theorem canonL_length (ds:List D):(D.canonL ds).length=ds.length:=by
 induction ds with
 | nil=>rfl
 | cons d ds ih=>simp [D.canonL,ih]
mutual
theorem Rep.canon {g:Gh} {w:World}:∀ (d:D) (v:Value),Rep g w d v→Rep g w d.canon v
 | .any,_,h=>by simpa [D.canon] using h
 | .bool _,_,h=>by simpa [D.canon] using h
 | .int _ _,_,h=>by simpa [D.canon] using h
 | .str _,_,h=>by simpa [D.canon] using h
 | .val _,_,h=>by simpa [D.canon] using h
 | .agg cs,v,h=>by
  simp only [D.canon,Rep] at h ⊢
  obtain ⟨vs,rfl,h⟩:=h
  exact ⟨vs,rfl,RepL.canon cs _ h⟩
 | .tup ds,v,h=>by
  simp only [D.canon,Rep] at h ⊢
  obtain ⟨vs,rfl,h⟩:=h
  exact ⟨vs,rfl,RepL.canon ds _ h⟩
 | .sl o es ds,v,h=>by
  simp only [D.canon,Rep] at h ⊢
  obtain ⟨a,cap,rfl,hc,ho,hr⟩:=h
  cases ds with
  | nil=>exact ⟨a,cap,by simp [D.canonL],by simp [D.canonL],trivial,fun hne=>absurd (by simp [D.canonL]) hne⟩
  | cons d ds =>
   obtain ⟨b,off,rfl,hrow⟩:=hr (by simp)
   refine ⟨_,cap,by rw [canonL_length],by rw [canonL_length];exact hc,trivial,fun _=>⟨b,off,rfl,RepRow.canon b es _ off hrow⟩⟩
 | .vsl _ _ _ _,_,h=>by simpa [D.canon] using h
 | .ref _ _,_,h=>by simpa [D.canon] using h
 | .peek cs,v,h=>by
  simp only [D.canon,Rep] at h ⊢
  obtain ⟨b,off,rfl,h⟩:=h
  exact ⟨b,off,rfl,RepAt.canon b cs off h⟩
 | .fn f first cap,v,h=>by
  simp only [D.canon,Rep] at h ⊢
  obtain ⟨fs,cs,rfl,h1,h2⟩:=h
  exact ⟨fs,cs,rfl,RepL.canon first _ h1,RepL.canon cap _ h2⟩
 | .iface t d,v,h=>by
  simp only [D.canon,Rep] at h ⊢
  obtain ⟨u,rfl,h⟩:=h
  exact ⟨u,rfl,Rep.canon d u h⟩
 | .yld _ _,_,h=>by simpa [D.canon] using h
 | .mp _,_,h=>by simpa [D.canon] using h
theorem RepL.canon {g:Gh} {w:World}:∀ (ds:List D) (vs:List Value),RepL g w ds vs→RepL g w (D.canonL ds) vs
 | [],_,h=>by simpa [D.canonL] using h
 | d::ds,_,h=>by
  simp only [D.canonL,RepL] at h ⊢
  obtain ⟨v,r,rfl,h1,h2⟩:=h
  exact ⟨v,r,rfl,Rep.canon d v h1,RepL.canon ds r h2⟩
theorem RepAt.canon {g:Gh} {w:World} (b:Nat):∀ (ds:List D) (off:Nat),RepAt g w b ds off→RepAt g w b (D.canonL ds) off
 | [],_,h=>by simpa [D.canonL] using h
 | d::ds,off,h=>by
  simp only [D.canonL,RepAt] at h ⊢
  obtain ⟨⟨v,h1,h2,h3⟩,h4⟩:=h
  exact ⟨⟨v,h1,h2,Rep.canon d v h3⟩,RepAt.canon b ds _ h4⟩
theorem RepRow.canon {g:Gh} {w:World} (b es:Nat):∀ (ds:List D) (off:Nat),RepRow g w b es ds off→RepRow g w b es (D.canonL ds) off
 | [],_,h=>by simpa [D.canonL] using h
 | d::ds,off,h=>by
  simp only [D.canonL,RepRow] at h ⊢
  obtain ⟨⟨v,h1,h2⟩,h4⟩:=h
  exact ⟨⟨v,Rep.canon d v h1,h2⟩,RepRow.canon b es ds _ h4⟩
end
theorem canonL_eq (ds:List D):D.canonL ds=ds.map D.canon:=by
 induction ds with
 | nil=>rfl
 | cons d ds ih=>simp [D.canonL,ih]
theorem canA_length (h:Hints) (ds:List D):(canA h ds).length=ds.length:=by
 unfold canA
 cases h.canA<;>simp
theorem RepL.canA {g:Gh} {w:World} (h:Hints) {ds:List D} {vs:List Value} (k:RepL g w ds vs):RepL g w (canA h ds) vs:=by
 unfold Go.Vm.canA
 cases h.canA
 ·exact k
 ·rw [cond_true,← canonL_eq];exact RepL.canon ds vs k

def BindLe (x y:Bind):Prop:=y=x∨(x≠.wait∧y=.none)∨∃ r n r' n',x=.tok r n∧y=.tok r' n'∧n<n'

theorem BindLe.refl (x:Bind):BindLe x x:=.inl rfl
theorem BindLe.trans {x y z:Bind} (h:BindLe x y) (k:BindLe y z):BindLe x z:=by
 rcases k with rfl|⟨k,rfl⟩|⟨r,n,r',n',rfl,rfl,hn⟩
 ·exact h
 ·refine .inr (.inl ⟨?_,rfl⟩)
  rintro rfl
  rcases h with h|h|⟨r1,n1,r2,n2,h1,h2,h3⟩
  ·exact k h
  ·exact h.1 rfl
  ·cases h1
 ·rcases h with h|h|⟨r1,n1,r2,n2,rfl,h2,h3⟩
  ·subst h;exact .inr (.inr ⟨_,_,_,_,rfl,rfl,hn⟩)
  ·cases h.2
  ·cases h2;exact .inr (.inr ⟨_,_,_,_,rfl,rfl,by omega⟩)
def BindGo (x y:Bind):Prop:=BindLe x y∨(x=.wait∧∃ b o n z,y=.var b o n z)
theorem BindGo.ne {x y:Bind} (h:BindGo x y) (hx:x≠.wait):BindLe x y∧y≠.wait:=by
 rcases h with h|h
 ·refine ⟨h, ?_⟩
  rcases h with h|h|⟨r1,n1,r2,n2,h1,h2,h3⟩
  ·rw [h];exact hx
  ·rw [h.2];exact fun e=>by cases e
  ·rw [h2];exact fun e=>by cases e
 ·exact absurd h.1 hx

structure Keeps (g:Gh) (w:World) (g':Gh) (w':World):Prop where
 stab:∀ b off,g.stab b off→g'.stab b off
 cell:∀ b off,g.stab b off→w'.cell? ⟨b,off,none⟩=w.cell? ⟨b,off,none⟩
 bind:∀ k,k<g.len→k<g'.len→BindGo (g.m k) (g'.m k)

theorem shutL_eq (n:Nat) (ds:List D):D.shutL n ds=ds.map (D.shut n):=by
 induction ds with
 | nil=>simp [D.shutL]
 | cons d ds ih=>simp [D.shutL,ih]
@[simp] theorem shutL_length (n:Nat) (ds:List D):(D.shutL n ds).length=ds.length:=by simp [shutL_eq]

section
variable {g g':Gh} {w w':World} (K:Keeps g w g' w')
include K
theorem OwnOk.keep {o:Own} {es len:Nat} {a:Option Addr} {cap:Nat} (h:OwnOk g o es len a cap) :
  OwnOk g' (o.shut g'.len) es len a cap:=by
 cases o with
 | sh=>trivial
 | full=>exact h
 | own c s =>
  simp only [Own.shut]
  split
  ·rename_i hc
   refine ⟨hc,fun r n hm=>?_⟩
   have hb:=K.bind c h.1 hc
   rw [hm] at hb
   rcases hb with (hb|hb|⟨r1,n1,r2,n2,h1,h2,h3⟩)|⟨_,b1,o1,n1,z1,hb⟩
   ·exact h.2 r n hb.symm
   ·cases hb.2
   ·cases h2
    have:=h.2 r1 n1 h1
    exact ⟨by omega,fun e=>by omega⟩
   ·cases hb
  ·trivial
mutual
theorem Rep.keep:∀ (d:D) (v:Value),Rep g w d v→Rep g' w' (d.shut g'.len) v
 | .any,_,_=>by simp [D.shut,Rep]
 | .bool _,_,h=>by simpa [D.shut,Rep] using h
 | .int _ _,_,h=>by simpa [D.shut,Rep] using h
 | .str _,_,h=>by simpa [D.shut,Rep] using h
 | .val _,_,h=>by simpa [D.shut,Rep] using h
 | .agg cs,v,h=>by
  simp only [D.shut,Rep] at h ⊢
  obtain ⟨vs,rfl,h⟩:=h
  exact ⟨vs,rfl,RepL.keep cs _ h⟩
 | .tup ds,v,h=>by
  simp only [D.shut,Rep] at h ⊢
  obtain ⟨vs,rfl,h⟩:=h
  exact ⟨vs,rfl,RepL.keep ds _ h⟩
 | .sl o es ds,v,h=>by
  simp only [D.shut,Rep] at h ⊢
  obtain ⟨a,cap,rfl,hc,ho,hr⟩:=h
  refine ⟨a,cap,by simp,by simpa using hc,by rw [shutL_length];exact ho.keep K,fun hne=>?_⟩
  obtain ⟨b,off,rfl,hrow⟩:=hr (by rintro rfl;exact hne (by simp [D.shutL]))
  exact ⟨b,off,rfl,RepRow.keep b es ds off hrow⟩
 | .vsl k off es len,v,h=>by
  simp only [D.shut,Rep] at h ⊢
  split
  ·rename_i hk
   obtain ⟨h0,a,cap,rfl,hc,hw,ha⟩:=h
   simp only [Rep]
   obtain ⟨hle,hne⟩:=(K.bind k h0 hk).ne hw
   refine ⟨hk,a,cap,rfl,hc,hne,fun b o n x hm=>?_⟩
   rcases hle with hb|hb|⟨r1,n1,r2,n2,h1,h2,h3⟩
   ·exact ha b o n x (hb ▸ hm)
   ·rw [hb.2] at hm;cases hm
   ·rw [h2] at hm;cases hm
  ·simp [Rep]
 | .ref k off,v,h=>by
  simp only [D.shut,Rep] at h ⊢
  split
  ·rename_i hk
   obtain ⟨h0,a,rfl,hw,ha⟩:=h
   simp only [Rep]
   obtain ⟨hle,hne⟩:=(K.bind k h0 hk).ne hw
   refine ⟨hk,a,rfl,hne,fun b o n x hm=>?_⟩
   rcases hle with hb|hb|⟨r1,n1,r2,n2,h1,h2,h3⟩
   ·exact ha b o n x (hb ▸ hm)
   ·rw [hb.2] at hm;cases hm
   ·rw [h2] at hm;cases hm
  ·simp [Rep]
 | .peek cs,v,h=>by
  simp only [D.shut,Rep] at h ⊢
  obtain ⟨b,off,rfl,h⟩:=h
  exact ⟨b,off,rfl,RepAt.keep b cs off h⟩
 | .fn f first cap,v,h=>by
  simp only [D.shut,Rep] at h ⊢
  obtain ⟨fs,cs,rfl,h1,h2⟩:=h
  exact ⟨fs,cs,rfl,RepL.keep first _ h1,RepL.keep cap _ h2⟩
 | .iface t d,v,h=>by
  simp only [D.shut,Rep] at h ⊢
  obtain ⟨u,rfl,h⟩:=h
  exact ⟨u,rfl,Rep.keep d u h⟩
 | .yld m k,v,h=>by
  simp only [D.shut,Rep] at h ⊢
  split
  ·rename_i hk
   obtain ⟨hm,h0,l,rfl,hw,ha⟩:=h
   simp only [Rep]
   obtain ⟨hle,hne⟩:=(K.bind k h0 hk).ne hw
   refine ⟨hm,hk,l,rfl,hne,fun l' hm=>?_⟩
   rcases hle with hb|hb|⟨r1,n1,r2,n2,h1,h2,h3⟩
   ·exact ha l' (hb ▸ hm)
   ·rw [hb.2] at hm;cases hm
   ·rw [h2] at hm;cases hm
  ·simp [Rep]
 | .mp k,v,h=>by
  simp only [D.shut,Rep] at h ⊢
  split
  ·rename_i hk
   obtain ⟨h0,l,rfl,hw,ha⟩:=h
   simp only [Rep]
   obtain ⟨hle,hne⟩:=(K.bind k h0 hk).ne hw
   refine ⟨hk,l,rfl,hne,fun l' hm=>?_⟩
   rcases hle with hb|hb|⟨r1,n1,r2,n2,h1,h2,h3⟩
   ·exact ha l' (hb ▸ hm)
   ·rw [hb.2] at hm;cases hm
   ·rw [h2] at hm;cases hm
  ·simp [Rep]
theorem RepL.keep:∀ (ds:List D) (vs:List Value),RepL g w ds vs→RepL g' w' (D.shutL g'.len ds) vs
 | [],vs,h=>by simpa [D.shutL,RepL] using h
 | d::ds,vs,h=>by
  simp only [D.shutL,RepL] at h ⊢
  obtain ⟨v,r,rfl,h1,h2⟩:=h
  exact ⟨v,r,rfl,Rep.keep d v h1,RepL.keep ds r h2⟩
theorem RepAt.keep:∀ (b:Nat) (ds:List D) (off:Nat),RepAt g w b ds off→RepAt g' w' b (D.shutL g'.len ds) off
 | b,[],off,h=>by simp [D.shutL,RepAt]
 | b,d::ds,off,h=>by
  simp only [D.shutL,RepAt] at h ⊢
  obtain ⟨⟨v,h1,h2,h3⟩,h4⟩:=h
  exact ⟨⟨v,K.stab _ _ h1,(K.cell _ _ h1).trans h2,Rep.keep d v h3⟩,RepAt.keep b ds (off+1) h4⟩
theorem RepRow.keep:∀ (b es:Nat) (ds:List D) (off:Nat),RepRow g w b es ds off→RepRow g' w' b es (D.shutL g'.len ds) off
 | b,es,[],off,h=>by simp [D.shutL,RepRow]
 | b,es,d::ds,off,h=>by
  simp only [D.shutL,RepRow] at h ⊢
  obtain ⟨⟨v,h1,h2,h3⟩,h4⟩:=h
  exact ⟨⟨v,Rep.keep d v h1,h2,fun j hj=>⟨K.stab _ _ (h3 j hj).1,(K.cell _ _ (h3 j hj).1).trans (h3 j hj).2⟩⟩,RepRow.keep b es ds (off+es) h4⟩
end
end

mutual
theorem Rep.shut_id {g:Gh} {w:World} {n:Nat} (hn:g.len≤n):∀ (d:D) (v:Value),Rep g w d v→d.shut n=d
 | .any,_,_=>by simp [D.shut]
 | .bool _,_,h=>by simp [D.shut]
 | .int _ _,_,h=>by simp [D.shut]
 | .str _,_,h=>by simp [D.shut]
 | .val _,_,h=>by simp [D.shut]
 | .agg cs,v,h=>by
  simp only [D.shut,Rep] at h ⊢
  obtain ⟨vs,rfl,h⟩:=h
  rw [RepL.shut_id hn cs _ h]
 | .tup ds,v,h=>by
  simp only [D.shut,Rep] at h ⊢
  obtain ⟨vs,rfl,h⟩:=h
  rw [RepL.shut_id hn ds _ h]
 | .sl o es ds,v,h=>by
  simp only [D.shut,Rep] at h ⊢
  obtain ⟨a,cap,rfl,hc,ho,hr⟩:=h
  have h1:D.shutL n ds=ds:=by
   by_cases hne:ds=[]
   ·subst hne;simp [D.shutL]
   ·obtain ⟨b,off,rfl,hrow⟩:=hr hne
    exact RepRow.shut_id hn b es ds off hrow
  rw [h1]
  cases o with
  | sh=>rfl
  | full=>rfl
  | own c s=>rw [Own.shut,if_pos (Nat.lt_of_lt_of_le ho.1 hn)]
 | .vsl k off es len,v,h=>by
  simp only [D.shut,Rep] at h ⊢
  rw [if_pos (Nat.lt_of_lt_of_le h.1 hn)]
 | .ref k off,v,h=>by
  simp only [D.shut,Rep] at h ⊢
  rw [if_pos (Nat.lt_of_lt_of_le h.1 hn)]
 | .peek cs,v,h=>by
  simp only [D.shut,Rep] at h ⊢
  obtain ⟨b,off,rfl,h⟩:=h
  rw [RepAt.shut_id hn b cs off h]
 | .fn f first cap,v,h=>by
  simp only [D.shut,Rep] at h ⊢
  obtain ⟨fs,cs,rfl,h1,h2⟩:=h
  rw [RepL.shut_id hn first _ h1,RepL.shut_id hn cap _ h2]
 | .iface t d,v,h=>by
  simp only [D.shut,Rep] at h ⊢
  obtain ⟨u,rfl,h⟩:=h
  rw [Rep.shut_id hn d u h]
 | .yld m k,v,h=>by
  simp only [D.shut,Rep] at h ⊢
  rw [if_pos (Nat.lt_of_lt_of_le h.2.1 hn)]
 | .mp k,v,h=>by
  simp only [D.shut,Rep] at h ⊢
  rw [if_pos (Nat.lt_of_lt_of_le h.1 hn)]
theorem RepL.shut_id {g:Gh} {w:World} {n:Nat} (hn:g.len≤n):∀ (ds:List D) (vs:List Value),RepL g w ds vs→D.shutL n ds=ds
 | [],vs,h=>by simp [D.shutL]
 | d::ds,vs,h=>by
  simp only [D.shutL,RepL] at h ⊢
  obtain ⟨v,r,rfl,h1,h2⟩:=h
  rw [Rep.shut_id hn d v h1,RepL.shut_id hn ds r h2]
theorem RepAt.shut_id {g:Gh} {w:World} {n:Nat} (hn:g.len≤n):∀ (b:Nat) (ds:List D) (off:Nat),RepAt g w b ds off→D.shutL n ds=ds
 | b,[],off,h=>by simp [D.shutL]
 | b,d::ds,off,h=>by
  simp only [D.shutL,RepAt] at h ⊢
  obtain ⟨⟨v,h1,h2,h3⟩,h4⟩:=h
  rw [Rep.shut_id hn d v h3,RepAt.shut_id hn b ds _ h4]
theorem RepRow.shut_id {g:Gh} {w:World} {n:Nat} (hn:g.len≤n):∀ (b es:Nat) (ds:List D) (off:Nat),RepRow g w b es ds off→D.shutL n ds=ds
 | b,es,[],off,h=>by simp [D.shutL]
 | b,es,d::ds,off,h=>by
  simp only [D.shutL,RepRow] at h ⊢
  obtain ⟨⟨v,h1,h2,h3⟩,h4⟩:=h
  rw [Rep.shut_id hn d v h1,RepRow.shut_id hn b es ds _ h4]
end

structure Ext (g:Gh) (w:World) (g':Gh) (w':World):Prop where
 base:g'.base=g.base
 below:Below g.base w w'
 stabS:∀ b off,g.S b off→g'.S b off
 cellS:∀ b off,g.S b off→w'.cell? ⟨b,off,none⟩=w.cell? ⟨b,off,none⟩
 len:g.len≤g'.len
 bind:∀ k,k<g.len→BindLe (g.m k) (g'.m k)

theorem Ext.refl (g:Gh) (w:World):Ext g w g w :=
 ⟨rfl,Below.refl _ _,fun _ _ h=>h,fun _ _ _=>rfl,Nat.le_refl _,fun _ _=>BindLe.refl _⟩
theorem Ext.trans {g g1 g2:Gh} {w w1 w2:World} (h:Ext g w g1 w1) (k:Ext g1 w1 g2 w2):Ext g w g2 w2 :=
 ⟨k.base.trans h.base,h.below.trans (h.base ▸ k.below),fun b o hs=>k.stabS b o (h.stabS b o hs),
  fun b o hs=>(k.cellS b o (h.stabS b o hs)).trans (h.cellS b o hs),Nat.le_trans h.len k.len,
  fun i hi=>(h.bind i hi).trans (k.bind i (Nat.lt_of_lt_of_le hi h.len))⟩
theorem Ext.keeps {g g':Gh} {w w':World} (h:Ext g w g' w'):Keeps g w g' w' :=
 ⟨fun b o hs=>hs.imp (fun hb=>h.base ▸ hb) (h.stabS b o),fun b o hs=>by
  rcases hs with hb|hs
  ·exact h.below.cell (p:=⟨b,o,none⟩) hb
  ·exact h.cellS b o hs,fun k h1 _=>.inl (h.bind k h1)⟩

section
variable {g g':Gh} {w w':World} (E:Ext g w g' w')
include E
theorem Ext.rep {d:D} {v:Value} (h:Rep g w d v):Rep g' w' d v:=by
 have:=Rep.keep E.keeps d v h;rwa [Rep.shut_id E.len d v h] at this
theorem Ext.repL {ds:List D} {vs:List Value} (h:RepL g w ds vs):RepL g' w' ds vs:=by
 have:=RepL.keep E.keeps ds vs h;rwa [RepL.shut_id E.len ds vs h] at this
theorem Ext.repAt {b:Nat} {ds:List D} {off:Nat} (h:RepAt g w b ds off):RepAt g' w' b ds off:=by
 have:=RepAt.keep E.keeps b ds off h;rwa [RepAt.shut_id E.len b ds off h] at this
theorem Ext.repRow {b es:Nat} {ds:List D} {off:Nat} (h:RepRow g w b es ds off):RepRow g' w' b es ds off:=by
 have:=RepRow.keep E.keeps b es ds off h;rwa [RepRow.shut_id E.len b es ds off h] at this
end

def Bind.owns:Bind→Nat→Nat→Prop
 | .var b0 o n x,b,off=>b=b0∧0<n+x
 | .tok (some (b0,e,lim)) _,b,off=>b=b0∧e≤off∧off<lim
 | .obj l,b,_=>b=l
 | _,_,_=>False

def StOk:RSt→Loop→Prop
 | .ready,r=>r.state=.ready∧r.pending=none
 | .busy,r=>r.state=.busy
 | .ret,r=>r.state=.done∧r.pending=some .ret
 | .exit id,r=>r.state=.done∧r.pending=some (.exit id)

def kcV:KC→Value
 | .int k n=>.int k n
 | .str s=>.string ⟨s.toArray⟩
 | .bool b=>.bool b
def keyV:Key→Value
 | .c x=>kcV x
 | .a xs=>.agg (xs.map kcV).toArray
def MapOk (g:Gh) (w:World) (kt:KT) (ks:List Key) (vs:List D) (bs:List Nat) (es:List MapEntry):Prop :=
 es.map (·.key)=ks.map keyV∧RepL g w vs (es.map (·.val))∧es.map (·.born)=bs∧∀ k ∈ ks,k.kt=kt
def SlotOk (g:Gh) (w:World):Bind→Slot→Prop
 | .var b o n x,.cells cs=>(n=cs.length∧(0<n+x→b<w.heap.size∧∀ off,w.frozen? ⟨b,off,none⟩=false)∧∀ j,n≤j→j<n+x→(∃ v,w.cell? ⟨b,o+j,none⟩=some v)∧w.frozen? ⟨b,o+j,none⟩=false)∧∀ j d,cs[j]?=some d→∃ v,w.cell? ⟨b,o+j,none⟩=some v∧w.frozen? ⟨b,o+j,none⟩=false∧v.oneCell'=true∧Rep g w d v
 | .tok r n,.tok m=>n=m∧∀ b e lim,r=some (b,e,lim)→∀ j,e≤j→j<lim→(∃ v,w.cell? ⟨b,j,none⟩=some v)∧w.frozen? ⟨b,j,none⟩=false
 | .none,.dead=>True
 | .wait,.cells cs=>∀ n,D.shutL n cs=cs
 | .obj l,.dfb=>w.heap[l]?=some (.deferred (some []))
 | .obj l,.loop f t rf st=>∃ r:Loop,w.heap[l]?=some (.loop r)∧r.fn=f∧RepL g w t r.tmps.toList∧(∃ g0,rf=.rangeFunc g0 r.params r.assign r.body)∧StOk st r
 | .obj l,.map kt ks vs bs c=>∃ es:Array MapEntry,w.heap[l]?=some (.map es c)∧MapOk g w kt ks vs bs es.toList
 | _,_=>False

structure Inv (g:Gh) (A:St) (w:World):Prop where
 len:g.len=A.length
 base:g.base≤w.heap.size
 slot:∀ (k:Nat) s,A[k]?=some s→SlotOk g w (g.m k) s
 sep:∀ k k' b off,k<g.len→k'<g.len→(g.m k).owns b off→(g.m k').owns b off→k=k'
 own:∀ k b off,k<g.len→(g.m k).owns b off→¬ g.stab b off
 old:∀ b off,g.S b off→b<w.heap.size

theorem RepL.length {g:Gh} {w:World}:∀ {ds:List D} {vs:List Value},RepL g w ds vs→ds.length=vs.length
 | [],vs,h=>by simp only [RepL] at h;subst h;rfl
 | d::ds,vs,h=>by
  simp only [RepL] at h
  obtain ⟨v,r,rfl,_,h2⟩:=h
  simp [RepL.length h2]
theorem RepL.get {g:Gh} {w:World}:∀ {ds:List D} {vs:List Value},RepL g w ds vs→∀ {i:Nat} {d:D},ds[i]?=some d→∃ v,vs[i]?=some v∧Rep g w d v
 | [],vs,h,i,d,hi=>by simp at hi
 | d0::ds,vs,h,i,d,hi=>by
  simp only [RepL] at h
  obtain ⟨v,r,rfl,h1,h2⟩:=h
  cases i with
  | zero=>simp at hi;subst hi;exact ⟨v,rfl,h1⟩
  | succ i=>simpa using RepL.get h2 (i:=i) (by simpa using hi)
theorem RepL.of_get {g:Gh} {w:World}:∀ {ds:List D} {vs:List Value},ds.length=vs.length→(∀ (i:Nat) d v,ds[i]?=some d→vs[i]?=some v→Rep g w d v)→RepL g w ds vs
 | [],[],_,_=>by simp [RepL]
 | [],_::_,h,_=>by simp at h
 | _::_,[],h,_=>by simp at h
 | d::ds,v::vs,h,H=>by
  simp only [RepL]
  exact ⟨v,vs,rfl,H 0 d v rfl rfl,RepL.of_get (by simpa using h) fun i d v h1 h2=>H (i+1) d v (by simpa using h1) (by simpa using h2)⟩
theorem RepL.append {g:Gh} {w:World}:∀ {ds:List D} {vs:List Value} {es:List D} {us:List Value},RepL g w ds vs→RepL g w es us→RepL g w (ds++es) (vs++us)
 | [],vs,es,us,h,k=>by simp only [RepL] at h;subst h;simpa using k
 | d::ds,vs,es,us,h,k=>by
  simp only [RepL] at h
  obtain ⟨v,r,rfl,h1,h2⟩:=h
  simp only [List.cons_append,RepL]
  exact ⟨v,r++us,rfl,h1,h2.append k⟩
theorem RepL.set {g:Gh} {w:World} {ds:List D} {vs:List Value} (h:RepL g w ds vs) {d:D} {v:Value} (hv:Rep g w d v) (i:Nat):RepL g w (ds.set i d) (vs.set i v):=by
 refine RepL.of_get (by simp [h.length]) fun j d' v' h1 h2=>?_
 rw [List.getElem?_set] at h1 h2
 split at h1
 ·rename_i e
  subst e
  rw [if_pos rfl] at h2
  split at h1
  ·rw [if_pos (by rw [← h.length];assumption)] at h2
   cases h1;cases h2;exact hv
  ·cases h1
 ·rename_i e
  rw [if_neg e] at h2
  obtain ⟨u,hu,hr⟩:=h.get h1
  rw [hu] at h2;cases h2;exact hr
theorem RepL.take {g:Gh} {w:World} {ds:List D} {vs:List Value} (h:RepL g w ds vs) (n:Nat):RepL g w (ds.take n) (vs.take n):=by
 refine RepL.of_get (by simp [h.length]) fun j d' v' h1 h2=>?_
 rw [List.getElem?_take] at h1 h2
 split at h1
 ·rename_i e
  rw [if_pos e] at h2
  obtain ⟨u,hu,hr⟩:=h.get h1
  rw [hu] at h2;cases h2;exact hr
 ·cases h1
theorem RepL.drop {g:Gh} {w:World} {ds:List D} {vs:List Value} (h:RepL g w ds vs) (n:Nat):RepL g w (ds.drop n) (vs.drop n):=by
 refine RepL.of_get (by simp [h.length]) fun j d' v' h1 h2=>?_
 rw [List.getElem?_drop] at h1 h2
 obtain ⟨u,hu,hr⟩:=h.get h1
 rw [hu] at h2;cases h2;exact hr
theorem RepL.map {g:Gh} {w:World} {α:Type} (f:α→D) (k:α→Value):∀ (l:List α),(∀ x ∈ l,Rep g w (f x) (k x))→RepL g w (l.map f) (l.map k)
 | [],_=>by simp [RepL]
 | x::l,h=>by
  simp only [List.map_cons,RepL]
  exact ⟨_,_,rfl,h x (by simp),RepL.map f k l fun y hy=>h y (by simp [hy])⟩

theorem RepAt.get {g:Gh} {w:World} {b:Nat}:∀ {ds:List D} {off:Nat},RepAt g w b ds off→∀ {i:Nat} {d:D},ds[i]?=some d →
  ∃ v,g.stab b (off+i)∧w.cell? ⟨b,off+i,none⟩=some v∧Rep g w d v
 | [],off,h,i,d,hi=>by simp at hi
 | d0::ds,off,h,i,d,hi=>by
  simp only [RepAt] at h
  obtain ⟨⟨v,h1,h2,h3⟩,h4⟩:=h
  cases i with
  | zero=>simp at hi;subst hi;exact ⟨v,h1,h2,h3⟩
  | succ i =>
   obtain ⟨u,k1,k2,k3⟩:=RepAt.get h4 (i:=i) (by simpa using hi)
   have e:off+1+i=off+(i+1):=by omega
   rw [e] at k1 k2
   exact ⟨u,k1,k2,k3⟩
theorem RepAt.of_get {g:Gh} {w:World} {b:Nat}:∀ {ds:List D} {off:Nat},(∀ (i:Nat) d,ds[i]?=some d →
  ∃ v,g.stab b (off+i)∧w.cell? ⟨b,off+i,none⟩=some v∧Rep g w d v)→RepAt g w b ds off
 | [],off,h=>by simp [RepAt]
 | d::ds,off,h=>by
  simp only [RepAt]
  refine ⟨by simpa using h 0 d rfl,RepAt.of_get fun i d' hi=>?_⟩
  have e:off+1+i=off+(i+1):=by omega
  rw [e]
  exact h (i+1) d' (by simpa using hi)
theorem RepAt.drop {g:Gh} {w:World} {b:Nat} {ds:List D} {off:Nat} (h:RepAt g w b ds off) (n:Nat):RepAt g w b (ds.drop n) (off+n) :=
 RepAt.of_get fun i d hi=>by
  rw [List.getElem?_drop] at hi
  have:=h.get hi
  rwa [Nat.add_assoc]
theorem RepRow.get {g:Gh} {w:World} {b es:Nat}:∀ {ds:List D} {off:Nat},RepRow g w b es ds off→∀ {i:Nat} {d:D},ds[i]?=some d →
  ∃ v,Rep g w d v∧VC es v∧∀ j,j<es→g.stab b (off+i * es+j)∧w.cell? ⟨b,off+i * es+j,none⟩=v.cells[j]?
 | [],off,h,i,d,hi=>by simp at hi
 | d0::ds,off,h,i,d,hi=>by
  simp only [RepRow] at h
  obtain ⟨h1,h4⟩:=h
  cases i with
  | zero=>simp at hi;subst hi;simpa using h1
  | succ i =>
   have:=RepRow.get h4 (i:=i) (by simpa using hi)
   have e:off+es+i * es=off+(i+1) * es:=by rw [Nat.add_mul];omega
   rwa [e] at this
theorem RepRow.of_get {g:Gh} {w:World} {b es:Nat}:∀ {ds:List D} {off:Nat},(∀ (i:Nat) d,ds[i]?=some d →
  ∃ v,Rep g w d v∧VC es v∧∀ j,j<es→g.stab b (off+i * es+j)∧w.cell? ⟨b,off+i * es+j,none⟩=v.cells[j]?)→RepRow g w b es ds off
 | [],off,h=>by simp [RepRow]
 | d::ds,off,h=>by
  simp only [RepRow]
  refine ⟨by simpa using h 0 d rfl,RepRow.of_get fun i d' hi=>?_⟩
  have e:off+es+i * es=off+(i+1) * es:=by rw [Nat.add_mul];omega
  rw [e]
  exact h (i+1) d' (by simpa using hi)

theorem rep_ofCell (g:Gh) (w:World) (v:Value):Rep g w (ofCell v) v:=by
 unfold ofCell
 split<;>try simp [Rep,isAtom]
 ·simp [OwnOk]
 ·rename_i f first cap
  by_cases h:(first.isEmpty && cap.isEmpty)=true
  ·simp at h
   obtain ⟨rfl,rfl⟩:=h
   simp [Rep,RepL]
  ·simp only [Array.isEmpty_iff,Bool.and_eq_true] at h
   rw [if_neg (by simpa using h)]
   simp [Rep]
theorem rep_ofConst (g:Gh) (w:World) (v:Value):Rep g w (ofConst v) v:=by
 unfold ofConst
 split
 ·rename_i cs
  simp only [Rep]
  refine ⟨cs,rfl, ?_⟩
  have:=RepL.map (g:=g) (w:=w) ofCell id cs.toList fun x _=>rep_ofCell g w x
  simpa using this
 ·rename_i vs
  split
  ·rename_i h
   simp at h
   subst h
   simp [Rep,RepL]
  ·simp [Rep]
 ·exact rep_ofCell g w v
theorem rep_undef (g:Gh) (w:World):Rep g w undefD undef:=by simp [undefD,undef,Rep,RepL]
theorem rep_eval {g:Gh} {w:World} {e:List D} {a:Act} (h:RepL g w e a.tmps.toList) (x:Operand):Rep g w (evalO e x) (a.eval x):=by
 cases x with
 | tmp t =>
  simp only [evalO,Act.eval]
  cases ht:e[t]? with
  | some d =>
   obtain ⟨v,hv,hr⟩:=h.get ht
   have:a.tmps[t]?=some v:=by simpa using hv
   simpa [List.getD,ht,Array.getD_eq_getD_getElem?,this] using hr
  | none =>
   have hl:a.tmps.toList.length≤t:=by rw [← h.length];simpa using ht
   have:a.tmps[t]?=none:=by simp at hl;simp [hl]
   simp [List.getD,ht,Array.getD_eq_getD_getElem?,this]
   exact rep_undef g w
 | const v=>exact rep_ofConst g w v
 | global n=>simp [evalO,Rep]
 | func f=>simp [evalO,Act.eval,Rep,RepL]

theorem cell?_eq {d x:D} (h:d.cell?=some x):x=d:=by cases d<;>simp_all [D.cell?]
theorem cell?_rep {g:Gh} {w:World} {d x:D} {v:Value} (h:d.cell?=some x) (hr:Rep g w d v):v.cells=#[v]∧v.oneCell'=true:=by
 cases d<;>simp only [D.cell?,reduceCtorEq] at h<;>simp only [Rep] at hr
 case bool=>subst hr;exact ⟨rfl,rfl⟩
 case int=>subst hr;exact ⟨rfl,rfl⟩
 case str=>obtain ⟨x,rfl,_⟩:=hr;exact ⟨rfl,rfl⟩
 case val u =>
  obtain ⟨rfl,ha⟩:=hr
  cases v<;>simp [isAtom] at ha<;>exact ⟨rfl,rfl⟩
 case sl=>obtain ⟨a,c,rfl,_⟩:=hr;exact ⟨rfl,rfl⟩
 case vsl=>obtain ⟨_,a,c,rfl,_⟩:=hr;exact ⟨rfl,rfl⟩
 case ref=>obtain ⟨_,a,rfl,_⟩:=hr;exact ⟨rfl,rfl⟩
 case peek=>obtain ⟨b,o,rfl,_⟩:=hr;exact ⟨rfl,rfl⟩
 case fn=>obtain ⟨a,c,rfl,_⟩:=hr;exact ⟨rfl,rfl⟩
 case iface=>obtain ⟨u,rfl,_⟩:=hr;exact ⟨rfl,rfl⟩
 case yld=>obtain ⟨_,_,u,rfl,_⟩:=hr;exact ⟨rfl,rfl⟩
 case mp=>obtain ⟨_,u,rfl,_⟩:=hr;exact ⟨rfl,rfl⟩
theorem oneCell_of {g:Gh} {w:World} {cs:List D} {vs:List Value} (h:allCells cs=true) (hr:RepL g w cs vs):∀ v ∈ vs,v.oneCell'=true:=by
 intro v hv
 obtain ⟨i,hi⟩:=List.getElem?_of_mem hv
 have hlt:i<cs.length:=by rw [hr.length];exact (List.getElem?_eq_some_iff.1 hi).1
 obtain ⟨u,hu,hur⟩:=hr.get (List.getElem?_eq_getElem hlt)
 rw [hi] at hu
 cases hu
 have:=List.all_eq_true.1 h cs[i] (List.getElem_mem hlt)
 obtain ⟨x,hx⟩:=Option.isSome_iff_exists.1 this
 exact (cell?_rep hx hur).2
theorem cellsT_rep' {g:Gh} {w:World} {ag:Bool} {d:D} {cs:List D} {v:Value} (h:d.cellsT ag=some cs) (hr:Rep g w d v):RepL g w cs v.cells.toList∧allCells cs=true:=by
 unfold D.cellsT at h
 cases ag with
 | true =>
  simp only [cond_true,Option.bind_eq_some_iff] at h
  obtain ⟨cs',h1,h⟩:=h
  split at h
  ·rename_i ha
   cases h
   cases d<;>simp only [D.agg?,reduceCtorEq,Option.some.injEq] at h1
   subst h1
   simp only [Rep] at hr
   obtain ⟨vs,rfl,hr⟩:=hr
   exact ⟨hr,ha⟩
  ·cases h
 | false =>
  simp only [cond_false,Option.map_eq_some_iff] at h
  obtain ⟨x,hx,rfl⟩:=h
  obtain ⟨h1,_⟩:=cell?_rep hx hr
  have:=cell?_eq hx
  subst this
  rw [h1]
  simp only [RepL]
  exact ⟨⟨v,[],rfl,hr,rfl⟩,by simp [allCells,hx]⟩
theorem cellsT_rep {g:Gh} {w:World} {ag:Bool} {d:D} {cs:List D} {v:Value} (h:d.cellsT ag=some cs) (hr:Rep g w d v):RepL g w cs v.cells.toList:=(cellsT_rep' h hr).1
end Go.Vm
