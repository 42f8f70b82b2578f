/- part of the proof -/
import Derived.Test.YtpbmbjjfdpkhbaaGreatZq1
import Derived.Test.YtpbmbjjfdpkhbaaGreatProg
import Derived.BigQuiet
import Derived.Test.YtpbmbjjfdpkhbaaGreatZq5
import Derived.Deep.QuietTactic
import Derived.WalkSmall
import Derived.Test.YtpbmbjjfdpkhbaaGreatZq4
import Derived.Deep.RegionHeld3
import Derived.Test.YtpbmbjjfdpkhbaaGreatZq2
namespace Go.Proofs.YtpbmbjjfdpkhbaaGreat
open Go Go.RowKit
set_option linter.all false
set_option maxRecDepth 100000
set_option maxHeartbeats 32000000
open Go.Proofs.Tryz
open And renaming intro->Lr
open Below renaming refl->Lg
open Bool renaming and_eq_true->LZ
open Go renaming bodyPost_ret->Li
open Go.Calls renaming quiet_of_same->Mh
open Go.IntWalk renaming i64_in->Lh,wrap64_in->MF
open Go.Lib renaming hid->Lc
open Go.Value renaming int->MU
open Int renaming natCast_ediv->Nl,natCast_mul->M5,toNat_natCast->MR,toNat_of_nonneg->Mq
open List renaming getD_eq_getElem?_getD->LJ,getElem?_eq_getElem->Lu,getElem_mem->LP,range->L8
open Nat renaming add_mul->M7,div_le_self->Nu,le_refl->Lf,le_trans->Lt,log2->Md,mul_le_mul->M0,mul_le_mul_left->MW,mul_le_mul_right->Mg,one_mul->MO,pow_le_pow_right->LQ,two_pow_pos->M6,zero_le->LC
instance:Inhabited Pr:=⟨⟨0,0⟩⟩
deriving instance DecidableEq for Pr
def keys (l:List Pr):List Int:=l.map Pr.key
def Ris (l:List Pr):Prop:=rises (keys l)=true
instance (l:List Pr):Decidable (Ris l):=by unfold Ris;infer_instance
def bel (l:List Pr) (k:Int):Nat:=l.countP (fun p=>decide (p.key< k))
def KP (l:List Pr) (k:Int):Nat:=l.countP (fun p=>decide (p.key<=k))
def has (l:List Pr) (k:Int):Bool:=decide (bel l k< KP l k)
theorem vP (l:List Pr):Ris l↔l.Pairwise (fun a b=>a.key< b.key):=by
 unfold Ris rises keys
 rw[decide_eq_true_iff,List.pairwise_map]
theorem Ris.get {l:List Pr} (h:Ris l) {i j:Nat} (hij:i< j) (hj:j< l.length):(l[i]'(by omega)).key< (l[j]'hj).key:=by
 rw[vP]at h
 exact(List.pairwise_iff_getElem.1 h) i j (by omega) hj hij
theorem mU (l:List Pr) (k:Int):bel l k<=l.length:=List.countP_le_length
theorem JS (l:List Pr) (k:Int):KP l k<=l.length:=List.countP_le_length
theorem lD (p:Pr->Bool):∀(l:List Pr),(∀i j (hi:i< j) (hj:j< l.length),p (l[j]'hj)=true->p (l[i]'(by omega))=true)->∀i (hi:i< l.length),p (l[i]'hi)=true↔i< l.countP p
 |[],_,i,hi=>by simp at hi
 |a::l,h,i,hi=>by
  have hl:∀i j (hi:i< j) (hj:j< l.length),p (l[j]'hj)=true->p (l[i]'(by omega))=true:=fun i j hij hj=>by
   have:=h (i+1) (j+1) (by omega) (by simpa using hj)
   simpa using this
  by_cases ha:p a=true
  ·rw[List.countP_cons_of_pos ha]
   cases i with
   |zero=>simp[ha]
   |succ i=>simpa using lD p l hl i (by simpa using hi)
  ·have h0:∀x∈a::l,¬p x=true:=by
    intro x hx hp
    obtain⟨j,hj,rfl⟩:=List.getElem_of_mem hx
    cases j with
    |zero=>exact ha (by simpa using hp)
    |succ j=>exact ha (by simpa using h 0 (j+1) (by omega) hj hp)
   rw[List.countP_eq_zero.2 h0]
   constructor
   ·intro hp;exact absurd hp (h0 _ (LP hi))
   ·omega
theorem vR {l:List Pr} (h:Ris l) (k:Int) (i:Nat) (hi:i< l.length):(l[i]'hi).key< k↔i< bel l k:=by
 have:=lD (fun p=>decide (p.key< k)) l (fun i j hij hj hp=>by have:=h.get hij hj;simp at hp ⊢;omega) i hi
 simpa[bel]using this
theorem Cb {l:List Pr} (h:Ris l) (k:Int) (i:Nat) (hi:i< l.length):(l[i]'hi).key<=k↔i< KP l k:=by
 have:=lD (fun p=>decide (p.key<=k)) l (fun i j hij hj hp=>by have:=h.get hij hj;simp at hp ⊢;omega) i hi
 simpa[KP]using this
theorem CW {l:List Pr} (h:Ris l) (k:Int):has l k=true↔∃hb:bel l k< l.length,(l[bel l k]'hb).key=k:=by
 unfold has
 rw[decide_eq_true_iff]
 constructor
 ·intro hlt
  have hu:=JS l k
  refine⟨by omega,?_⟩
  have a:=(Cb h k (bel l k) (by omega)).2 hlt
  have b:=mt (vR h k (bel l k) (by omega)).1 (by omega)
  omega
 ·rintro⟨hb,he⟩
  exact(Cb h k (bel l k) hb).1 (by omega)
structure Answ where
 pair:Pr
 n:Int
 pairs:List Pr
def kW (most:Int) (l:List Pr):Int:=if most< 1∨16384< most then 2 else if most< l.length∨¬Ris l then 8 else 0
theorem nO (A:Option Addr) (l:List Pr) (c:Nat) (w:World) (hA:Sl w A (l.flatMap Pr.cells)) (hl:l.length<=4611686018427387903):
  Calls prog 82 #[.slice A l.length c] w fun r w'=>r= .returned (.bool (decide (Ris l)))/\Below w.heap.size w w':=by
 go_enter func82,ntmps82
 go_wp2
 go_loopw [3] (fun i wr=>∃k:Nat,1<=k/\i= .int .i64 k/\Below w.heap.size w wr/\Hid (RiseTo (l.map Pr.key) k)) (fun i _=>l.length-(intOf i).toNat)
 case atStart=>exact⟨1,Lf _,rfl,Lg _ _,RiseTo.start _⟩
 case round=>
  obtain⟨k,hk,rfl,hb,hn⟩:=hrel
  by_cases hlt:k< l.length
  ·obtain⟨b,off,rfl,hbl,c1,c2⟩:=(hA.below hb).pr k hlt
   obtain⟨b',off',e,_,d1,d2⟩:=(hA.below hb).pr (k-1) (by omega)
   simp only[Option.some.injEq,Addr.mk.injEq]at e
   obtain⟨rfl,rfl,_⟩:=e
   have i0:(0:Int)<=(k:Int):=by omega
   have i1:(k:Int)< (l.length:Int):=by omega
   have i2:(0:Int)<=(k:Int)-1:=by omega
   have i3:(k:Int)-1< (l.length:Int):=by omega
   clear c2 d2 hA
   go_wp2
   go_quiet (fail)
   go_wp2
   ·have hx:(l[k]'hlt).key<=(l[k-1]'(by omega)).key:=by assumption
    go_ret
    exact⟨aJ (decide_eq_false (fun h=>absurd (h.symm.trans (RiseTo.no (ks:=keys l) hk (by simpa[keys]using hlt) (by simpa[keys]using hx))) (by simp))).symm,av hb _⟩
   ·have hx:(l[k-1]'(by omega)).key< (l[k]'hlt).key:=by assumption
    go_roundw
    case rel=>exact⟨k+1,by omega,by go_num,av hb _,hn.out.step hk (by simpa using hlt) (by simpa using hx)⟩
    case measure=>simp[intOf];omega
  ·go_wp2
   go_ret
   exact⟨aJ (decide_eq_true (show Ris l from hn.out.all (by simp;omega))).symm,hb⟩
theorem wG (A:Option Addr) (l:List Pr) (c:Nat) (w:World) (hA:Sl w A (l.flatMap Pr.cells)) (hl:l.length<=4611686018427387903):
  Calls prog 132 #[.slice A l.length c] w fun r w'=>r= .returned (.bool (decide (Ris l)))/\Below w.heap.size w w':=by
 go_enter func132,ntmps132
 go_wp2
 go_loopw [3] (fun i wr=>∃k:Nat,1<=k/\i= .int .i64 k/\Below w.heap.size w wr/\Hid (RiseTo (l.map Pr.key) k)) (fun i _=>l.length-(intOf i).toNat)
 case atStart=>exact⟨1,Lf _,rfl,Lg _ _,RiseTo.start _⟩
 case round=>
  obtain⟨k,hk,rfl,hb,hn⟩:=hrel
  by_cases hlt:k< l.length
  ·obtain⟨b,off,rfl,hbl,c1,c2⟩:=(hA.below hb).pr k hlt
   obtain⟨b',off',e,_,d1,d2⟩:=(hA.below hb).pr (k-1) (by omega)
   simp only[Option.some.injEq,Addr.mk.injEq]at e
   obtain⟨rfl,rfl,_⟩:=e
   have i0:(0:Int)<=(k:Int):=by omega
   have i1:(k:Int)< (l.length:Int):=by omega
   have i2:(0:Int)<=(k:Int)-1:=by omega
   have i3:(k:Int)-1< (l.length:Int):=by omega
   clear c2 d2 hA
   go_wp2
   go_quiet (fail)
   go_wp2
   ·have hx:(l[k]'hlt).key<=(l[k-1]'(by omega)).key:=by assumption
    go_ret
    exact⟨aJ (decide_eq_false (fun h=>absurd (h.symm.trans (RiseTo.no (ks:=keys l) hk (by simpa[keys]using hlt) (by simpa[keys]using hx))) (by simp))).symm,av hb _⟩
   ·have hx:(l[k-1]'(by omega)).key< (l[k]'hlt).key:=by assumption
    go_roundw
    case rel=>exact⟨k+1,by omega,by go_num,av hb _,hn.out.step hk (by simpa using hlt) (by simpa using hx)⟩
    case measure=>simp[intOf];omega
  ·go_wp2
   go_ret
   exact⟨aJ (decide_eq_true (show Ris l from hn.out.all (by simp;omega))).symm,hb⟩
theorem zi (most:Int) (A:Option Addr) (l:List Pr) (c:Nat) (w:World) (hA:Sl w A (l.flatMap Pr.cells)) (hl:l.length<=4611686018427387903):
  Calls prog 68 #[.int .i64 most,.slice A l.length c] w fun r w'=>r= .returned (.int .i64 (kW most l))/\Below w.heap.size w w':=by
 have hb0:=Lg w.heap.size w
 go_enter func68,ntmps68
 by_cases h1:most< 1
 ·go_wp2
  go_ret
  exact⟨aH (by unfold kW;rw[if_pos (.inl h1)]),hb0⟩
 ·by_cases h2:16384< most
  ·go_wp2
   go_ret
   exact⟨aH (by unfold kW;rw[if_pos (.inr h2)]),hb0⟩
  ·by_cases h3:most< (l.length:Int)
   ·go_wp2
    go_ret
    exact⟨aH (by unfold kW;rw[if_neg (by omega),if_pos (.inl h3)]),hb0⟩
   ·by_cases h4:Ris l
    ·have e4:decide (Ris l)=true:=decide_eq_true h4
     go_wp2_with (go_at_call 82;refine(nO A l c _ hA hl).mono ?_;rw[e4];rintro e w1 ⟨rfl,hb1⟩)
     go_ret
     exact⟨aH (by unfold kW;rw[if_neg (by omega),if_neg (by simp[h4];omega)]),hb1⟩
    ·have e4:decide (Ris l)=false:=decide_eq_false h4
     go_wp2_with (go_at_call 82;refine(nO A l c _ hA hl).mono ?_;rw[e4];rintro e w1 ⟨rfl,hb1⟩)
     go_ret
     exact⟨aH (by unfold kW;rw[if_neg (by omega),if_pos (.inr h4)]),hb1⟩
def vY (p:Pr) (k:Int):Int:=if p.key< k then-1 else if k< p.key then 1 else 0
theorem xJ (p:Pr) (k:Int) (w:World):
  Calls prog 99 #[.agg #[.int .i64 p.key,.int .i64 p.val],.int .i64 k] w fun r w'=>r= .returned (.int .i64 (vY p k))/\Below w.heap.size w w':=by
 have hb0:Below w.heap.size w (w.alloc (.cells #[.int .i64 p.key,.int .i64 p.val] 55)):=(Lg _ _).alloc (Lf _) _
 have hx0:Blk (w.alloc (.cells #[.int .i64 p.key,.int .i64 p.val] 55)) w.heap.size 55 #[.int .i64 p.key,.int .i64 p.val]:=Blk.new _ _ _
 have c0:(w.alloc (.cells #[.int .i64 p.key,.int .i64 p.val] 55)).cell? ⟨w.heap.size,0,none⟩=some (.int .i64 p.key):=hx0.cell 0
 go_enter func99,ntmps99
 by_cases h1:p.key< k
 ·go_wp2
  go_ret
  exact⟨aH (by unfold vY;rw[if_pos h1]),hb0⟩
 ·by_cases h2:k< p.key
  ·go_wp2
   go_ret
   exact⟨aH (by unfold vY;rw[if_neg (by omega),if_pos h2]),hb0⟩
  ·go_wp2
   go_ret
   exact⟨aH (by unfold vY;rw[if_neg (by omega),if_neg (by omega)]),hb0⟩
theorem GN {p:Pr} {k:Int}:vY p k< 0↔p.key< k:=by unfold vY;split <;> (try split) <;> omega
theorem EP {p:Pr} {k:Int}:vY p k=0↔p.key=k:=by unfold vY;split <;> (try split) <;> omega
theorem zK (A:Option Addr) (l:List Pr) (c:Nat) (key:Int) (w:World) (hA:Sl w A (l.flatMap Pr.cells)) (hl:l.length<=4611686018427387903) (hr:Hid (Ris l)):
  Calls prog 98 #[.slice A l.length c,.int .i64 key,.func (.func 99) #[] #[]] w fun r w'=>
   r= .returned (.tuple #[.int .i64 (bel l key),.bool (has l key)])/\Below w.heap.size w w':=by
 go_enter func98,ntmps98
 go_wp2
 go_loopw [9,10] (fun i j wr=>∃lo hi:Nat,i= .int .i64 lo/\j= .int .i64 hi/\lo<=hi/\hi<=l.length/\Below w.heap.size w wr/\lo<=bel l key/\bel l key<=hi) (fun i j _=>(intOf j).toNat-(intOf i).toNat)
 case atStart=>exact⟨0,l.length,rfl,rfl,LC _,Lf _,Lg _ _,LC _,mU l key⟩
 case round=>
  obtain⟨lo,hi,rfl,rfl,hlh,hin,hb,h1,h2⟩:=hrel
  by_cases hlt:lo< hi
  ·obtain⟨b,off,rfl,hbl,c1,c2⟩:=hA.prB hb ((lo+hi)/2) (by omega)
   have hm:(lo+hi)/2< l.length:=by omega
   obtain⟨p,hp⟩:∃p,l[(lo+hi)/2]'hm=p:=⟨_,rfl⟩
   rw[hp]at c1 c2
   have hk:=vR hr.out key ((lo+hi)/2) hm
   rw[hp]at hk
   have hc:=Lc (xJ p key)
   have hneg:=GN (p:=p) (k:=key)
   clear hp hA
   by_cases hx:p.key< key
   ·have hx2:=hneg.2 hx
    have hk2:=hk.1 hx
    clear hk hneg hx
    go_wp2_with (go_at_call 99;refine(hc.out _).mono ?_;rintro e w1 ⟨rfl,hb1⟩)
    go_roundw
    case rel=>exact⟨(lo+hi)/2+1,hi,by rw[show((lo:Int)+(hi:Int))/2+1=(((lo+hi)/2+1:Nat):Int)by omega],rfl,by omega,hin,aa hb hb1,by omega,h2⟩
    case measure=>simp[intOf];omega
   ·have hx2:=mt hneg.1 hx
    have hk2:=mt hk.2 hx
    clear hk hneg hx
    go_wp2_with (go_at_call 99;refine(hc.out _).mono ?_;rintro e w1 ⟨rfl,hb1⟩)
    go_roundw
    case rel=>exact⟨lo,(lo+hi)/2,rfl,by rw[show((lo:Int)+(hi:Int))/2=(((lo+hi)/2:Nat):Int)by omega],by omega,by omega,aa hb hb1,h1,by omega⟩
    case measure=>simp[intOf];omega
  ·have hlo:=Lc (show lo=bel l key by omega)
   by_cases hn:lo< l.length
   ·obtain⟨b,off,rfl,hbl,c1,c2⟩:=hA.prB hb lo hn
    obtain⟨p,hp⟩:∃p,l[lo]'hn=p:=⟨_,rfl⟩
    rw[hp]at c1 c2
    have hc:=Lc (xJ p key)
    have hz:=EP (p:=p) (k:=key)
    have hh:Hid (has l key=decide (vY p key=0)):=Lc (by
     rw[Bool.eq_iff_iff,decide_eq_true_iff,CW hr.out,hz,<-hp]
     have e:=hlo.out
     subst e
     exact⟨fun⟨_,h⟩=>h,fun h=>⟨hn,h⟩⟩)
    clear hp hA hz
    go_wp2_with (go_at_call 99;refine(hc.out _).mono ?_;rintro e w1 ⟨rfl,hb1⟩)
    go_ret2
    refine⟨?_,aa hb hb1⟩
    rw[hh.out,hlo.out];rfl
   ·have hh:Hid (has l key=false):=Lc (by
     rw[Bool.eq_false_iff,Ne,CW hr.out]
     rintro⟨h,_⟩
     omega)
    go_wp2
    go_ret2
    refine⟨?_,hb⟩
    rw[hh.out,hlo.out];rfl
theorem GV (A:Option Addr) (l:List Pr) (c:Nat) (key:Int) (w:World) (hA:Sl w A (l.flatMap Pr.cells)) (hl:l.length<=4611686018427387903) (hr:Hid (Ris l)):
  Calls prog 84 #[.slice A l.length c,.int .i64 key] w fun r w'=>r= .returned (.tuple #[.int .i64 (bel l key),.bool (has l key)])/\Below w.heap.size w w':=by
 go_enter func84,ntmps84
 go_wp2_with (go_at_call 98;refine(zK A l c key _ hA hl hr).mono ?_;rintro e w1 ⟨rfl,hb1⟩)
 go_ret2
 exact⟨rfl,hb1⟩
theorem dJ {s:Ss} (h:bB s=true):s.vs.length=s.ks.length/\s.ks.length<=64*s.ws.length/\eF s.seg s.ks.length=true/\s.cs.length=s.ks.length/s.seg.toNat:=by
 unfold bB mg at h
 simp only[LZ,decide_eq_true_eq]at h
 obtain⟨⟨⟨⟨⟨h1,h2⟩,h3⟩,h4⟩,_⟩,_⟩:=h
 refine⟨h2,?_,h1,h4⟩
 unfold fU at h3
 by_cases h5:s.ws.length=(s.ks.length+63)/64/\(s.ks.length %64=0∨s.ws.getD (s.ws.length-1) 0/2 ^ (s.ks.length %64)=0)
 ·have:=h5.1;omega
 ·rw[if_neg h5]at h3;cases h3
def bu (s:Ss):List Pr:=mh s 0 s.ks.length
theorem lH (s:Ss):(bu s).length<=s.ks.length:=by unfold bu;rw[qN,dQ];exact eT _ _ _
def mf (s:Ss):Int:=if bB s=true then(if Ris (bu s)then 0 else 130)else 8
theorem xE (s:Ss) (w:World) (hs:SsAt w s) (ho:SsOk s):Calls prog 113 #[.agg s.row] w fun r w'=>r= .returned (.int .i64 (mf s))/\Below w.heap.size w w':=by
 obtain⟨R,hR⟩:∃R,mf s=R:=⟨_,rfl⟩
 rw[hR]
 unfold mf at hR
 have q1:=fun W (h:SsAt W s)=>uX s W h ho
 have q2:=fun(hm:bB s=true) W (h:SsAt W s)=>qW s 0 s.ks.length W h ho (dJ hm).1 (by omega) (by have:=(dJ hm).2.1;omega)
 rw[Nat.zero_add]at q2
 have hlen:(bu s).length<=300:=Lt (lH s) ho.kl
 obtain⟨E,hE⟩:∃E,bB s=E:=⟨_,rfl⟩
 change ∀hm W,SsAt W s->Calls _ _ _ W (dV (bu s) W)at q2
 obtain⟨L,hL⟩:∃L,bu s=L:=⟨_,rfl⟩
 obtain⟨D,hD⟩:∃D,decide (Ris L)=D:=⟨_,rfl⟩
 have q3:=fun A c W (h:Sl W A (L.flatMap Pr.cells))=>wG A L c W h (by rw[<-hL];omega)
 rw[hL]at q2 hR
 rw[hE]at q1 q2 hR
 rw[hD]at q3
 have hD2:(if Ris L then(0:Int)else 130)=if D=true then 0 else 130:=by rw[<-hD];by_cases h:Ris L <;> simp[h]
 rw[hD2]at hR
 have HR:=Lc hR
 have Q1:=Lc q1
 have Q2:=Lc q2
 have Q3:=Lc q3
 have HS:=Lc hs
 clear hR q1 q2 q3 hE hL hD hD2 hlen hs ho
 go_enter func113,ntmps113
 have HF:=Lc (Lg w.heap.size w)
 have HY1:=Lc (HS.out)
 go_upto_region 1 with fail
 obtain⟨U2,h3⟩:∃U,w.alloc (.cells s.row 29)=U:=⟨_,rfl⟩
 have ba4:Below w.heap.size w U2:=by rw[<-h3];exact(Lg _ _).alloc (by first|(simp;done)|(simp;omega)) _
 have bn5:Blk U2 (w.heap.size) 29 s.row:=by
  rw[<-h3]
  have hq:=(Blk.new w 29 s.row)
  exact hq
 try rw[h3]
 have HF6:=Lc (aa HF.out ba4)
 have HY7:=Lc (SsAt.below HY1.out ba4)
 clear HF HY1
 obtain⟨g8,h9⟩:∃g,(w.heap.size)=g:=⟨_,rfl⟩
 rw[h9]at bn5
 try rw[h9]
 have HX10:=Lc bn5
 clear bn5 h9
 clear h3 ba4
 have c11:=HX10.out.cell
 have l17:g8< U2.heap.size:=HX10.out.lt
 go_wp2_with fail
 clear c11 l17
 refine(Q1.out _ HY7.out).mono ?_
 rintro e w18 ⟨rfl,hb19⟩
 have HF20:=Lc (aa HF6.out hb19)
 have HX21:=Lc (HX10.out.below hb19 HX10.out.lt)
 have HY22:=Lc (SsAt.below HY7.out hb19)
 clear HF6 HX10 HY7
 clear hb19
 cases E with
 |false=>
  obtain rfl:R=8:=by rw[<-HR.out];simp
  go_wp2_with fail
  go_ret
  exact⟨rfl,HF20.out⟩
 |true=>
 have c23:=HX21.out.cell
 have l29:g8< w18.heap.size:=HX21.out.lt
 go_wp2_with fail
 clear c23 l29
 refine(Q2.out (by first|rfl|trivial) _ HY22.out).mono ?_
 rintro e w30 ⟨A8,c8,rfl,ho8,hb31⟩
 have HP8:=Lc (aA ho8)
 clear ho8
 have HF32:=Lc (aa HF20.out hb31)
 have HX33:=Lc (HX21.out.below hb31 HX21.out.lt)
 have HY34:=Lc (SsAt.below HY22.out hb31)
 clear HF20 HX21 HY22
 clear hb31
 go_wp2_with fail
 refine(Q3.out A8 c8 _ HP8.out).mono ?_
 rintro e w35 ⟨rfl,hb36⟩
 have HF37:=Lc (aa HF32.out hb36)
 have HX38:=Lc (HX33.out.below hb36 HX33.out.lt)
 have HY39:=Lc (SsAt.below HY34.out hb36)
 clear HF32 HX33 HY34
 clear hb36
 cases D with
 |false=>
  obtain rfl:R=130:=by rw[<-HR.out];simp
  go_wp2_with fail
  go_ret
  exact⟨rfl,HF37.out⟩
 |true=>
 obtain rfl:R=0:=by rw[<-HR.out];simp
 go_wp2_with fail
 go_ret
 exact⟨rfl,HF37.out⟩
theorem Ee (w:World) (s:Ss):∃W,w.alloc (.cells s.row 29)=W/\Below w.heap.size w W/\Blk W w.heap.size 29 s.row:=⟨_,rfl,(Lg _ _).alloc (Lf _) _,Blk.new _ _ _⟩
theorem E5 {w:World} {g:Nat} {s:Ss} (h:Blk w g 29 s.row):g< w.heap.size/\w.cell? ⟨g,0,none⟩=some (.int .i64 s.seg)/\w.cell? ⟨g,1,none⟩=some (.slice s.wA s.ws.length s.wc)/\w.cell? ⟨g,2,none⟩=some (.slice s.kA s.ks.length s.kc)/\w.cell? ⟨g,3,none⟩=some (.slice s.vA s.vs.length s.vc)/\w.cell? ⟨g,4,none⟩=some (.slice s.cA s.cs.length s.cc)/\w.cell? ⟨g,5,none⟩=some (.int .u64 s.laid):=
 ⟨h.lt,h.cell 0,h.cell 1,h.cell 2,h.cell 3,h.cell 4,h.cell 5⟩
theorem JZ {p:Nat->Bool} {n k:Nat} (h:(L8 n).all p=true) (hk:k< n):p k=true:=by
 rw[List.all_eq_true]at h
 exact h k (List.mem_range.2 hk)
theorem yO {s:Ss} (h:bB s=true) {k:Nat} (hk:k< s.cs.length):s.cs[k]'hk=((aX s.ws (k*s.seg.toNat) s.seg.toNat:Nat):Int):=by
 unfold bB at h
 simp only[LZ]at h
 have h1:=JZ h.2 hk
 unfold countB at h1
 rw[decide_eq_true_eq,LJ,Lu hk]at h1
 exact h1
theorem xX (ws:List Nat) (a j G:Nat):aX ws (a*G) (j*G)+aX ws ((a+j)*G) G=aX ws (a*G) ((j+1)*G):=by
 rw[M7 j,MO,sQ,M7]
structure SegN (s:Ss) (G D:Nat):Prop where
 seg:s.seg=(G:Int)
 g4:4<=G
 g64:G<=64
 cl:s.cs.length=D
 kl:s.ks.length=G*D
 d0:0< D
theorem fC {s:Ss} (h:bB s=true):SegN s s.seg.toNat s.cs.length:=by
 have hf:=dJ h
 have h2:=tV hf.2.2.1
 refine⟨by omega,by omega,by omega,rfl,by rw[hf.2.2.2];exact h2.2.2.2.2,?_⟩
 rcases Nat.eq_zero_or_pos s.cs.length with h0|h0
 ·have h3:=h2.2.2.2.2
  rw[<-hf.2.2.2,h0]at h3
  have:=h2.2.2.1
  omega
 ·exact h0
theorem uI (s:Ss) (a b F T:Nat) (w:World) (hs:SsAt w s) (ho:SsOk s) (hm:bB s=true) (hcap:s.cs.length<=s.cc) (hab:a< b) (hb:b<=s.cs.length) (hF:a*s.seg.toNat=F) (hT:b*s.seg.toNat=T):
  Calls prog 199 #[.agg s.row,.int .i64 (F:Nat),.int .i64 (T:Nat)] w fun r w'=>r= .returned (.int .i64 (aX s.ws F (T-F):Nat))/\Below w.heap.size w w':=by
 have hcnt:=fun k (hk:k< s.cs.length)=>yO hm hk
 have hsg:=fC hm
 obtain⟨G,hG⟩:∃G,s.seg.toNat=G:=⟨_,rfl⟩
 rw[hG]at hF hT hsg hcnt
 have HTF:T-F=(b-a)*G:=by rw[<-hF,<-hT,Nat.sub_mul]
 rw[HTF]
 obtain⟨R,hR⟩:∃R,aX s.ws F ((b-a)*G)=R:=⟨_,rfl⟩
 rw[hR]
 obtain⟨b1,o1,e1,hbl1,-⟩:=hs.cnts.one a (by omega)
 have HCN:=Lc (fun W (hW:Below w.heap.size w W) j (hj:a+j< s.cs.length)=>show W.cell? ⟨b1,o1+a+j,none⟩=some (.int .i64 ((aX s.ws ((a+j)*G) G:Nat):Int))from by
  obtain⟨b2,o2,e2,hbl2,h2⟩:=hs.cnts.oneB hW (a+j) hj
  rw[e1]at e2
  cases e2
  rw[Nat.add_assoc,h2,hcnt _ hj];rfl)
 obtain⟨W0,hW0,hb0,b0⟩:=Ee w s
 have HW0:=Lc hW0
 have HB0:=Lc hb0
 have q0:W0.cell? ⟨w.heap.size,0,none⟩=some (.int .i64 (G:Int)):=(b0.cell 0).trans (by rw[<-hsg.seg];rfl)
 have q4:W0.cell? ⟨w.heap.size,4,none⟩=some (.slice (some ⟨b1,o1,none⟩) s.cs.length s.cc):=(b0.cell 4).trans (by rw[<-e1];rfl)
 have hGp:0< G:=by have:=hsg.g4;omega
 have j1:(F:Int)/(G:Int)=(a:Int):=by rw[<-hF,M5];exact Int.mul_ediv_cancel _ (by omega)
 have j2:(T:Int)/(G:Int)=(b:Int):=by rw[<-hT,M5];exact Int.mul_ediv_cancel _ (by omega)
 have hb9:b<=300:=by have:=ho.cl;omega
 have hT9:T<=300*64:=by rw[<-hT];exact M0 hb9 hsg.g64
 have g0:¬(G:Int)=0:=by omega
 have g1:(0:Int)< (G:Int):=by omega
 have k1:(0:Int)<=(a:Int):=by omega
 have k2:(a:Int)<=(b:Int):=by omega
 have k3:(b:Int)<=(s.cc:Int):=by omega
 have hne:¬s.cc=a:=by omega
 have k4:(0:Int)<=(F:Int):=by omega
 have k5:(0:Int)<=(T:Int):=by omega
 have j3:∀[Inhabited Nat],wrap64 (a:Int)=(a:Int):=ou a (by omega)
 have j4:∀[Inhabited Nat],wrap64 (b:Int)=(b:Int):=ou b (by omega)
 have HR:=Lc hR
 have HF:=Lc hF
 have HBL:=Lc hb
 have HS:=Lc hsg
 have HAB:=Lc (Lr hab (Lr hb9 (Lr hcap hGp)))
 clear hW0 hb0 b0 hs ho hm hcap hab hb hF hT hcnt hsg hG HTF hR hbl1 hGp hb9 hT9 e1
 go_enter func199,ntmps199
 go_upto_region 1 with fail
 rw[HW0.out]
 go_big_quiet (fail)
 have HB1:=Lc (aa HB0.out (av (Lg W0.heap.size W0) nq))
 obtain⟨W1,hW1⟩:∃W,W0.drewN nq=W:=⟨_,rfl⟩
 rw[hW1]at HB1 ⊢
 obtain⟨N,hN⟩:∃N,b-a=N:=⟨_,rfl⟩
 rw[hN]at HR ⊢
 have HN:=Lc hN
 have HNL:=Lc (show N<=300 by have:=HAB.out.2.1;omega)
 clear hW1 q0 q4 j1 j2 j3 j4 g0 g1 k1 k2 k3 k4 k5 hne hN HB0 HW0
 go_wp2_with fail
 go_loopw [6,21] (fun e i wr=>∃j M:Nat,j<=N/\i= .int .i64 j/\e= .int .i64 M/\wr=W1/\Hid (M=aX s.ws F (j*G))) (fun _ i _=>N-(intOf i).toNat)
 case atStart=>exact⟨0,0,LC _,rfl,rfl,rfl,by show _=_;rw[Nat.zero_mul];rfl⟩
 case round=>
  obtain⟨j,M,hj,rfl,rfl,hww,hM⟩:=hrel
  subst hww
  by_cases hlt:j< N
  ·have hc:=HCN.out wr HB1.out j (by have:=HN.out;have:=HBL.out;omega)
   have hst:=xX s.ws a j G
   rw[HF.out]at hst
   have hcl:=eT s.ws ((j+1)*G) F
   have hjG:(j+1)*G<=301*64:=M0 (by have:=HNL.out;omega) HS.out.g64
   rw[<-hM.out]at hst
   obtain⟨C,hC⟩:∃C,aX s.ws ((a+j)*G) G=C:=⟨_,rfl⟩
   rw[hC]at hc hst
   obtain⟨M2,hM2⟩:∃C,aX s.ws F ((j+1)*G)=C:=⟨_,rfl⟩
   rw[hM2]at hst hcl
   have HM2:=Lc hM2
   have hw1:IntKind.i64.wrap ((M:Int)+(C:Int))=(M2:Int):=by rw[Lh _ (by omega)];omega
   have hw2:=aT j (by have:=HNL.out;omega)
   have i1:(j:Int)< (N:Int):=by omega
   have i2:(0:Int)<=(j:Int):=by omega
   have HLT:=Lc hlt
   have HW2:=Lc hw2
   clear hst hcl hjG hC hM2 hlt hw2
   have c1:wr.cell? ⟨b1,o1+a+j,none⟩=some (.int .i64 (C:Nat)):=hc
   go_wp2_with fail
   go_roundw
   case rel=>exact⟨j+1,M2,HLT.out,by rw[HW2.out],rfl,trivial,HM2.out.symm⟩
   case measure=>exact bO _ j HLT.out HW2.out
  ·have hjN:j=N:=by omega
   have i1:¬(j:Int)< (N:Int):=by omega
   have HE:=Lc (show M=R by rw[hM.out,hjN,HR.out])
   clear hlt hM hjN hj
   go_wp2_with fail
   go_ret
   exact⟨by first|exact rfl|(rw[HE.out];exact rfl),HB1.out⟩
theorem pR (s:Ss) (a b F T:Nat) (w:World) (hs:SsAt w s) (ho:SsOk s) (hm:bB s=true) (hab:a<=b) (hb:b<=s.cs.length) (hF:a*s.seg.toNat=F) (hT:b*s.seg.toNat=T):
  Calls prog 164 #[.agg s.row,.int .i64 (F:Nat),.int .i64 (T:Nat)] w fun r w'=>r= .returned (.int .i64 (aX s.ws F (T-F):Nat))/\Below w.heap.size w w':=by
 have hcnt:=fun k (hk:k< s.cs.length)=>yO hm hk
 have hsg:=fC hm
 obtain⟨G,hG⟩:∃G,s.seg.toNat=G:=⟨_,rfl⟩
 rw[hG]at hF hT hsg hcnt
 have HTF:T-F=(b-a)*G:=by rw[<-hF,<-hT,Nat.sub_mul]
 rw[HTF]
 obtain⟨R,hR⟩:∃R,aX s.ws F ((b-a)*G)=R:=⟨_,rfl⟩
 rw[hR]
 obtain⟨b1,o1,e1,hbl1,-⟩:=hs.cnts.one 0 (by have:=hsg.d0;omega)
 have HCN:=Lc (fun W (hW:Below w.heap.size w W) j (hj:j< s.cs.length)=>show W.cell? ⟨b1,o1+j,none⟩=some (.int .i64 ((aX s.ws (j*G) G:Nat):Int))from by
  obtain⟨b2,o2,e2,hbl2,h2⟩:=hs.cnts.oneB hW j hj
  rw[e1]at e2
  cases e2
  rw[h2,hcnt _ hj];rfl)
 obtain⟨W0,hW0,hb0,b0⟩:=Ee w s
 have HW0:=Lc hW0
 have HB0:=Lc hb0
 have q0:W0.cell? ⟨w.heap.size,0,none⟩=some (.int .i64 (G:Int)):=(b0.cell 0).trans (by rw[<-hsg.seg];rfl)
 have q4:W0.cell? ⟨w.heap.size,4,none⟩=some (.slice (some ⟨b1,o1,none⟩) s.cs.length s.cc):=(b0.cell 4).trans (by rw[<-e1];rfl)
 have hGp:0< G:=by have:=hsg.g4;omega
 have j1:(F:Int)/(G:Int)=(a:Int):=by rw[<-hF,M5];exact Int.mul_ediv_cancel _ (by omega)
 have j2:(T:Int)/(G:Int)=(b:Int):=by rw[<-hT,M5];exact Int.mul_ediv_cancel _ (by omega)
 have hb9:b<=300:=by have:=ho.cl;omega
 have g0:¬(G:Int)=0:=by omega
 have g1:(0:Int)< (G:Int):=by omega
 have k4:(0:Int)<=(F:Int):=by omega
 have k5:(0:Int)<=(T:Int):=by omega
 have hT9:T<=300*64:=by rw[<-hT];exact M0 hb9 hsg.g64
 have j3:∀[Inhabited Nat],wrap64 (a:Int)=(a:Int):=ou a (by omega)
 have j4:∀[Inhabited Nat],wrap64 (b:Int)=(b:Int):=ou b (by omega)
 obtain⟨N,hN⟩:∃N,b-a=N:=⟨_,rfl⟩
 rw[hN]at hR
 have HR:=Lc hR
 have HN:=Lc (show a+N=b/\N<=300/\b<=s.cs.length/\s.cs.length<=300 by have:=ho.cl;exact⟨by omega,by omega,hb,this⟩)
 have HF:=Lc hF
 have HS:=Lc hsg
 clear hW0 hb0 b0 hs ho hm hab hb hF hT hcnt hsg hG HTF hR hbl1 hGp hb9 hT9 e1 hN
 go_enter func164,ntmps164
 go_upto_region 1 with fail
 rw[HW0.out]
 go_wp2_with fail
 go_loopw [7,8] (fun e i wr=>∃j k M:Nat,j<=N/\k=a+j/\i= .int .i64 k/\e= .int .i64 M/\wr=W0/\Hid (M=aX s.ws F (j*G))) (fun _ i _=>b-(intOf i).toNat)
 case atStart=>exact⟨0,a,0,LC _,rfl,by first|rfl|(rw[j3])|simp[j1,j3],rfl,rfl,by show _=_;rw[Nat.zero_mul];rfl⟩
 case round=>
  obtain⟨j,k,M,hj,hk,rfl,rfl,hww,hM⟩:=hrel
  subst hww
  by_cases hlt:j< N
  ·have hc:=HCN.out wr HB0.out k (by have:=HN.out;omega)
   have hst:=xX s.ws a j G
   rw[HF.out,<-hk]at hst
   have hcl:=eT s.ws ((j+1)*G) F
   have hjG:(j+1)*G<=301*64:=M0 (by have:=HN.out;omega) HS.out.g64
   rw[<-hM.out]at hst
   obtain⟨C,hC⟩:∃C,aX s.ws (k*G) G=C:=⟨_,rfl⟩
   rw[hC]at hc hst
   obtain⟨M2,hM2⟩:∃C,aX s.ws F ((j+1)*G)=C:=⟨_,rfl⟩
   rw[hM2]at hst hcl
   have HM2:=Lc hM2
   have hkb:k< b:=by have:=HN.out;omega
   have i1:(k:Int)< (b:Int):=by omega
   have i2:(0:Int)<=(k:Int):=by omega
   have i3:(k:Int)< (s.cs.length:Int):=by have:=HN.out;omega
   have HLT:=Lc (Lr hlt (Lr hkb hk))
   have i4:k< b:=hkb
   have hw1:IntKind.i64.wrap ((M:Int)+(C:Int))=(M2:Int):=by rw[Lh _ (by omega)];omega
   have hw2:=aT k (by have:=HN.out;omega)
   have HW2:=Lc hw2
   clear hst hcl hjG hC hM2 hlt hw2 hkb hk
   have c1:wr.cell? ⟨b1,o1+k,none⟩=some (.int .i64 (C:Nat)):=hc
   go_wp2_with fail
   go_roundw
   case rel=>exact⟨j+1,k+1,M2,HLT.out.1,by have:=HLT.out.2.2;omega,by rw[HW2.out],rfl,trivial,HM2.out.symm⟩
   case measure=>exact bO _ k HLT.out.2.1 HW2.out
  ·have hjN:j=N:=by omega
   have hkb:¬k< b:=by have:=HN.out;omega
   have i1:¬(k:Int)< (b:Int):=by omega
   have HE:=Lc (show M=R by rw[hM.out,hjN,HR.out])
   clear hlt hM hjN hj hk
   go_wp2_with fail
   go_ret
   exact⟨by first|exact rfl|(rw[HE.out];exact rfl),HB0.out⟩
theorem Ap (s:Ss) (w:World) (hs:SsAt w s) (ho:SsOk s) (hm:bB s=true):
  Calls prog 150 #[.agg s.row] w fun r w'=>r= .returned (.int .i64 (aX s.ws 0 s.ks.length:Nat))/\Below w.heap.size w w':=by
 obtain⟨W0,hW0,hb0,b0⟩:=Ee w s
 have hsg:=fC hm
 have ham:=pR s 0 s.cs.length 0 s.ks.length W0 (hs.below hb0) ho hm (LC _) (Lf _) (Nat.zero_mul _) (by rw[hsg.kl,Nat.mul_comm])
 rw[Nat.sub_zero]at ham
 obtain⟨M,hM⟩:∃M,aX s.ws 0 s.ks.length=M:=⟨_,rfl⟩
 rw[hM]at ham ⊢
 have HAM:=Lc ham
 have HW0:=Lc hW0
 have HB0:=Lc hb0
 clear hW0 hb0 hs ho hm hsg ham hM
 obtain⟨i0,q0,q1,q2,q3,q4,q5⟩:=E5 b0
 clear b0
 go_enter func150,ntmps150
 go_upto_region 1 with fail
 rw[HW0.out]
 go_wp2_with fail
 refine HAM.out.mono ?_
 rintro e w1 ⟨rfl,hb1⟩
 have HB1:=Lc (aa HB0.out hb1)
 clear hb1 q0 q1 q2 q3 q4 q5 i0
 go_wp2_with fail
 go_ret
 exact⟨rfl,HB1.out⟩
theorem bQ {x y:Int} {n m:Nat} (hx:x.natAbs<=n) (hy:y.natAbs<=m):(x*y).natAbs<=n*m:=by rw[Int.natAbs_mul];exact M0 hx hy
theorem dO {h:Nat} (h1:h<=7):2 ^ h<=128:=LQ (n:=2) (by decide) h1
theorem Di (x m:Nat) (hm:m< 64) (hb:x*2 ^ m<=1000000) (w:World):(binOp .shl 3 (.int .i64 (x:Nat)) (.int .i64 (m:Nat))).run prog w= .ok (.int .i64 ((x*2 ^ m:Nat):Int)) w:=by
 have i5:(0:Int)<=(m:Int):=by omega
 have i6:(m:Int)<=64:=by omega
 have h:(x:Int)*2 ^ m=((x*2 ^ m:Nat):Int):=by rw[M5,Int.natCast_pow];rfl
 obtain⟨Y,hY⟩:∃Y,x*2 ^ m=Y:=⟨_,rfl⟩
 rw[hY]at h hb ⊢
 have hw:IntKind.i64.wrap (Y:Int)=(Y:Int):=Lh _ (by omega)
 clear hY hb
 rw[<-hw,<-h]
 rw[<-h]at hw
 clear h
 go_simp
theorem fZ {ops:Array Oper} {rest:List Oper} {o:Oper} {a:Act} {w:World} {Q:Exit->Act->World->Prop} (hgd:o.guard=none) (s x:Operand) (ty:TypeId)
  (ho:o.op= .binOp .shl 3 s x ty) (X m Y:Nat) (hm:m< 64) (hs:a.eval s= .int .i64 (X:Nat)) (hx:a.eval x= .int .i64 (m:Nat)) (hY:X*2 ^ m=Y) (hb:Y<=1000000)
  (h:wpList prog ops Q rest (a.put o.dst (.int .i64 (Y:Nat))) w):wpList prog ops Q (o::rest) a w:=by
 refine wpList_plain hgd fun K hK=>?_
 have hrun:=Di X m hm (by rw[hY];exact hb) w
 rw[hY]at hrun
 unfold Oper.wp execOp
 have hg:(eqGuard .shl 3 s x (.int .i64 (X:Nat)) (.int .i64 (m:Nat))).run prog w= .ok () w:=rfl
 simp only[ho,hs,hx,Sem.run_bind,Sem.run_pure,Result.andThen_ok,hg,hrun]
 exact hK _ _ h
theorem Fq {o:Oper} {a:Act} {w:World} {K:Act->World->Prop} {Q:Exit->Act->World->Prop} (s x:Operand) (ty:TypeId)
  (ho:o.op= .binOp .shl 3 s x ty) (X m Y:Nat) (hm:m< 64) (hs:a.eval s= .int .i64 (X:Nat)) (hx:a.eval x= .int .i64 (m:Nat)) (hY:X*2 ^ m=Y) (hb:Y<=1000000)
  (h:K (a.put o.dst (.int .i64 (Y:Nat))) w):o.wp prog a w K Q:=by
 have hrun:=Di X m hm (by rw[hY];exact hb) w
 rw[hY]at hrun
 unfold Oper.wp execOp
 have hg:(eqGuard .shl 3 s x (.int .i64 (X:Nat)) (.int .i64 (m:Nat))).run prog w= .ok () w:=rfl
 simp only[ho,hs,hx,Sem.run_bind,Sem.run_pure,Result.andThen_ok,hg,hrun]
 exact h
theorem KN {x:Int} (h:x.natAbs<=60000000):eu x=true:=by unfold eu;rw[decide_eq_true (by omega),decide_eq_true (by omega)];rfl
def oz (H h:Nat) (a b:Int):Int:=if 0< H then a*(H:Int)+(b-a)*(h:Int)else b
def Ct (H:Nat) (d:Int):Int:=if 0< H then d*(H:Int)else d
theorem xQ (a b:Int) (h H:Nat) (w:World) (h1:1<=H) (h2:h<=H) (h3:H<=64) (ha:0<=a/\a<=64) (hb:0<=b/\b<=64):
  Calls prog 227 #[.int .i64 a,.int .i64 b,.int .i64 (h:Nat),.int .i64 (H:Nat)] w fun r w'=>r= .returned (.tuple #[.int .i64 (a*(H:Int)+(b-a)*(h:Int)),.int .i64 0])/\Below w.heap.size w w':=by
 have HS:Hid (∀n∈[a,b,(h:Int),(H:Int)],eu n=true):=fun n hn=>by
  simp at hn
  rcases hn with rfl|rfl|rfl|rfl <;> exact KN (by omega)
 have p1:=bQ (x:=a) (y:=(H:Int)) (n:=64) (m:=64) (by omega) (by omega)
 have p2:=bQ (x:=b-a) (y:=(h:Int)) (n:=64) (m:=64) (by omega) (by omega)
 have i1:¬(H:Int)< 1:=by omega
 have i2:¬(h:Int)< 0:=by omega
 have i3:¬(H:Int)< (h:Int):=by omega
 obtain⟨X,hX⟩:∃X,a*(H:Int)=X:=⟨_,rfl⟩
 obtain⟨D,hD⟩:∃X,b-a=X:=⟨_,rfl⟩
 have hwD:IntKind.i64.wrap (b-a)=D:=by rw[hD];exact Lh _ (by omega)
 rw[hX]at p1 ⊢
 rw[hD]at p2 ⊢
 obtain⟨Y,hY⟩:∃X,D*(h:Int)=X:=⟨_,rfl⟩
 rw[hY]at p2 ⊢
 have hw1:IntKind.i64.wrap (a*(H:Int))=X:=by rw[hX];exact Lh _ (by omega)
 have hw2:IntKind.i64.wrap (D*(h:Int))=Y:=by rw[hY];exact Lh _ (by omega)
 have hw3:IntKind.i64.wrap (X+Y)=X+Y:=Lh _ (by omega)
 have ha:Below w.heap.size w (w.alloc (.cells #[.int .i64 a,.int .i64 b,.int .i64 (h:Nat),.int .i64 (H:Nat)] 3)):=(Lg _ _).alloc (Lf _) _
 have HA:=Lc ha
 clear ha hX hD hY p1 p2
 go_enter func227,ntmps227
 go_wp2_with fail
 refine(uH (some ⟨w.heap.size,0,none⟩) [a,b,h,H] 4 _ (by exact cZ _ _ _) (by simp) HS.out).mono ?_
 rintro e w1 ⟨rfl,rfl⟩
 go_wp2_with fail
 refine Li (v:= .tuple #[.int .i64 (X+Y),.int .i64 0]) (by simp[results,results227,go_sem]) rfl ?_
 exact⟨rfl,HA.out⟩
theorem pY (c:Cfg) (g d H h n:Nat) (a b:Int) (w:World) (hg:c.seg=(g:Int)) (hd:c.den=(d:Int)) (hg2:g<=64) (hd2:d<=64) (hH:H<=7) (hh:h<=H) (hn:n<=1000) (ha:0<=a/\a<=64) (hb:0<=b/\b<=64):
  Calls prog 216 #[.agg c.row,.int .i64 (H:Nat),.int .i64 (h:Nat),.int .i64 (n:Nat),.int .i64 a,.int .i64 b] w fun r w'=>r= .returned (.int .i64 (zw ((n:Int)*Ct H (d:Int)-((g*2 ^ h:Nat):Int)*oz H h a b)))/\Below w.heap.size w w':=by
 obtain⟨W0,hW0⟩:∃W0,w.alloc (.cells c.row 24)=W0:=⟨_,rfl⟩
 have hb0:Below w.heap.size w W0:=by rw[<-hW0];exact(Lg _ _).alloc (Lf _) _
 have b0:Blk W0 w.heap.size 24 c.row:=by rw[<-hW0];exact Blk.new _ _ _
 have HW0:=Lc hW0
 have HB0:=Lc hb0
 have HC0:=Lc b0
 have c2:W0.cell? ⟨w.heap.size,2,none⟩=some (.int .i64 (g:Int)):=(b0.cell 2).trans (by rw[<-hg];rfl)
 have c4:W0.cell? ⟨w.heap.size,4,none⟩=some (.int .i64 (d:Int)):=(b0.cell 4).trans (by rw[<-hd];rfl)
 have HG:=Lc (show(some (MU .i64 c.seg)=some (.int .i64 (g:Int)))/\(some (MU .i64 c.den)=some (.int .i64 (d:Int)))by rw[hg,hd];exact⟨rfl,rfl⟩)
 have hp:=dO (show h<=7 by omega)
 have hY0:g*2 ^ h<=64*128:=M0 hg2 hp
 obtain⟨Y,hY⟩:∃Y,g*2 ^ h=Y:=⟨_,rfl⟩
 rw[hY]at hY0 ⊢
 have HYY:=Lc hY
 obtain⟨L,hL⟩:∃L,oz H h a b=L:=⟨_,rfl⟩
 obtain⟨O,hO⟩:∃O,Ct H (d:Int)=O:=⟨_,rfl⟩
 rw[hL,hO]
 have hlo:eu L=true/\eu O=true:=by
  have p1:=bQ (x:=a) (y:=(H:Int)) (n:=64) (m:=64) (by omega) (by omega)
  have p2:=bQ (x:=b-a) (y:=(h:Int)) (n:=64) (m:=64) (by omega) (by omega)
  have p3:=bQ (x:=(d:Int)) (y:=(H:Int)) (n:=64) (m:=64) (by omega) (by omega)
  rw[<-hL,<-hO];unfold oz Ct
  split <;> exact⟨KN (by omega),KN (by omega)⟩
 have hcr:=fun W=>ve (n:Int) (Y:Int) L O W (KN (by omega)) (KN (by omega)) hlo.1 hlo.2
 have HCR:=Lc hcr
 have hh6:h< 64:=by omega
 have hY9:Y<=1000000:=by omega
 have HG9:=Lc (Lr hh6 hY9)
 unfold oz at hL
 unfold Ct at hO
 have HL:=Lc hL
 have HO:=Lc hO
 have HN:=Lc (Lr hH (Lr hh (Lr ha (Lr hb hd2))))
 clear hW0 hb0 b0 hg hd hg2 hp hY0 hY hL hO hlo hcr hn hh6 hY9 hH hh ha hb hd2
 go_enter func216,ntmps216
 go_upto_region 1 with fail
 rw[HW0.out]
 go_quiet (fail)
 have HDB:=Lc (aa HB0.out (av (Lg W0.heap.size W0) nq))
 have HCB:=Lc (HC0.out.below (av (Lg W0.heap.size W0) nq) HC0.out.lt)
 obtain⟨W1,hW1⟩:∃W,W0.drewN nq=W:=⟨_,rfl⟩
 rw[hW1]at HDB HCB ⊢
 clear hW1 c2 c4 HB0 HC0 HW0
 have hc:=HCB.out
 have c2:W1.cell? ⟨w.heap.size,2,none⟩=some (.int .i64 (g:Int)):=(hc.cell 2).trans HG.out.1
 have c4:W1.cell? ⟨w.heap.size,4,none⟩=some (.int .i64 (d:Int)):=(hc.cell 4).trans HG.out.2
 clear hc
 by_cases hz:0< H
 ·have i1:(0:Int)< (H:Int):=by omega
  have hl:=HL.out
  have ho:=HO.out
  rw[if_pos hz]at hl ho
  have hbt:=fun W=>xQ a b h H W hz HN.out.2.1 (by have:=HN.out.1;omega) HN.out.2.2.1 HN.out.2.2.2.1
  rw[hl]at hbt
  have HBT:=Lc hbt
  have hwo:IntKind.i64.wrap ((d:Int)*(H:Int))=O:=by
   have p3:=bQ (x:=(d:Int)) (y:=(H:Int)) (n:=64) (m:=64) (by have:=HN.out.2.2.2.2;omega) (by have:=HN.out.1;omega)
   rw[ho]at p3 ⊢
   exact Lh _ (by omega)
  clear hl ho hbt hz
  go_wp2_with fail
  refine(HBT.out _).mono ?_
  rintro e w2 ⟨rfl,hb2⟩
  have HDB2:=Lc (aa HDB.out hb2)
  have hc2:=HCB.out.below hb2 HCB.out.lt
  clear c2 c4 hb2
  have c2:w2.cell? ⟨w.heap.size,2,none⟩=some (.int .i64 (g:Int)):=(hc2.cell 2).trans HG.out.1
  have c4:w2.cell? ⟨w.heap.size,4,none⟩=some (.int .i64 (d:Int)):=(hc2.cell 4).trans HG.out.2
  clear hc2
  go_upto_region 5 with fail
  repeat (first|go_values|go_skip|go_guarded|(refine fZ rfl (.tmp 37) (.tmp 38) _ rfl g h Y HG9.out.1 rfl rfl HYY.out HG9.out.2 ?_)|go_step|go_upon)
  refine(HCR.out _).mono ?_
  rintro e w3 ⟨rfl,hb3⟩
  have HDB3:=Lc (aa HDB2.out hb3)
  clear c2 c4 hb3
  go_wp2_with fail
  go_ret
  exact⟨rfl,HDB3.out⟩
 ·have i1:¬(0:Int)< (H:Int):=by omega
  have hl:=HL.out
  have ho:=HO.out
  rw[if_neg hz]at hl ho
  subst hl ho
  go_upto_region 5 with fail
  repeat (first|go_values|go_skip|go_guarded|(refine fZ rfl (.tmp 37) (.tmp 38) _ rfl g h Y HG9.out.1 rfl rfl HYY.out HG9.out.2 ?_)|go_step|go_upon)
  refine(HCR.out _).mono ?_
  rintro e w3 ⟨rfl,hb3⟩
  have HDB3:=Lc (aa HDB.out hb3)
  clear c2 c4 hb3
  go_wp2_with fail
  go_ret
  exact⟨rfl,HDB3.out⟩
structure CfI (c:Cfg):Prop where
 m:1<=c.most/\c.most<=16384
 g:4<=c.seg/\c.seg<=64
 l:c.seg<=c.least/\c.least<=256
 d:1<=c.den/\c.den<=64
 o:0<=c.leafLow/\c.leafLow< c.rootLow/\c.rootLow< c.rootHigh/\c.rootHigh< c.leafHigh/\c.leafHigh<=c.den
 r:c.den<=2*c.rootHigh
 pg:pow2 c.seg.toNat=true
 pl:pow2 c.least.toNat=true
theorem jH {c:Cfg} (h:mK c=true):CfI c:=by
 unfold mK at h
 simp only[LZ]at h
 obtain⟨⟨⟨hb,hb'⟩,hc⟩,-⟩:=h
 simp only[iO,jF,mF,gY,List.all_cons,List.all_nil,id,LZ,decide_eq_true_eq,Bool.and_true]at hb hb' hc
 obtain⟨hx1,hx2,hx3,hx4,⟨⟨hx5,hx6⟩,hx7⟩,⟨⟨hx8,hx9⟩,hx10⟩,hx11,hx12⟩:=hb
 obtain⟨hy1,hy2,hy3,hy4,hy5⟩:=hb'
 exact⟨⟨hx3,hx4⟩,⟨hx5,hx6⟩,⟨hx8,hx9⟩,⟨hx11,hx12⟩,⟨hy1,hy2,hy3,hy4,hy5⟩,hc.1,hx7,hx10⟩
def Bj (c:Cfg):Nat:=fD c.most.toNat c.den.toNat c.rootHigh.toNat c.least.toNat
theorem yK {c:Cfg} (h:CfI c):TakeS c c.most.toNat c.den.toNat c.rootHigh.toNat c.least.toNat:=by
 have h1:=h.m;have h2:=h.g;have h3:=h.l;have h4:=h.d;have h5:=h.o;have h6:=h.r
 constructor <;> omega
def uB (c:Cfg) (n:Nat):Bool:=gY n c.least (Bj c)
def aI (c:Cfg) (n:Nat):Nat:=Md (n/c.seg.toNat)
theorem FI:∀n:Nat,n<=300->∀g,g<=64->pow2 n=true->pow2 g=true->g<=n->n=g*2 ^ Md (n/g):=by decide+kernel
theorem aO {c:Cfg} {n:Nat} (hc:CfI c) (hn:n<=300) (h:uB c n=true):c.least<=(n:Int)/\pow2 n=true/\n=c.seg.toNat*2 ^ aI c n/\aI c n<=6/\c.seg.toNat<=n:=by
 unfold uB gY at h
 simp only[LZ,decide_eq_true_eq,MR]at h
 obtain⟨⟨h1,-⟩,h3⟩:=h
 have h4:=hc.l;have h5:=hc.g
 have h6:=FI n hn c.seg.toNat (by omega) h3 hc.pg (by omega)
 refine⟨h1,h3,h6,?_,by omega⟩
 unfold aI
 by_cases h7:Md (n/c.seg.toNat)<=6
 ·exact h7
 ·have h8:2 ^ 7<=2 ^ Md (n/c.seg.toNat):=LQ (n:=2) (by decide) (by omega)
  have h9:=M0 (show 4<=c.seg.toNat by omega) h8
  omega
theorem iF {w:World} {g:Nat} {c:Cfg} (h:Blk w g 24 c.row):g< w.heap.size/\w.cell? ⟨g,0,none⟩=some (.int .u8 c.tag)/\w.cell? ⟨g,1,none⟩=some (.int .i64 c.most)/\w.cell? ⟨g,2,none⟩=some (.int .i64 c.seg)/\w.cell? ⟨g,3,none⟩=some (.int .i64 c.least)/\w.cell? ⟨g,4,none⟩=some (.int .i64 c.den)/\w.cell? ⟨g,5,none⟩=some (.int .i64 c.leafLow)/\w.cell? ⟨g,6,none⟩=some (.int .i64 c.rootLow)/\w.cell? ⟨g,7,none⟩=some (.int .i64 c.rootHigh)/\w.cell? ⟨g,8,none⟩=some (.int .i64 c.leafHigh):=
 ⟨h.lt,h.cell 0,h.cell 1,h.cell 2,h.cell 3,h.cell 4,h.cell 5,h.cell 6,h.cell 7,h.cell 8⟩
theorem yh (w:World) (c:Cfg):∃W,w.alloc (.cells c.row 24)=W/\Below w.heap.size w W/\Blk W w.heap.size 24 c.row:=⟨_,rfl,(Lg _ _).alloc (Lf _) _,Blk.new _ _ _⟩
theorem uZ (c:Cfg) (n:Nat) (w:World) (hk:mK c=true) (hn:n<=300):
  Calls prog 197 #[.agg c.row,.int .i64 (n:Nat)] w fun r w'=>r= .returned (.tuple #[.int .i64 (if uB c n=true then(aI c n:Nat)else 0:Int),.int .i64 (if uB c n=true then 0 else 2)])/\Below w.heap.size w w':=by
 have hc:=jH hk
 have hch:=fun W=>nA c W
 rw[show iW c=0 from by unfold iW;rw[if_pos hk]]at hch
 have htk:=fun W=>uS c _ _ _ _ W (yK hc)
 rw[Mq (by have:=hc.m;omega)]at htk
 change ∀W,Calls _ _ _ W (fun r w'=>r= .returned (.int .i64 (Bj c:Nat))/\_)at htk
 have hpw:=fun W=>(mY (n:Int) c.least (Bj c) W (by intro _;omega)).mono (R':=fun r w'=>r= .returned (.bool (uB c n))/\Below W.heap.size W w') (fun r w' h=>⟨h.1,h.2 ▸ Lg _ _⟩)
 have hht:uB c n=true->∀W,Calls prog 208 #[.agg c.row,.int .i64 (n:Nat)] W fun r w'=>r= .returned (.int .i64 (aI c n:Nat))/\Below W.heap.size W w':=fun hi W=>sU c n c.seg.toNat W (by have:=hc.g;omega) (by omega) (by have:=hc.g;omega) (aO hc hn hi).2.2.2.2
 obtain⟨C,hC⟩:∃C,Bj c=C:=⟨_,rfl⟩
 obtain⟨Z,hZ⟩:∃C,uB c n=C:=⟨_,rfl⟩
 obtain⟨H,hH⟩:∃C,aI c n=C:=⟨_,rfl⟩
 rw[hC]at htk hpw
 rw[hZ]at hpw hht ⊢
 rw[hH]at hht ⊢
 have HT:=Lc htk
 have HP:=Lc hpw
 have HH:=Lc hht
 have HCH:=Lc hch
 obtain⟨W0,hW0,hb0,b0⟩:=yh w c
 have HW0:=Lc hW0
 have HB0:=Lc hb0
 have HC0:=Lc b0
 clear hW0 hb0 hC hZ hH htk hpw hht hch hc hk hn
 obtain⟨i0,q0,q1,q2,q3,q4,q5,q6,q7,q8⟩:=iF b0
 clear b0
 go_enter func197,ntmps197
 go_upto_region 1 with fail
 rw[HW0.out]
 go_wp2_with fail
 refine(HCH.out _).mono ?_
 rintro e w1 ⟨rfl,hb1⟩
 have HB1:=Lc (aa HB0.out hb1)
 have bC1:=HC0.out.below hb1 HC0.out.lt
 have HC1:=Lc bC1
 clear hb1 q0 q1 q2 q3 q4 q5 q6 q7 q8 i0 HW0 HB0 HC0
 obtain⟨i0,q0,q1,q2,q3,q4,q5,q6,q7,q8⟩:=iF bC1
 clear bC1
 go_upto_region 4 with fail
 go_region_held3 (fun w'=>(∀bq jq,bq< w1.heap.size->w'.cell? ⟨bq,jq,none⟩=w1.cell? ⟨bq,jq,none⟩)/\(∀bq jq,bq< w1.heap.size->w'.frozen? ⟨bq,jq,none⟩=w1.frozen? ⟨bq,jq,none⟩)/\w1.heap.size<=w'.heap.size/\Below w1.heap.size w1 w') ((with_reducible first|exact SB.init|exact SB.init0|exact SB.alloc _ (by assumption)|exact SB.allocD _ (by assumption)|exact SB.below (by assumption) (by assumption)|assumption))
  (first
   |(go_at_call 209;refine(HT.out _).mono ?_;rintro e21 v21 ⟨rfl,hv21⟩;have hl21:=SB.le hv21 (by assumption);obtain⟨hc21,hz21,hs21⟩:=dC hv21)
   |(go_at_call 207;refine(HP.out _).mono ?_;rintro e22 v22 ⟨rfl,hv22⟩;have hl22:=SB.le hv22 (by assumption);obtain⟨hc22,hz22,hs22⟩:=dC hv22)
   |fail "no arm")
 all_goals
  rename_i hq
  have hb2:=SB.bel hq
  have HB2:=Lc (aa HB1.out hb2)
  have bC2:=HC1.out.below hb2 HC1.out.lt
  clear hb2 hq hc21 hz21 hs21 hc22 hz22 hs22 q0 q1 q2 q3 q4 q5 q6 q7 q8 i0 hv21 hv22
  obtain⟨i0,q0,q1,q2,q3,q4,q5,q6,q7,q8⟩:=iF bC2
  clear bC2
  cases Z with
  |false=>
   go_wp2_with fail
   refine Li (v:= .tuple #[.int .i64 0,.int .i64 2]) (by simp[results,results197,go_sem]) rfl ?_
   exact⟨rfl,HB2.out⟩
  |true=>
   go_wp2_with fail
   refine(HH.out (by first|rfl|trivial) _).mono ?_
   rintro e w3 ⟨rfl,hb3⟩
   have HB3:=Lc (aa HB2.out hb3)
   clear hb3 q0 q1 q2 q3 q4 q5 q6 q7 q8 i0
   go_wp2_with fail
   refine Li (v:= .tuple #[.int .i64 H,.int .i64 0]) (by simp[results,results197,go_sem]) rfl ?_
   exact⟨rfl,HB3.out⟩
theorem sM (c:Cfg) (n h m:Nat) (w:World) (hk:mK c=true) (hn:n<=300) (hi:uB c n=true) (hh:h<=aI c n) (hm:m<=c.seg.toNat*2 ^ h):
  Calls prog 215 #[.agg c.row,.int .i64 (n:Nat),.int .i64 (h:Nat),.int .i64 (m:Nat)] w fun r w'=>r= .returned (.tuple #[.int .i64 (aI c n:Nat),.int .i64 0])/\Below w.heap.size w w':=by
 have hc:=jH hk
 have hH6:=(aO hc hn hi).2.2.2.1
 have hhi:=fun W=>uZ c n W hk hn
 rw[if_pos hi,if_pos hi]at hhi
 obtain⟨g,hg⟩:∃g:Nat,c.seg.toNat=g:=⟨_,rfl⟩
 have hgi:c.seg=(g:Int):=by have:=hc.g;omega
 have hg6:g<=64:=by have:=hc.g;omega
 rw[hg]at hm
 have hY0:g*2 ^ h<=64*128:=M0 hg6 (dO (by omega))
 obtain⟨Y,hY⟩:∃Y,g*2 ^ h=Y:=⟨_,rfl⟩
 rw[hY]at hY0 hm
 obtain⟨H,hH⟩:∃C,aI c n=C:=⟨_,rfl⟩
 rw[hH]at hhi hH6 hh ⊢
 have HHI:=Lc hhi
 have HY:=Lc (show g*2 ^ h=Y/\h< 64/\Y<=1000000 from⟨hY,by omega,by omega⟩)
 have i1:¬(h:Int)< 0:=by omega
 have i2:¬(H:Int)< (h:Int):=by omega
 have i3:¬(m:Int)< 0:=by omega
 have i4:¬(Y:Int)< (m:Int):=by omega
 obtain⟨W0,hW0,hb0,b0⟩:=yh w c
 have HW0:=Lc hW0
 have HB0:=Lc hb0
 have HC0:=Lc b0
 have HGI:=Lc hgi
 clear hW0 hb0 hg hgi hg6 hY hH hc hk hn hi hH6 hhi hY0 hm hh
 obtain⟨i0,q0,q1,q2,q3,q4,q5,q6,q7,q8⟩:=iF b0
 clear b0
 go_enter func215,ntmps215
 go_upto_region 1 with fail
 rw[HW0.out]
 go_wp2_with fail
 refine(HHI.out _).mono ?_
 rintro e w1 ⟨rfl,hb1⟩
 have HB1:=Lc (aa HB0.out hb1)
 have bC1:=HC0.out.below hb1 HC0.out.lt
 clear hb1 q0 q1 q2 q3 q4 q5 q6 q7 q8 i0 HW0 HB0 HC0
 have q2:w1.cell? ⟨w.heap.size,2,none⟩=some (.int .i64 (g:Int)):=(bC1.cell 2).trans (by rw[<-HGI.out];rfl)
 clear bC1
 have j1:decide ((h:Int)< 0)=false:=decide_eq_false (by omega)
 have j2:decide (H< h)=false:=decide_eq_false (by omega)
 have j3:decide ((m:Int)< 0)=false:=decide_eq_false (by omega)
 have j4:decide (Y< m)=false:=decide_eq_false (by omega)
 go_upto_region 4 with fail
 repeat (first|go_values|go_skip|(refine Fq (.tmp 35) (.tmp 36) _ rfl g h Y HY.out.2.1 rfl rfl HY.out.1 HY.out.2.2 ?_)|go_guarded|go_step|go_upon)
 refine Li (v:= .tuple #[.int .i64 H,.int .i64 0]) (by simp[results,results215,go_sem]) rfl ?_
 exact⟨rfl,HB1.out⟩
def mD (c:Cfg) (n h m:Nat):Bool:=decide ((m:Int)*Ct (aI c n) ((c.den.toNat:Nat):Int)<=((c.seg.toNat*2 ^ h:Nat):Int)*oz (aI c n) h c.leafHigh c.rootHigh)
def gI (c:Cfg) (n h m:Nat):Bool:=decide ((n:Int)=c.least)||decide (((c.seg.toNat*2 ^ h:Nat):Int)*oz (aI c n) h c.leafLow c.rootLow<=((m+1:Nat):Int)*Ct (aI c n) ((c.den.toNat:Nat):Int))
theorem JQ (x y:Int):decide (zw (x-y)<=0)=decide (x<=y):=by
 unfold zw
 by_cases h:x<=y
 ·rw[decide_eq_true h,if_neg (by omega)];split <;> rfl
 ·rw[decide_eq_false h,if_pos (by omega)];rfl
theorem Km (x y:Int):decide (0<=zw (x-y))=decide (y<=x):=by
 unfold zw
 by_cases h:y<=x
 ·rw[decide_eq_true h];split
  ·rfl
  ·rw[if_neg (by omega)];rfl
 ·rw[decide_eq_false h,if_neg (by omega),if_pos (by omega)];rfl
theorem Ew (c:Cfg) (n h m:Nat) (w:World) (hk:mK c=true) (hn:n<=300) (hi:uB c n=true) (hh:h<=aI c n) (hm:m<=c.seg.toNat*2 ^ h):
  Calls prog 201 #[.agg c.row,.int .i64 (n:Nat),.int .i64 (h:Nat),.int .i64 (m:Nat)] w fun r w'=>r= .returned (.tuple #[.bool (mD c n h m),.int .i64 0])/\Below w.heap.size w w':=by
 have hc:=jH hk
 have hH6:=(aO hc hn hi).2.2.2.1
 have hm8:m<=64*64:=Lt hm (M0 (by have:=hc.g;omega) (LQ (n:=2) (j:=6) (by decide) (by omega)))
 have hm9:m<=300:=by
  have h1:=(aO hc hn hi).2.2.1
  have h2:c.seg.toNat*2 ^ h<=c.seg.toNat*2 ^ aI c n:=MW _ (LQ (n:=2) (by decide) hh)
  omega
 have hask:=fun W=>sM c n h m W hk hn hi hh hm
 have hden:=fun W=>pY c c.seg.toNat c.den.toNat (aI c n) h m c.leafHigh c.rootHigh W (by have:=hc.g;omega) (by have:=hc.d;omega) (by have:=hc.g;omega) (by have:=hc.d;omega) (by omega) hh (by omega) (by have:=hc.o;have:=hc.d;omega) (by have:=hc.o;have:=hc.d;omega)
 have hcmp:=JQ (((m:Nat):Int)*Ct (aI c n) ((c.den.toNat:Nat):Int)) (((c.seg.toNat*2 ^ h:Nat):Int)*oz (aI c n) h c.leafHigh c.rootHigh)
 have hR:mD c n h m=decide ((m:Int)*Ct (aI c n) ((c.den.toNat:Nat):Int)<=((c.seg.toNat*2 ^ h:Nat):Int)*oz (aI c n) h c.leafHigh c.rootHigh):=rfl
 obtain⟨S,hS⟩:∃S,zw (((m:Nat):Int)*Ct (aI c n) ((c.den.toNat:Nat):Int)-((c.seg.toNat*2 ^ h:Nat):Int)*oz (aI c n) h c.leafHigh c.rootHigh)=S:=⟨_,rfl⟩
 rw[hS]at hden hcmp
 rw[<-hcmp]at hR
 rw[hR]
 obtain⟨H,hH⟩:∃C,aI c n=C:=⟨_,rfl⟩
 rw[hH]at hask hden
 have HAS:=Lc hask
 have HDE:=Lc hden
 obtain⟨W0,hW0,hb0,b0⟩:=yh w c
 have HW0:=Lc hW0
 have HB0:=Lc hb0
 have HC0:=Lc b0
 clear hW0 hb0 hask hden hR hcmp hS hH hc hk hn hi hh hm hH6 hm8
 obtain⟨i0,q0,q1,q2,q3,q4,q5,q6,q7,q8⟩:=iF b0
 clear b0
 go_enter func201,ntmps201
 go_upto_region 1 with fail
 rw[HW0.out]
 go_wp2_with fail
 refine(HAS.out _).mono ?_
 rintro e w1 ⟨rfl,hb1⟩
 have HB1:=Lc (aa HB0.out hb1)
 have bC1:=HC0.out.below hb1 HC0.out.lt
 clear hb1 q0 q1 q2 q3 q4 q5 q6 q7 q8 i0 HW0 HB0 HC0
 obtain⟨i0,q0,q1,q2,q3,q4,q5,q6,q7,q8⟩:=iF bC1
 clear bC1
 go_wp2_with fail
 refine(HDE.out _).mono ?_
 rintro e w2 ⟨rfl,hb2⟩
 have HB2:=Lc (aa HB1.out hb2)
 clear hb2 q0 q1 q2 q3 q4 q5 q6 q7 q8 i0
 go_wp2_with fail
 refine Li (v:= .tuple #[.bool (decide (S<=0)),.int .i64 0]) (by simp[results,results201,go_sem]) rfl ?_
 exact⟨rfl,HB2.out⟩
theorem xn (c:Cfg) (n h m:Nat) (w:World) (hk:mK c=true) (hn:n<=300) (hi:uB c n=true) (hh:h<=aI c n) (hm:m<=c.seg.toNat*2 ^ h):
  Calls prog 202 #[.agg c.row,.int .i64 (n:Nat),.int .i64 (h:Nat),.int .i64 (m:Nat)] w fun r w'=>r= .returned (.tuple #[.bool (gI c n h m),.int .i64 0])/\Below w.heap.size w w':=by
 have hc:=jH hk
 have hH6:=(aO hc hn hi).2.2.2.1
 have hm8:m<=64*64:=Lt hm (M0 (by have:=hc.g;omega) (LQ (n:=2) (j:=6) (by decide) (by omega)))
 have hm9:m<=300:=by
  have h1:=(aO hc hn hi).2.2.1
  have h2:c.seg.toNat*2 ^ h<=c.seg.toNat*2 ^ aI c n:=MW _ (LQ (n:=2) (by decide) hh)
  omega
 have hask:=fun W=>sM c n h m W hk hn hi hh hm
 have hden:=fun W=>pY c c.seg.toNat c.den.toNat (aI c n) h (m+1) c.leafLow c.rootLow W (by have:=hc.g;omega) (by have:=hc.d;omega) (by have:=hc.g;omega) (by have:=hc.d;omega) (by omega) hh (by omega) (by have:=hc.o;have:=hc.d;omega) (by have:=hc.o;have:=hc.d;omega)
 have hcmp:=Km ((((m+1):Nat):Int)*Ct (aI c n) ((c.den.toNat:Nat):Int)) (((c.seg.toNat*2 ^ h:Nat):Int)*oz (aI c n) h c.leafLow c.rootLow)
 have hR:gI c n h m=(decide ((n:Int)=c.least)||decide (((c.seg.toNat*2 ^ h:Nat):Int)*oz (aI c n) h c.leafLow c.rootLow<=((m+1:Nat):Int)*Ct (aI c n) ((c.den.toNat:Nat):Int))):=rfl
 obtain⟨S,hS⟩:∃S,zw ((((m+1):Nat):Int)*Ct (aI c n) ((c.den.toNat:Nat):Int)-((c.seg.toNat*2 ^ h:Nat):Int)*oz (aI c n) h c.leafLow c.rootLow)=S:=⟨_,rfl⟩
 rw[hS]at hden hcmp
 rw[<-hcmp]at hR
 rw[hR]
 obtain⟨H,hH⟩:∃C,aI c n=C:=⟨_,rfl⟩
 rw[hH]at hask hden
 have HAS:=Lc hask
 have HDE:=Lc hden
 obtain⟨W0,hW0,hb0,b0⟩:=yh w c
 have HW0:=Lc hW0
 have HB0:=Lc hb0
 have HC0:=Lc b0
 clear hW0 hb0 hask hden hR hcmp hS hH hc hk hn hi hh hm hH6 hm8
 obtain⟨i0,q0,q1,q2,q3,q4,q5,q6,q7,q8⟩:=iF b0
 clear b0
 go_enter func202,ntmps202
 go_upto_region 1 with fail
 rw[HW0.out]
 go_wp2_with fail
 refine(HAS.out _).mono ?_
 rintro e w1 ⟨rfl,hb1⟩
 have HB1:=Lc (aa HB0.out hb1)
 have bC1:=HC0.out.below hb1 HC0.out.lt
 clear hb1 q0 q1 q2 q3 q4 q5 q6 q7 q8 i0 HW0 HB0 HC0
 obtain⟨i0,q0,q1,q2,q3,q4,q5,q6,q7,q8⟩:=iF bC1
 clear bC1
 have hwm:IntKind.i64.wrap ((m:Int)+1)=((m+1:Nat):Int):=by rw[Lh _ (by omega)];omega
 obtain⟨m1,hm1⟩:∃x,m+1=x:=⟨_,rfl⟩
 rw[hm1]at hwm HDE
 clear hm1 hm9
 by_cases he:(n:Int)=c.least
 ·have he2:decide ((n:Int)=c.least)=true:=decide_eq_true he
  have HE:=Lc he2
  go_wp2_with fail
  refine Li (v:= .tuple #[.bool true,.int .i64 0]) (by simp[results,results202,go_sem]) rfl ?_
  exact⟨by rw[HE.out];rfl,HB1.out⟩
 ·have he2:decide ((n:Int)=c.least)=false:=decide_eq_false he
  have HE:=Lc he2
  go_wp2_with fail
  refine(HDE.out _).mono ?_
  rintro e w2 ⟨rfl,hb2⟩
  have HB2:=Lc (aa HB1.out hb2)
  clear hb2 q0 q1 q2 q3 q4 q5 q6 q7 q8 i0
  go_wp2_with fail
  refine Li (v:= .tuple #[.bool (decide (0<=S)),.int .i64 0]) (by simp[results,results202,go_sem,he]) rfl ?_
  exact⟨by rw[HE.out];rfl,HB2.out⟩
theorem Dw:∀k:Nat,k<=9->∀i:Nat,i<=75->bits .andNot .i64 ((i*2 ^ k:Nat):Int) (((2 ^ k:Nat):Int)-1)=((i*2 ^ k:Nat):Int):=by decide+kernel
theorem Cn:∀n:Nat,n<=300->pow2 n=true->∃k,k<=8/\n=2 ^ k:=by
 intro n hn h
 unfold pow2 at h
 simp only[LZ,decide_eq_true_eq]at h
 refine⟨Md n,?_,h.2.symm⟩
 by_cases h1:Md n<=8
 ·exact h1
 ·have h2:2 ^ 9<=2 ^ Md n:=LQ (n:=2) (by decide) (by omega)
  omega
theorem xK (g n:Nat) (w:World) (h4:4<=g) (h64:g<=64) (hg:pow2 g=true) (hgn:g<=n) (hn:n<=300) (hp:pow2 n=true):
  Calls prog 226 #[.int .i64 (g:Nat),.int .i64 (n:Nat)] w fun r w'=>r= .returned (.tuple #[.int .i64 (Md (n/g):Nat),.int .i64 0])/\w'=w:=by
 have p1:=fun W=>iU (g:Int) W (by omega)
 have p2:=fun W=>iU (n:Int) W (by omega)
 rw[MR,hg]at p1
 rw[MR,hp]at p2
 have hd1:0< n/g:=Nat.div_pos hgn (by omega)
 have hd2:n/g<=n:=Nu n g
 have hq:(n:Int).tdiv (g:Int)=((n/g:Nat):Int):=by rw[Int.tdiv_eq_ediv_of_nonneg (by omega)];exact(Nl n g).symm
 have hz:¬(g:Int)=0:=by omega
 obtain⟨Q,hQ⟩:∃Q,n/g=Q:=⟨_,rfl⟩
 rw[hQ]at hq hd1 hd2 ⊢
 have hw:IntKind.i64.wrap (Q:Int)=(Q:Int):=Lh _ (by omega)
 have HD:=Lc (fun W=>pu Q W hd1 (by omega))
 have P1:=Lc p1
 have P2:=Lc p2
 have i1:¬(g:Int)< 4:=by omega
 have i2:¬(64:Int)< (g:Int):=by omega
 have i3:¬(n:Int)< (g:Int):=by omega
 have i4:¬(65536:Int)< (n:Int):=by omega
 clear p1 p2 hQ hd1 hd2 hp hg h4 h64 hn hgn
 go_enter func226,ntmps226
 go_wp2_with fail
 refine(P1.out _).mono ?_
 rintro e w1 ⟨rfl,rfl⟩
 go_wp2_with fail
 refine(P2.out _).mono ?_
 rintro e w1 ⟨rfl,rfl⟩
 go_wp2_with fail
 refine(HD.out _).mono ?_
 rintro e w1 ⟨rfl,rfl⟩
 go_wp2_with fail
 refine Li (v:= .tuple #[.int .i64 (Md Q:Nat),.int .i64 0]) (by simp[results,results226,go_sem]) rfl ?_
 exact⟨rfl,rfl⟩
theorem BA (k i Y M T:Nat) (w:World) (hk:k<=9) (hi:i<=75) (hY:2 ^ k=Y) (hM:i*Y=M) (hT:M+Y=T) (hb:T<=1000000):
  Calls prog 214 #[.int .i64 (Y:Nat),.int .i64 (M:Nat)] w fun r w'=>r= .returned (.agg #[.int .i64 (M:Nat),.int .i64 (T:Nat)])/\Below w.heap.size w w':=by
 have hq:=Dw k hk i hi
 rw[hY,hM]at hq
 have hY1:0< Y:=by rw[<-hY];exact M6 k
 have hw1:IntKind.i64.wrap ((Y:Int)-1)=(Y:Int)-1:=Lh _ (by omega)
 have hw2:IntKind.i64.wrap ((M:Int)+(Y:Int))=(T:Int):=by rw[Lh _ (by omega)];omega
 have HT:=Lc hT
 clear hY hM hT hY1 hb hk hi
 go_enter func214,ntmps214
 go_wp2_with fail
 have hb:Below w.heap.size w (w.alloc (.cells #[.int .i64 (M:Nat),.int .i64 (T:Nat)] 243)):=(Lg _ _).alloc (Lf _) _
 refine Li (v:= .agg #[.int .i64 (M:Nat),.int .i64 (T:Nat)]) (by simp[results,results214,go_sem]) rfl ?_
 exact⟨rfl,hb⟩
theorem AO (g n:Nat) (w:World) (h4:4<=g) (h64:g<=64) (hg:pow2 g=true) (hgn:g<=n) (hn:n<=300) (hp:pow2 n=true):
  Calls prog 213 #[.int .i64 (g:Nat),.int .i64 (n:Nat),.slice none 0 0] w fun r w'=>r= .returned (.tuple #[.int .i64 (Md (n/g):Nat),.int .i64 0])/\w'=w:=by
 have HH:=Lc (fun W=>xK g n W h4 h64 hg hgn hn hp)
 obtain⟨Q,hQ⟩:∃Q,Md (n/g)=Q:=⟨_,rfl⟩
 rw[hQ]at HH ⊢
 clear hQ h4 h64 hg hgn hn hp
 go_enter func213,ntmps213
 go_wp2_with fail
 refine(HH.out _).mono ?_
 rintro e w1 ⟨rfl,hw1⟩
 rw[hw1]
 clear hw1 w1
 go_wp2_with fail
 go_loopw [23] (fun i wr=>i= .int .i64 0/\wr=w) (fun _ _=>0)
 case atStart=>exact⟨rfl,rfl⟩
 case round=>
  obtain⟨rfl,rfl⟩:=hrel
  go_wp2_with fail
  refine Li (v:= .tuple #[.int .i64 (Q:Nat),.int .i64 0]) (by simp[results,results213,go_sem]) rfl ?_
  exact⟨rfl,rfl⟩
def wQ (Y k:Nat):List Value:=(L8 k).flatMap fun i=>[nv (i*Y),nv (i*Y+Y)]
theorem oZ (Y k:Nat):wQ Y (k+1)=wQ Y k++[nv (k*Y),nv (k*Y+Y)]:=by unfold wQ;rw[List.range_succ,List.flatMap_append];simp
theorem FY:(prog.info? 243).map (fun i=>(i.zero,i.size,i.bytes))=some (some (.agg #[.int .i64 0,.int .i64 0]),2,16):=by kernel_rfl
theorem I8 (g n h K Y:Nat) (w:World) (h4:4<=g) (h64:g<=64) (hg:pow2 g=true) (hgn:g<=n) (hn:n<=300) (hp:pow2 n=true) (hh:h<=Md (n/g)) (hY:g*2 ^ h=Y) (hK:K*Y=n):
  Calls prog 200 #[.int .i64 (g:Nat),.int .i64 (n:Nat),.int .i64 (h:Nat)] w fun r w'=>∃A c,r= .returned (.tuple #[.slice A K c,.int .i64 0])/\w'.ownsRow w.heap.size 243 2 (.slice A K c) K (wQ Y K)/\Below w.heap.size w w':=by
 obtain⟨ti0,hi,hz0,hz1,hz2⟩:=info_parts FY
 have HI:=Lc (Lr hi (Lr hz0 (Lr hz1 hz2)))
 have HH:=Lc (fun W=>AO g n W h4 h64 hg hgn hn hp)
 obtain⟨k,hk,hgk⟩:=Cn g (by omega) hg
 obtain⟨m,hm,hnm⟩:=Cn n hn hp
 have hY1:0< Y:=by rw[<-hY];exact Nat.mul_pos (by omega) (M6 h)
 have hK1:K≠0:=fun h0=>by rw[h0]at hK;omega
 have hYn:Y<=n:=by rw[<-hK];exact Nat.le_mul_of_pos_left _ (by omega)
 have hY4:4<=Y:=by rw[<-hY];exact Lt h4 (Nat.le_mul_of_pos_right _ (M6 h))
 have hYk:2 ^ (k+h)=Y:=by rw[Nat.pow_add,<-hgk,hY]
 have hkh:k+h<=9:=by
  by_cases hc:k+h<=9
  ·exact hc
  ·have h2:2 ^ 10<=2 ^ (k+h):=LQ (n:=2) (by decide) (by omega)
   omega
 have hK75:K<=75:=by have h2:K*4<=K*Y:=MW _ hY4;omega
 have har:=fun i (hi:i< K) W=>BA (k+h) i Y (i*Y) (i*Y+Y) W hkh (by omega) hYk rfl rfl (by have:=Mg Y (show i+1<=K by omega);rw[M7,MO]at this;omega)
 have HAR:=Lc har
 have hh6:h< 64:=by omega
 obtain⟨Q,hQ⟩:∃Q,Md (n/g)=Q:=⟨_,rfl⟩
 rw[hQ]at HH hh
 have HY:=Lc (show g*2 ^ h=Y/\h< 64/\Y<=1000000 from⟨hY,hh6,by omega⟩)
 have HN:=Lc (Lr hK (Lr hK75 (Lr hY1 hn)))
 have j1:decide ((h:Int)< 0)=false:=decide_eq_false (by omega)
 have j2:decide (Q< h)=false:=decide_eq_false (by omega)
 clear hi hz0 hz1 hz2 h4 h64 hg hgn hn hp hY hK hk hgk hm hnm hY1 hK1 hYn hY4 hYk hkh hK75 har hh6 hQ hh
 go_enter func200,ntmps200
 go_wp2_with fail
 refine(HH.out _).mono ?_
 rintro e w1 ⟨rfl,hw1⟩
 rw[hw1]
 clear hw1 w1
 go_wp2_with fail
 go_loopw [6,9] (fun o i wr=>∃(q M:Nat) (A1:Option Addr) (c1:Nat),q<=K/\i= .int .i64 M/\o= .slice A1 q c1/\Hid (M=q*Y)/\Hid (wr.ownsRow w.heap.size 243 2 (.slice A1 q c1) q (wQ Y q))/\Hid (Below w.heap.size w wr)) (fun _ i _=>n-(intOf i).toNat)
 case atStart=>exact⟨0,0,none,0,LC _,rfl,rfl,by show _=_;omega,World.ownsRow_nil _ _ _ _,Lg _ _⟩
 case round=>
  obtain⟨q,M,A1,c1,hq,rfl,rfl,HM,HO,HB⟩:=hrel
  have hm3:=HM.out
  by_cases hlt:q< K
  ·have hMn:M< n:=by
    have h1:=HN.out.1
    have h2:=Mg Y (show q+1<=K by omega)
    rw[M7,MO]at h2
    have:=HN.out.2.2.1
    omega
   have i1:(M:Int)< (n:Int):=by omega
   have hY9:=HY.out.2.2
   have hM9:M+Y<=n:=by
    have h1:=HN.out.1
    have h2:=Mg Y (show q+1<=K by omega)
    rw[M7,MO]at h2
    omega
   have hw2:IntKind.i64.wrap ((M:Int)+(Y:Int))=((M+Y:Nat):Int):=by rw[Lh _ (by have:=HN.out.2.2.2;omega)];omega
   obtain⟨T,hT⟩:∃T,M+Y=T:=⟨_,rfl⟩
   have har:=HAR.out q hlt
   rw[<-hm3,hT]at har
   rw[hT]at hw2 hM9
   have HAQ:=Lc har
   have hrs:=oZ Y q
   rw[<-hm3,hT]at hrs
   have HRS:=Lc hrs
   have HT:=Lc (show T=(q+1)*Y by rw[M7,MO,<-hm3,hT])
   have hq9:q<=75:=by have:=HN.out.2.1;omega
   have HQL:=Lc (show q+1<=K/\n-T< n-M by have:=HN.out.2.2.1;exact⟨hlt,by omega⟩)
   clear hm3 hMn hY9 har hrs hT hq hlt
   go_wp2_with (refine fZ rfl (.tmp 35) (.tmp 36) _ rfl g h Y HY.out.2.1 rfl rfl HY.out.1 HY.out.2.2 ?_)
   refine(HAQ.out _).mono ?_
   rintro e w1 ⟨rfl,hb1⟩
   have HO1:=Lc (own_below HO.out hb1)
   have hB1:=aa HB.out hb1
   have HB1:=Lc hB1
   have HSZ:=Lc hB1.size
   clear hb1 hB1 i1
   go_wp2_with (first
    |(at_builtin;refine ag _ rfl (.tmp 34) (.tmp 40) _ rfl w.heap.size 243 ti0 _ 2 16 underlying240 HI.out.1 HI.out.2.1 HI.out.2.2.1 HI.out.2.2.2 rfl (by omega) (.slice A1 q c1) _ _ rfl (HO1.out.alloc _) _ 1 _ [nv M,nv T] rfl ((Blk.new _ _ _).sl 0 _ (by intro j u hu;simpa[nv]using hu)) (by simp) (by simp[nv,Value.oneCell']) (by unfold maxLen;omega) (by omega) (by have:=HSZ.out;simp;omega) ?_;intro v2 w2 hown2 hg2;obtain⟨A2,c2,rfl,-,-⟩:=ak hown2)
    |(refine fZ rfl (.tmp 30) (.tmp 31) _ rfl g h Y HY.out.2.1 rfl rfl HY.out.1 HY.out.2.2 ?_))
   have hb2:Below w.heap.size w w2:=(HB1.out.alloc HSZ.out _).grown hg2 (by have:=HSZ.out;simp;omega) (fun q hq=>(HO1.out.lt q hq).1)
   have HO2:=Lc hown2
   have HB2:=Lc hb2
   clear hown2 hg2 hb2
   go_roundw
   case rel=>exact⟨q+1,T,A2,c2,HQL.out.1,rfl,rfl,HT.out,by show World.ownsRow _ _ _ _ _ _ _;rw[HRS.out];exact HO2.out,HB2.out⟩
   case measure=>have:=HQL.out.2;simp[intOf];omega
  ·obtain rfl:q=K:=by omega
   have i1:¬(M:Int)< (n:Int):=by have:=HN.out.1;omega
   clear hm3 hq hlt
   go_wp2_with fail
   refine Li (v:= .tuple #[.slice A1 q c1,.int .i64 0]) (by simp[results,results200,go_sem]) rfl ?_
   exact⟨A1,c1,rfl,HO.out,HB.out⟩
theorem kM (s:Ss) (w:World) (hs:SsAt w s) (ho:SsOk s):
  Calls prog 198 #[.agg s.row] w fun r w'=>r= .returned (.int .i64 (if bB s=true then 0 else 8))/\Below w.heap.size w w':=by
 obtain⟨W0,hW0⟩:∃W0,w.alloc (.cells s.row 29)=W0:=⟨_,rfl⟩
 have hb0:Below w.heap.size w W0:=by rw[<-hW0];exact(Lg _ _).alloc (Lf _) _
 have b0:Blk W0 w.heap.size 29 s.row:=by rw[<-hW0];exact Blk.new _ _ _
 have hs0:=hs.below hb0
 have HW0:=Lc hW0
 have HB0:=Lc hb0
 have HS:=Lc hs0
 have HO:=Lc ho
 have hf:=fun w=>Gs s.seg s.ks.length w ho.kl
 have hoc:=fun w' (hb:Below W0.heap.size W0 w')=>nU s.wA s.ws s.wc s.ks.length w' (hs0.words.below hb) (by have:=ho.kl;omega) (by have:=ho.wl;omega)
 obtain⟨FB,hFB⟩:∃b,eF s.seg s.ks.length=b:=⟨_,rfl⟩
 obtain⟨OE,hOE⟩:∃b,fU s.ws s.ks.length=b:=⟨_,rfl⟩
 have hhead:mg s=(FB&&decide (s.vs.length=s.ks.length)&&decide (OE=0)&&decide (s.cs.length=s.ks.length/s.seg.toNat)):=by rw[<-hFB,<-hOE];rfl
 have hfo:FB=true->4<=s.seg/\s.seg<=64:=fun h=>by have:=tV (hFB.trans h);exact⟨this.1,this.2.1⟩
 rw[hFB]at hf
 rw[hOE]at hoc
 have hOEq:=Lc hOE
 have HF:=Lc hf
 have HOC:=Lc hoc
 have HHD:=Lc hhead
 have c0:W0.cell? ⟨w.heap.size,0,none⟩=some (.int .i64 s.seg):=b0.cell 0
 have c1:W0.cell? ⟨w.heap.size,1,none⟩=some (.slice s.wA s.ws.length s.wc):=b0.cell 1
 have c2:W0.cell? ⟨w.heap.size,2,none⟩=some (.slice s.kA s.ks.length s.kc):=b0.cell 2
 have c3:W0.cell? ⟨w.heap.size,3,none⟩=some (.slice s.vA s.vs.length s.vc):=b0.cell 3
 have c4:W0.cell? ⟨w.heap.size,4,none⟩=some (.slice s.cA s.cs.length s.cc):=b0.cell 4
 obtain⟨R,hR⟩:∃R:Int,(if bB s=true then(0:Int)else 8)=R:=⟨_,rfl⟩
 have hno:mg s=false->R=8:=fun h=>by rw[<-hR];unfold bB;rw[h];simp
 have hyes:mg s=true->(if ((L8 s.ks.length).all (fF s)&&(L8 s.cs.length).all (countB s))=true then(0:Int)else 8)=R:=fun h=>by rw[<-hR];unfold bB;rw[h];simp
 rw[hR]
 have HNO:=Lc hno
 have HYES:=Lc hyes
 clear hW0 hb0 hs0 hf hoc hhead hFB hOE ho hs hR hno hyes
 go_enter func198,ntmps198
 go_upto_region 2 with fail
 rw[HW0.out]
 have hw0:wrap64 (8:Int)=8:=MF _ (by omega)
 cases FB with
 |false=>
  obtain rfl:R=8:=HNO.out (by rw[HHD.out];simp)
  go_big_quiet (first|(go_at_call 210;exact Mh (HF.out _))|(go_at_call 211;exact Mh (HOC.out _ (by first|exact Lg _ _|exact av (Lg _ _) _))))
  go_wp2_with fail
  go_ret
  exact⟨rfl,aa HB0.out (av (Lg _ _) _)⟩
 |true=>
  obtain⟨h4,h64⟩:=hfo rfl
  have g0:¬s.seg=0:=by omega
  have g1:(0:Int)< s.seg:=by omega
  obtain⟨D,hD⟩:∃D,s.ks.length/s.seg.toNat=D:=⟨_,rfl⟩
  have hDi:(s.ks.length:Int)/s.seg=(D:Int):=by rw[<-hD,Nl,Mq (by omega)]
  have hD75:D<=75:=by rw[<-hD];exact Lt (Nat.div_le_div_left (by omega:4<=s.seg.toNat) (by omega)) (by have:=HO.out.kl;omega)
  have hwk:wrap64 (D:Int)=(D:Int):=MF _ (by omega)
  rw[hD]at HHD
  have hDd:=hD
  clear hfo hD
  by_cases hv:s.vs.length=s.ks.length
  case neg=>
   obtain rfl:R=8:=HNO.out (by rw[HHD.out];simp[hv])
   have hvi:((s.vs.length:Int)!=(s.ks.length:Int))=true:=by simp;omega
   clear hv
   go_big_quiet (first|(go_at_call 210;exact Mh (HF.out _))|(go_at_call 211;exact Mh (HOC.out _ (by first|exact Lg _ _|exact av (Lg _ _) _))))
   go_wp2_with fail
   go_ret
   exact⟨rfl,aa HB0.out (av (Lg _ _) _)⟩
  case pos=>
  have hvi:(s.vs.length:Int)=(s.ks.length:Int):=by omega
  have HV:=Lc hv
  clear hv
  by_cases ho:OE=0
  case neg=>
   obtain rfl:R=8:=HNO.out (by rw[HHD.out];simp[ho])
   have hoi:(OE !=0)=true:=by simpa using ho
   clear ho
   go_big_quiet (first|(go_at_call 210;exact Mh (HF.out _))|(go_at_call 211;exact Mh (HOC.out _ (by first|exact Lg _ _|exact av (Lg _ _) _))))
   go_wp2_with fail
   go_ret
   exact⟨rfl,aa HB0.out (av (Lg _ _) _)⟩
  case pos=>
  have hOE0:=hOEq.out.trans ho
  subst ho
  by_cases hc:s.cs.length=D
  case neg=>
   obtain rfl:R=8:=HNO.out (by rw[HHD.out];simp[hc])
   have hci:((s.cs.length:Int)!=(D:Int))=true:=by simp;omega
   clear hc
   go_big_quiet (first|(go_at_call 210;exact Mh (HF.out _))|(go_at_call 211;exact Mh (HOC.out _ (by first|exact Lg _ _|exact av (Lg _ _) _))))
   go_wp2_with fail
   go_ret
   exact⟨rfl,aa HB0.out (av (Lg _ _) _)⟩
  case pos=>
  have hci:(s.cs.length:Int)=(D:Int):=by omega
  have HC:=Lc hc
  clear hc
  have hh:mg s=true:=by rw[HHD.out];simp[HV.out,HC.out]
  have HYE:=Lc (HYES.out hh)
  clear hh HYES HNO
  go_big_quiet (first|(go_at_call 210;exact Mh (HF.out _))|(go_at_call 211;exact Mh (HOC.out _ (by first|exact Lg _ _|exact av (Lg _ _) _))))
  go_wp2_with fail
  obtain⟨G,hG⟩:∃G:Nat,s.seg.toNat=G:=⟨_,rfl⟩
  have hsg:s.seg=(G:Int):=by omega
  have HSG:=Lc hsg
  have HGG:=Lc hG
  have HDG:=Lc (show G*D<=s.ks.length by rw[<-hG,<-hDd];exact Nat.mul_div_le _ _)
  have HLW:=Lc (show s.ws.length=(s.ks.length+63)/64 by
   have h:=hOE0
   unfold fU at h
   by_cases h2:s.ws.length=(s.ks.length+63)/64/\(s.ks.length %64=0∨s.ws.getD (s.ws.length-1) 0/2 ^ (s.ks.length %64)=0)
   ·exact h2.1
   ·rw[if_neg h2]at h;cases h)
  have HVC:=Lc hvi
  have HG4:=Lc (show 4<=G/\G<=64 by omega)
  clear hsg hG h4 h64 g0 g1 hvi hDi hwk hDd hOE0 hci hD75
  go_loopw [42] (fun i wr=>∃k:Nat,k<=s.ks.length/\i= .int .i64 k/\wr=W0.drewN nq/\Hid (∀j,j< k->fF s j=true)) (fun i _=>s.ks.length-(intOf i).toNat)
  case atStart=>exact⟨0,LC _,rfl,rfl,fun j hj=>absurd hj (Nat.not_lt_zero j)⟩
  case round=>
   obtain⟨k,hk,rfl,hww,hn⟩:=hrel
   subst hww
   by_cases hlt:k< s.ks.length
   ·have hlt2:k< s.vs.length:=by have:=HV.out;omega
    have hlt3:k/64< s.ws.length:=by have:=HLW.out;omega
    obtain⟨b1,o1,e1,hbl1,d1⟩:=HS.out.words.one (k/64) hlt3
    obtain⟨b2,o2,e2,hbl2,d2⟩:=HS.out.keys.one k hlt
    obtain⟨b3,o3,e3,hbl3,d3⟩:=HS.out.vals.one k hlt2
    obtain⟨x,hx⟩:∃x,s.ws[k/64]'hlt3=x:=⟨_,rfl⟩
    obtain⟨y,hy⟩:∃x,s.ks[k]'hlt=x:=⟨_,rfl⟩
    obtain⟨z,hz⟩:∃x,s.vs[k]'hlt2=x:=⟨_,rfl⟩
    obtain⟨K,hK⟩:∃K,k/64=K:=⟨_,rfl⟩
    have hbw:fu s.ws k=x/2 ^ (k %64) %2:=by unfold fu;rw[vC hlt3,hx]
    have hx64:x< 18446744073709551616:=by rw[<-hx];exact HO.out.w64 _ (LP hlt3)
    obtain⟨m,hm⟩:∃m,k %64=m:=⟨_,rfl⟩
    rw[hm]at hbw
    obtain⟨Y,hY⟩:∃Y,x/2 ^ m=Y:=⟨_,rfl⟩
    have hY64:Y< 18446744073709551616:=by rw[<-hY];exact Nat.lt_of_le_of_lt (Nu _ _) hx64
    rw[hY]at hbw
    have i1:(k:Int) %64=(m:Int):=CY k m 64 hm
    have hyb:s.ks.getD k 0=y:=by rw[LJ,Lu hlt,<-hy];rfl
    have hzb:s.vs.getD k 0=z:=by rw[LJ,Lu hlt2,<-hz];rfl
    have HBR:=Lc (show fF s k=(decide (Y %2=1)||(decide (y=0)&&decide (z=0)))by unfold fF;rw[hbw,hyb,hzb])
    rw[hx]at d1
    rw[hy]at d2
    rw[hz]at d3
    simp only[hK]at d1 hlt3
    rw[e1]at c1
    rw[e2]at c2
    rw[e3]at c3
    clear e1 e2 e3
    have f1:W0.cell? ⟨b1,o1+K,none⟩=some (.int .u64 (x:Nat)):=d1
    have f2:W0.cell? ⟨b2,o2+k,none⟩=some (.int .i64 y):=d2
    have f3:W0.cell? ⟨b3,o3+k,none⟩=some (.int .i64 z):=d3
    have i2:(0:Int)<=(K:Int):=by omega
    have i3:(K:Int)< (s.ws.length:Int):=by omega
    have i4:(0:Int)<=(k:Int):=by omega
    have i5:(k:Int)< (s.ks.length:Int):=by omega
    have i6:(k:Int)< (s.vs.length:Int):=by omega
    have HLT:=Lc hlt
    have HY64:=Lc hY64
    have HYY:=Lc hY
    have HM64:=Lc (show m< 64 by rw[<-hm];exact Nat.mod_lt _ (by decide))
    clear hY hx64 hY64
    have hw0:wrap64 ((k:Int)/64)=(K:Int):=tO k K hK (Lt hk (Lt HO.out.kl (by decide)))
    have hw9:=aT k (Lt hk (Lt HO.out.kl (by decide)))
    have HW9:=Lc hw9
    clear hK
    clear hw9
    clear hx hy hz hm hbw hyb hzb d1 d2 d3 hlt3 hlt2 hlt
    by_cases hb:Y %2=1
    ·obtain⟨hqa,hqb⟩:=IE Y HY64.out hb
     have HT:=Lc (show fF s k=true by rw[HBR.out];simp[hb])
     clear hb
     go_upto_region 7 with fail
     repeat (first|go_values|go_skip|go_guarded|(go_big_may;refine iL rfl (.tmp 50) (.tmp 52) _ rfl x m Y HM64.out rfl (by first|rfl|(show MU _ _=_;rw[i1])) HYY.out ?_)|go_step|go_upon)
     go_roundw
     case rel=>exact⟨k+1,HLT.out,by rw[HW9.out],trivial,fun j hj=>by
      rcases Nat.lt_succ_iff_lt_or_eq.1 hj with h|h
      ·exact hn.out j h
      ·rw[h];exact HT.out⟩
     case measure=>exact bO _ k HLT.out HW9.out
    ·obtain⟨hqa,hqb⟩:=GX Y HY64.out hb
     have HQ:=Lc hb
     clear hb
     by_cases hy0:y=0
     ·subst hy0
      by_cases hz0:z=0
      ·subst hz0
       have HT:=Lc (show fF s k=true by rw[HBR.out];simp)
       go_upto_region 7 with fail
       repeat (first|go_values|go_skip|go_guarded|(go_big_may;refine iL rfl (.tmp 50) (.tmp 52) _ rfl x m Y HM64.out rfl (by first|rfl|(show MU _ _=_;rw[i1])) HYY.out ?_)|go_step|go_upon)
       go_roundw
       case rel=>exact⟨k+1,HLT.out,by rw[HW9.out],trivial,fun j hj=>by
        rcases Nat.lt_succ_iff_lt_or_eq.1 hj with h|h
        ·exact hn.out j h
        ·rw[h];exact HT.out⟩
       case measure=>exact bO _ k HLT.out HW9.out
      ·have hzi:(z !=0)=true:=by simpa using hz0
       obtain rfl:R=8:=by rw[<-HYE.out,jy HLT.out (show fF s k=false by rw[HBR.out];simp[HQ.out,hz0])];simp
       go_upto_region 7 with fail
       repeat (first|go_values|go_skip|go_guarded|(go_big_may;refine iL rfl (.tmp 50) (.tmp 52) _ rfl x m Y HM64.out rfl (by first|rfl|(show MU _ _=_;rw[i1])) HYY.out ?_)|go_step|go_upon)
       go_ret
       exact⟨rfl,aa HB0.out (av (Lg _ _) _)⟩
     ·have hyi:(y !=0)=true:=by simpa using hy0
      obtain rfl:R=8:=by rw[<-HYE.out,jy HLT.out (show fF s k=false by rw[HBR.out];simp[HQ.out,hy0])];simp
      go_upto_region 7 with fail
      repeat (first|go_values|go_skip|go_guarded|(go_big_may;refine iL rfl (.tmp 50) (.tmp 52) _ rfl x m Y HM64.out rfl (by first|rfl|(show MU _ _=_;rw[i1])) HYY.out ?_)|go_step|go_upon)
      go_ret
      exact⟨rfl,aa HB0.out (av (Lg _ _) _)⟩
   ·have i1:¬(k:Int)< (s.ks.length:Int):=by omega
    have HALL:=Lc (iY (p:=fF s) (n:=s.ks.length) fun i hi=>hn.out i (by omega))
    clear hlt hk hn
    go_wp2_with fail
    have HB0b:=Lc b0
    have HW:=Lc (av (Lg W0.heap.size W0) nq)
    obtain⟨cA,hcA⟩:∃x,s.cA=x:=⟨_,rfl⟩
    rw[hcA]
    have HCA:=Lc hcA
    clear b0 c0 c1 c2 c3 c4 hcA i1
    obtain⟨WL,hWL⟩:∃W,W0.drewN nq=W:=⟨_,rfl⟩
    have HWB:=HW.out
    rw[hWL]at HWB ⊢
    have HWBH:=Lc HWB
    clear hWL HWB HW
    go_loopw [76] (fun i wr=>∃k:Nat,k<=s.cs.length/\i= .int .i64 k/\Below W0.heap.size W0 wr/\Hid (∀j,j< k->countB s j=true)) (fun i _=>s.cs.length-(intOf i).toNat)
    case atStart=>exact⟨0,LC _,rfl,HWBH.out,fun j hj=>absurd hj (Nat.not_lt_zero j)⟩
    case round=>
     obtain⟨k,hk,rfl,hb,hn⟩:=hrel
     have HBW:=Lc hb
     by_cases hlt:k< s.cs.length
     ·obtain⟨b1,o1,e1,hbl1,d1⟩:=HS.out.cnts.oneB hb k hlt
      obtain rfl:cA=some ⟨b1,o1,none⟩:=HCA.out.symm.trans e1
      obtain⟨y,hy⟩:∃x,s.cs[k]'hlt=x:=⟨_,rfl⟩
      have hyb:s.cs.getD k 0=y:=by rw[LJ,Lu hlt,<-hy];rfl
      rw[hy]at d1
      have f1:wr.cell? ⟨b1,o1+k,none⟩=some (.int .i64 y):=d1
      have hse:=Ch k D G s.ks.length (by rw[<-HC.out];exact hlt) HDG.out
      have hsl:=De k G
      have HBR:=Lc (show countB s k=decide (y=(aX s.ws (k*G) G:Nat))by unfold countB;rw[hyb,HGG.out])
      obtain⟨F,hF⟩:∃F,k*G=F:=⟨_,rfl⟩
      obtain⟨T,hT⟩:∃T,(k+1)*G=T:=⟨_,rfl⟩
      rw[hT]at hse
      have hFT:F<=T:=by rw[<-hF,<-hT];exact Mg _ (Nat.le_succ _)
      have mm:=jP k G F hF (Lt hFT (Lt hse (Lt HO.out.kl (by decide))))
      have mn:=rY k G T hT (Lt hse (Lt HO.out.kl (by decide)))
      have MM:=Lc mm
      have MN:=Lc mn
      clear mm mn
      have hTF:T-F=G:=by rw[<-hF,<-hT];exact hsl
      rw[hF]at HBR
      obtain⟨C,hC⟩:∃C,aX s.ws F G=C:=⟨_,rfl⟩
      have hco:=fun W (h:Sl W s.wA (s.ws.map uw))=>wO s.wA s.ws s.wc s.ks.length F T W h HO.out.w64 (Lt HO.out.wl (by decide)) (Lt HO.out.kl (by decide)) hOEq.out hFT hse
      rw[hTF,hC]at hco
      rw[hC]at HBR
      have HCO:=Lc (hco wr (HS.out.words.below hb))
      have hbb:=HB0b.out.below hb HB0b.out.lt
      have c0:wr.cell? ⟨w.heap.size,0,none⟩=some (.int .i64 (G:Int)):=by rw[<-HSG.out];exact hbb.cell 0
      have c1:wr.cell? ⟨w.heap.size,1,none⟩=some (.slice s.wA s.ws.length s.wc):=hbb.cell 1
      have hw9:=aT k (by have:=HO.out.cl;omega)
      have HW9:=Lc hw9
      clear hw9
      have HLT:=Lc hlt
      have j0:(0:Int)<=(k:Int):=by omega
      have j1:(k:Int)< (s.cs.length:Int):=by omega
      clear hy hyb hF hT hC hco hbb hse hsl hFT hTF d1 hb hlt e1
      have m1:∀[Inhabited Nat],IntKind.i64.wrap ((k:Int)*(G:Int))=(F:Int):=MM.out.1
      have m2:∀[Inhabited Nat],wrap64 ((k:Int)*(G:Int))=(F:Int):=MM.out.2
      have m3:∀[Inhabited Nat],IntKind.i64.wrap (((k:Int)+1)*(G:Int))=(T:Int):=MN.out.1
      have m4:∀[Inhabited Nat],wrap64 (((k:Int)+1)*(G:Int))=(T:Int):=MN.out.2
      have m5:∀[Inhabited Nat],wrap64 ((k:Int)+1)=(k:Int)+1:=HW9.out
      go_wp2_with fail
      refine HCO.out.mono ?_
      rintro e w1 ⟨rfl,hb1⟩
      have HB1:=Lc hb1
      clear m1 m2 m3 m4 m5 hb1 c0 c1 f1 j0
      by_cases hCy:(C:Int)=y
      ·have hne:((C:Int)!=y)=false:=by simpa using hCy
       have HT:=Lc (show countB s k=true by rw[HBR.out];simp[hCy])
       clear hCy
       go_wp2_with fail
       go_roundw
       case rel=>exact⟨k+1,HLT.out,by rw[HW9.out],aa HBW.out HB1.out,fun j hj=>by
        rcases Nat.lt_succ_iff_lt_or_eq.1 hj with h|h
        ·exact hn.out j h
        ·rw[h];exact HT.out⟩
       case measure=>exact bO _ k HLT.out HW9.out
      ·have hne:((C:Int)!=y)=true:=by simpa using hCy
       obtain rfl:R=8:=by rw[<-HYE.out,jy (p:=countB s) HLT.out (by rw[HBR.out];exact decide_eq_false fun h=>hCy h.symm)];simp
       clear hCy
       go_wp2_with fail
       go_ret
       exact⟨rfl,aa HB0.out (aa HBW.out HB1.out)⟩
     ·have j1:¬(k:Int)< (s.cs.length:Int):=by omega
      have hall2:=iY (p:=countB s) (n:=s.cs.length) fun i hi=>hn.out i (by omega)
      obtain rfl:R=0:=by rw[<-HYE.out,HALL.out,hall2];rfl
      clear hall2
      go_wp2_with fail
      go_ret
      exact⟨rfl,aa HB0.out HBW.out⟩
end Go.Proofs.YtpbmbjjfdpkhbaaGreat
