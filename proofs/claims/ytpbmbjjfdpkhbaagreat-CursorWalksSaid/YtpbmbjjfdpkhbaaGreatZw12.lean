/- part of the proof -/
import Derived.Test.YtpbmbjjfdpkhbaaGreatZw8
import Derived.Test.YtpbmbjjfdpkhbaaGreatZw6
import Derived.Test.YtpbmbjjfdpkhbaaGreatZw11
import Derived.Test.YtpbmbjjfdpkhbaaGreatZw2
import Derived.Deep.MidRow
namespace Go.Proofs.YtpbmbjjfdpkhbaaGreat
open Go Go.RowKit
set_option linter.all false
set_option maxRecDepth 100000
set_option maxHeartbeats 32000000
open Go.Proofs.Tryz
open And renaming intro->KW
open Below renaming refl->KR
open Bool renaming and_eq_true->Lm,false_ne_true->KP
open Go renaming all_oneCell_toArray->Ld,bodyPost_ret->KV,wpOp_step->KT
open Go.IntWalk renaming i64_in->KU
open Go.Lib renaming hid->KO
open Go.World renaming size_alloc->KX
open List renaming all_eq_true->MC,ext_getElem?->Ni,getElem?_eq_none->Mg,range->Lt
open Nat renaming add_mul->ML,le_refl->KS,le_succ->Mm,le_trans->KY,log2->Lx,mul_assoc->Mc,mul_comm->LQ,mul_le_mul->MH,mul_le_mul_right->LH,one_mul->Mo,pow_le_pow_right->Lj,pow_succ->MO,two_pow_pos->MJ,zero_le->K8
open Option.some renaming inj->KQ
structure Td where
 max:Int
 many:Nat
abbrev Td.row (t:Td):Array Value:=#[.int .i64 t.max,.int .i64 ((t.many:Nat):Int)]
def jl (a b:Td):Td:=if 0< b.many then⟨b.max,a.many+b.many⟩else a
def lastT (L:List Pr):Td:=match L.getLast? with
 |none=>⟨0,0⟩
 |some p=>⟨p.key,L.length⟩
def dI (s:Ss) (k:Nat):Td:=lastT (ma s (k*s.seg.toNat) s.seg.toNat)
theorem yA (s:Ss) (k:Nat):(dI s k).many<=s.seg.toNat:=by
 unfold dI lastT
 split
 ·exact K8 _
 ·dsimp only
  rw[qL,dU]
  exact eZ _ _ _
theorem Ah (a b:Td) (w:World) (ha:a.many<=100000) (hb:b.many<=100000):Calls prog 243 #[.agg a.row,.agg b.row] w fun r w'=>r= .returned (.agg (jl a b).row)/\Below w.heap.size w w':=by
 obtain⟨ax,am⟩:=a
 obtain⟨bx,bm⟩:=b
 dsimp only at ha hb
 unfold jl
 dsimp only
 have hbl:∀x y:Value,Below w.heap.size w (((w.alloc (.cells #[.int .i64 ax,.int .i64 (am:Nat)] 281)).alloc (.cells #[.int .i64 bx,.int .i64 (bm:Nat)] 281)).alloc (.cells #[x,y] 281)):=fun x y=>(((KR _ _).alloc (KS _) _).alloc (by simp) _).alloc (by simp;omega) _
 have HBL:=KO hbl
 clear hbl
 by_cases hz:0< bm
 ·rw[if_pos hz]
  have i1:(0:Int)< (bm:Int):=by omega
  have hw:IntKind.i64.wrap ((am:Int)+(bm:Int))=((am+bm:Nat):Int):=by rw[KU _ (by omega)];omega
  obtain⟨S,hS⟩:∃S,am+bm=S:=⟨_,rfl⟩
  rw[hS]at hw ⊢
  clear hS ha hb
  go_enter func243,ntmps243
  go_wp2_with fail
  refine KV (v:= .agg #[.int .i64 bx,.int .i64 (S:Nat)]) (by simp[results,results243,go_sem]) rfl ?_
  exact⟨rfl,HBL.out _ _⟩
 ·rw[if_neg hz]
  have i1:¬(0:Int)< (bm:Int):=by omega
  clear ha hb
  go_enter func243,ntmps243
  go_wp2_with fail
  refine KV (v:= .agg #[.int .i64 ax,.int .i64 (am:Nat)]) (by simp[results,results243,go_sem]) rfl ?_
  exact⟨rfl,HBL.out _ _⟩
theorem yU (a b:Td) (w:World) (ha:a.many<=100000) (hb:b.many<=100000):Calls prog 158 #[.agg a.row,.agg b.row] w fun r w'=>r= .returned (.agg (jl a b).row)/\Below w.heap.size w w':=by
 obtain⟨ax,am⟩:=a
 obtain⟨bx,bm⟩:=b
 dsimp only at ha hb
 unfold jl
 dsimp only
 have hbl:∀x y:Value,Below w.heap.size w (((w.alloc (.cells #[.int .i64 ax,.int .i64 (am:Nat)] 193)).alloc (.cells #[.int .i64 bx,.int .i64 (bm:Nat)] 193)).alloc (.cells #[x,y] 193)):=fun x y=>(((KR _ _).alloc (KS _) _).alloc (by simp) _).alloc (by simp;omega) _
 have HBL:=KO hbl
 clear hbl
 by_cases hz:0< bm
 ·rw[if_pos hz]
  have i1:(0:Int)< (bm:Int):=by omega
  have hw:IntKind.i64.wrap ((am:Int)+(bm:Int))=((am+bm:Nat):Int):=by rw[KU _ (by omega)];omega
  obtain⟨S,hS⟩:∃S,am+bm=S:=⟨_,rfl⟩
  rw[hS]at hw ⊢
  clear hS ha hb
  go_enter func158,ntmps158
  go_wp2_with fail
  refine KV (v:= .agg #[.int .i64 bx,.int .i64 (S:Nat)]) (by simp[results,results158,go_sem]) rfl ?_
  exact⟨rfl,HBL.out _ _⟩
 ·rw[if_neg hz]
  have i1:¬(0:Int)< (bm:Int):=by omega
  clear ha hb
  go_enter func158,ntmps158
  go_wp2_with fail
  refine KV (v:= .agg #[.int .i64 ax,.int .i64 (am:Nat)]) (by simp[results,results158,go_sem]) rfl ?_
  exact⟨rfl,HBL.out _ _⟩
theorem Jh {P:Prop} (h:P:=by
 have hsg:=fG hm
 have hle:=yA s k
 unfold dI at hle ⊢
 obtain⟨G,hG⟩:∃G,s.seg.toNat=G:=⟨_,rfl⟩
 rw[hG]at hsg hle ⊢
 have hkD:(k+1)*G<=s.ks.length:=by rw[hsg.kl,LQ G];exact LH _ hk
 have hk2:k*G+G<=s.ks.length:=by rw[ML,Mo]at hkD;exact hkD
 try (have mz:=mk0;clear mz;have hpr:=fun W (h:SsAt W s)=>iC s (k*G) G W h ho hk2)
 try (have mz:=mk0;clear mz;rw[if_pos hm,if_pos hm]at hpr)
 try (have mz:=mk1;clear mz;have hpr:=fun W (h:SsAt W s)=>sD s (k*G) G W h ho (dL hm).1 hk2 (by have:=(dL hm).2.1;omega))
 obtain⟨L,hL⟩:∃L,ma s (k*G) G=L:=⟨_,rfl⟩
 have hLl:L.length<=300:=by rw[<-hL,qL,dU];have:=eZ s.ws G (k*G);have:=ho.kl;omega
 rw[hL]at hpr hle ⊢
 obtain⟨V,hV⟩:∃V,lastT L=V:=⟨_,rfl⟩
 rw[hV]
 have HV:=KO hV
 obtain⟨F,hF⟩:∃F,k*G=F:=⟨_,rfl⟩
 obtain⟨T,hT⟩:∃T,F+G=T:=⟨_,rfl⟩
 rw[hF,hT]at hpr
 have hkl:=ho.kl
 have y1:=jF k G F hF (by omega)
 have y2:=jF (k+1) G T (by rw[ML,Mo,hF,hT]) (by rw[ML,Mo,hF,hT]at hkD;omega)
 have hw1:=aU k (by have:=ho.cl;omega)
 obtain⟨k1,hk1⟩:∃x,k+1=x:=⟨_,rfl⟩
 rw[hk1]at y2 hw1
 have hw1b:IntKind.i64.wrap ((k:Int)+1)=(k1:Int):=by rw[KU _ (by have:=ho.cl;omega)];omega
 have HPR:=KO hpr
 have HLL:=KO hLl
 have y3:∀[Inhabited Nat],IntKind.i64.wrap ((k:Int)*(G:Int))=(F:Int):=y1.1
 have y5:∀[Inhabited Nat],IntKind.i64.wrap ((k1:Int)*(G:Int))=(T:Int):=y2.1
 have y4:∀[Inhabited Nat],wrap64 ((k:Int)*(G:Int))=(F:Int):=y1.2
 have y6:∀[Inhabited Nat],wrap64 ((k1:Int)*(G:Int))=(T:Int):=y2.2
 have y7:∀[Inhabited Nat],IntKind.i64.wrap ((k:Int)+1)=(k1:Int):=hw1b
 have y8:∀[Inhabited Nat],wrap64 ((k:Int)+1)=(k1:Int):=hw1
 first|(have mz:=mk0;clear mz;obtain⟨W0,hW0⟩:∃W,(w.alloc (.cells s.row 29)).alloc (.cells #[.int .i64 0,.int .i64 0] 281)=W:=⟨_,rfl⟩)|(have mz:=mk1;clear mz;obtain⟨W0,hW0⟩:∃W,(w.alloc (.cells s.row 29)).alloc (.cells #[.int .i64 0,.int .i64 0] 193)=W:=⟨_,rfl⟩)
 have hb0:Below w.heap.size w W0:=by rw[<-hW0];exact((KR _ _).alloc (KS _) _).alloc (by simp) _
 have b0:Blk W0 w.heap.size 29 s.row:=by rw[<-hW0];exact(Blk.new _ _ _).alloc _
 first
  |have mz:=mk0
   clear mz
   have bt:Blk W0 (w.heap.size+1) 281 #[.int .i64 0,.int .i64 0]:=by
    rw[<-hW0]
    have:=Blk.new (w.alloc (.cells s.row 29)) 281 #[.int .i64 0,.int .i64 0]
    rwa [KX]at this
  |have mz:=mk1
   clear mz
   have bt:Blk W0 (w.heap.size+1) 193 #[.int .i64 0,.int .i64 0]:=by
    rw[<-hW0]
    have:=Blk.new (w.alloc (.cells s.row 29)) 193 #[.int .i64 0,.int .i64 0]
    rwa [KX]at this
 have HW0:=KO hW0
 have HB0:=KO hb0
 have HT0:=KO bt
 have HS0:=KO (hs.below hb0)
 have hsi:=hsg.seg
 clear y1 y2 hw1 hw1b hk1 hF hT hL hV hpr hLl hkD hk2 hsg hG hle hW0 hb0 bt hs ho hm hk hkl
 obtain⟨i0,q0,q1,q2,q3,q4,q5⟩:=EC b0
 rw[hsi]at q0
 have HSI:=KO hsi
 clear b0 hsi
 first|go_enter func242,ntmps242|go_enter func157,ntmps157
 go_upto_region 1 with fail
 rw[HW0.out]
 go_wp2_with fail
 have hpr:=HPR.out W0 HS0.out
 rw[show(Value.agg s.row)= .agg #[.int .i64 (G:Int),.slice s.wA s.ws.length s.wc,.slice s.kA s.ks.length s.kc,.slice s.vA s.vs.length s.vc,.slice s.cA s.cs.length s.cc,.int .u64 s.laid]by rw[<-HSI.out]]at hpr
 refine hpr.mono ?_
 clear hpr y3 y4 y5 y6 y7 y8
 rintro e w1 ⟨A1,c1,rfl,ho1,hb1⟩
 have HSL:=KO (aA ho1)
 have HB1:=KO (aa HB0.out hb1)
 have kt:=HT0.out.below hb1 HT0.out.lt
 have t0:w1.cell? ⟨w.heap.size+1,0,none⟩=some (.int .i64 0):=kt.cell 0
 have t1:w1.cell? ⟨w.heap.size+1,1,none⟩=some (.int .i64 0):=kt.cell 1
 have u0:=kt.frozen 0
 have u1:=kt.frozen 1
 have ul:=kt.lt
 clear ho1 hb1 kt q0 q1 q2 q3 q4 q5 i0
 have hbw:∀x y:Value,Below w.heap.size w ((w1.setCell ⟨w.heap.size+1,0,none⟩ x).setCell ⟨w.heap.size+1,1,none⟩ y):=fun x y=>(HB1.out.setCell (p:=⟨w.heap.size+1,0,none⟩) (Mm _) x).setCell (p:=⟨w.heap.size+1,1,none⟩) (Mm _) y
 have HBW:=KO hbw
 clear hbw
 rcases List.eq_nil_or_concat L with hn|⟨L0,p,hn⟩
 ·subst hn
  simp only[List.length_nil]
  go_wp2_with fail
  first|refine KV (v:= .agg #[.int .i64 0,.int .i64 0]) (by simp[results,results242,go_sem,t0,t1,u0,u1,ul]) rfl ?_|refine KV (v:= .agg #[.int .i64 0,.int .i64 0]) (by simp[results,results157,go_sem,t0,t1,u0,u1,ul]) rfl ?_
  exact⟨by rw[<-HV.out];rfl,HBW.out _ _⟩
 ·rw[List.concat_eq_append]at hn
  have hlen:L.length=L0.length+1:=by rw[hn];simp
  have hgl:lastT L=⟨p.key,L.length⟩:=by unfold lastT;rw[hn];simp
  obtain⟨b1,o1,e1,hbl,d0,d1⟩:=HSL.out.pr L0.length (by omega)
  have hlp:L[L0.length]'(by omega)=p:=by simp only[hn];simp
  rw[hlp]at d0
  subst e1
  obtain⟨m,hm⟩:∃m,L.length=m:=⟨_,rfl⟩
  obtain⟨n,hn2⟩:∃m,L0.length=m:=⟨_,rfl⟩
  have hml:=HLL.out
  rw[hm]at hlen hml hgl ⊢
  rw[hn2]at hlen d0
  have HGL:=KO hgl
  have i1:¬(m:Int)=0:=by omega
  have i2:(0:Int)<=(n:Int):=by omega
  have i3:(n:Int)< (m:Int):=by omega
  have hwm:IntKind.i64.wrap ((m:Int)-1)=(n:Int):=by rw[KU _ (by omega)];omega
  clear hlen hgl d1 hbl hm hn2 hml hlp hn
  go_wp2_with fail
  first|refine KV (v:= .agg #[.int .i64 p.key,.int .i64 (m:Nat)]) (by simp[results,results242,go_sem,t0,t1,u0,u1,ul]) rfl ?_|refine KV (v:= .agg #[.int .i64 p.key,.int .i64 (m:Nat)]) (by simp[results,results157,go_sem,t0,t1,u0,u1,ul]) rfl ?_
  exact⟨by rw[<-HV.out,HGL.out],HBW.out _ _⟩):P:=h
theorem CU (s:Ss) (k:Nat) (w:World) (hs:SsAt w s) (ho:SsOk s) (hm:bF s=true) (hk:k< s.cs.length):Calls prog 242 #[.agg s.row,.int .i64 (k:Nat)] w fun r w'=>r= .returned (.agg (dI s k).row)/\Below w.heap.size w w':=by
 have mk0:=()
 exact Jh
theorem Bd (s:Ss) (k:Nat) (w:World) (hs:SsAt w s) (ho:SsOk s) (hm:bF s=true) (hk:k< s.cs.length):Calls prog 157 #[.agg s.row,.int .i64 (k:Nat)] w fun r w'=>r= .returned (.agg (dI s k).row)/\Below w.heap.size w w':=by
 have mk1:=()
 exact Jh
def zL (t:Nat->Td) (pl:Nat->Nat) (n:Nat):List Value:=[.int .i64 (t n).max,.int .i64 (((t n).many:Nat):Int),.int .i64 ((pl n:Nat):Int)]
def wM (N:Nat) (t:Nat->Td) (pl:Nat->Nat):List Value:=(Lt (N+1)).flatMap (zL t pl)
theorem ja (N:Nat) (t:Nat->Td) (pl:Nat->Nat):(wM N t pl).length=(N+1)*3:=by
 have:=aQ (zL t pl) 3 (fun _=>rfl) (Lt (N+1))
 rw[List.length_range]at this
 exact this
theorem lq (N:Nat) (t:Nat->Td) (pl:Nat->Nat) (n j:Nat) (hn:n<=N) (hj:j< 3):(wM N t pl)[n*3+j]?=(zL t pl n)[j]?:=by
 have h:=flat_get (zL t pl) 3 (fun _=>rfl) (Lt (N+1)) n j (by rw[List.length_range];omega) hj
 rw[List.getElem_range]at h
 exact h
theorem Ck {N:Nat} {l:List Value} {t:Nat->Td} {pl:Nat->Nat} (hl:l.length=(N+1)*3) (h:∀n j,n<=N->j< 3->l[n*3+j]?=(zL t pl n)[j]?):l=wM N t pl:=by
 apply Ni
 intro i
 by_cases hi:i< (N+1)*3
 ·have e:i=i/3*3+i %3:=by omega
  rw[e,h _ _ (by omega) (by omega),lq _ _ _ _ _ (by omega) (by omega)]
 ·rw[Mg (by omega),Mg (by rw[ja];omega)]
def FD (pl:Nat->Nat) (n p:Nat) (m:Nat):Nat:=if m=n then p else pl m
def Hg (t:Nat->Td) (n:Nat) (v:Td) (m:Nat):Td:=if m=n then v else t m
theorem Gc (N:Nat) (t:Nat->Td) (pl:Nat->Nat) (n p:Nat):(wM N t pl).set (n*3+2) (.int .i64 (p:Nat))=wM N t (FD pl n p):=by
 refine Ck (by rw[List.length_set,ja]) fun m j hm hj=>?_
 rw[List.getElem?_set,ja,lq _ _ _ _ _ hm hj]
 by_cases h:n*3+2=m*3+j
 ·obtain⟨rfl,rfl⟩:n=m/\j=2:=by omega
  rw[if_pos rfl,if_pos (by omega)]
  simp[zL,FD]
 ·rw[if_neg h]
  unfold zL FD
  by_cases hmn:m=n
  ·subst hmn
   have hj2:j=0∨j=1:=by omega
   rcases hj2 with rfl|rfl <;> rfl
  ·rw[if_neg hmn]
theorem EP (N:Nat) (t:Nat->Td) (pl:Nat->Nat) (n:Nat) (v:Td):((wM N t pl).set (n*3) (.int .i64 v.max)).set (n*3+1) (.int .i64 ((v.many:Nat):Int))=wM N (Hg t n v) pl:=by
 refine Ck (by rw[List.length_set,List.length_set,ja]) fun m j hm hj=>?_
 rw[List.getElem?_set,List.getElem?_set,List.length_set,ja,lq _ _ _ _ _ hm hj]
 unfold zL Hg
 by_cases hmn:m=n
 ·subst hmn
  rw[if_pos rfl]
  match j,hj with
  |0,_=>rw[if_neg (by omega),if_pos (by omega),if_pos (by omega)];rfl
  |1,_=>rw[if_pos (by omega),if_pos (by omega)];rfl
  |2,_=>rw[if_neg (by omega),if_neg (by omega)];rfl
 ·rw[if_neg hmn,if_neg (by omega),if_neg (by omega)]
def cz (lv k m:Nat):Nat:=if 1<=m/\m<=k then(gV lv).getD (m-1) 0 else 0
theorem yH (lv k:Nat):FD (cz lv k) (k+1) ((gV lv).getD k 0)=cz lv (k+1):=by
 funext m
 unfold FD cz
 by_cases h:m=k+1
 ·subst h;rw[if_pos rfl,if_pos (by omega)];rfl
 ·rw[if_neg h]
  by_cases h2:1<=m/\m<=k
  ·rw[if_pos h2,if_pos (by omega)]
  ·rw[if_neg h2,if_neg (by omega)]
def noT (_:Nat):Td:=⟨0,0⟩
theorem Ex:(prog.info? 284).map (fun i=>(i.zero,i.size,i.bytes))=some (some (.agg #[.int .i64 0,.int .i64 0,.int .i64 0]),3,24):=by kernel_rfl
theorem BN (lv N:Nat):madeCells #[Value.int .i64 0,.int .i64 0,.int .i64 0] ((N+1)*3)=(wM N noT (cz lv 0)).toArray:=by
 apply Array.ext
 ·simp[madeCells,ja]
 ·intro i h1 h2
  have h3:i< (N+1)*3:=by simpa[madeCells]using h1
  have e:i=i/3*3+i %3:=by omega
  have hg:=lq N noT (cz lv 0) (i/3) (i %3) (by omega) (by omega)
  rw[<-e]at hg
  have h4:(wM N noT (cz lv 0)).toArray[i]?=some ((wM N noT (cz lv 0)).toArray[i]):=Array.getElem?_eq_getElem h2
  rw[List.getElem?_toArray,hg]at h4
  have h5:cz lv 0 (i/3)=0:=by unfold cz;rw[if_neg (by omega)]
  have hr:i %3=0∨i %3=1∨i %3=2:=by omega
  simp only[madeCells,Array.getElem_map,Array.getElem_range]
  rcases hr with hr|hr|hr <;> rw[hr]at h4 <;> simp[zL,noT,h5]at h4 <;> simp only[List.getElem_toArray] <;> rw[<-h4] <;> simp[hr]
theorem jB {P:Prop} (h:P:=by
  iterate 9 apply Exists.intro
  refine⟨rfl,?_,?_,?_,?_,?_,?_,?_,?_,?_,?_,?_,?_,?_,?_,?_,?_,?_,?_⟩
  ·first|exact F0.out|exact fun _=>rfl
  ·first|exact F1.out|exact fun _=>rfl
  ·first|exact F2.out|exact fun _=>rfl
  ·first|exact F3.out|exact fun _=>rfl
  ·first|exact F4.out|exact fun _=>rfl
  ·first|exact F5.out|exact fun _=>rfl
  ·first|exact F6.out|exact fun _=>rfl
  ·first|exact F7.out|exact fun _=>rfl
  ·first|exact F8.out|exact fun _=>rfl
  ·exact fun _=>trivial
  ·first|(intro h;have hh:=C4.out (by simpa using h);simp[hh];done)|(intro _;simp[hl3];done)
  ·first|(intro h;have hh:=C5.out (by simpa using h);simp[hh];done)|(intro _;simp[hl2,hl4];done)
  ·first|(intro h;have hh:=C6.out (by simpa using h);simp[hh];done)|(intro _;simp[hl5];done)
  ·first|(intro h;have hh:=C7.out (by simpa using h);simp[hh];done)|(intro _;simp[hl0,hl1];done)
  ·first|(intro h;have hh:=C8.out (by simpa using h);simp[hh];done)|(intro _;simp[hl7];done)
  ·first|(intro h;have hh:=C9.out (by simpa using h);simp[hh];done)|(intro _;simp[hl8,hl6];done)
  ·first|exact S8.out|exact fun _=>rfl|(intro h;refine absurd h ?_;simp;done;done)
  ·first|exact S9.out|exact fun _=>rfl):P:=h
theorem IV (n1 k N M c p B1 B2 gn bA oA:Nat) (w:World) (cs:Array Value) (hn:k+1=n1) (hk:k< N) (hM:N+1=M) (hN:N<=1000)
  (h1:w.cell? ⟨B1,0,none⟩=some (.slice (some ⟨bA,oA,none⟩) N c)) (h2:w.cell? ⟨B2,0,none⟩=some (.slice (some ⟨gn,0,none⟩) M M)) (h3:w.cell? ⟨bA,oA+k,none⟩=some (.int .i64 (p:Nat))) (hb:Blk w gn 284 cs) (hcs:cs.size=M*3):
  Calls prog 245 #[.int .i64 (n1:Nat),.pointer (some ⟨B1,0,none⟩),.pointer (some ⟨B2,0,none⟩)] w fun r w'=>(∃v,r= .returned v)/\w'=w.drew.setCell ⟨gn,n1*3+2,none⟩ (.int .i64 (p:Nat)):=by
 have hw:IntKind.i64.wrap ((n1:Int)-1)=(k:Int):=by rw[KU _ (by omega)];omega
 have i1:(0:Int)<=(k:Int):=by omega
 have i2:(k:Int)< (N:Int):=by omega
 have i3:(0:Int)<=(n1:Int):=by omega
 have i4:(n1:Int)< (M:Int):=by omega
 obtain⟨vx,hvx⟩:∃v,w.cell? ⟨gn,n1*3+2,none⟩=some v:=⟨_,(hb.cell _).trans (Array.getElem?_eq_getElem (show n1*3+2< cs.size by omega))⟩
 have hfx:w.frozen? ⟨gn,n1*3+2,none⟩=false:=hb.frozen _
 clear hn hk hM hN hb hcs
 go_enter func245,ntmps245
 go_upto_region 0 with fail
 refine aH (by kernel_rfl) (by kernel_rfl) (fun L a W=>∃(t4 t5 t6 t7 t8 t9 t10 t11 t12:Value),a=⟨#[.int .i64 (n1:Nat),.pointer (some ⟨B1,0,none⟩),.pointer (some ⟨B2,0,none⟩),undef,t4,t5,t6,t7,t8,t9,t10,t11,t12],[]⟩/\(L 0=true->t4= .slice (some ⟨gn,0,none⟩) M M)/\(L 1=true->t5= .int .i64 (n1:Nat))/\(L 2=true->t6= .slice (some ⟨bA,oA,none⟩) N c)/\(L 3=true->t7= .int .i64 (n1:Nat))/\(L 4=true->t8= .int .i64 (k:Nat))/\(L 5=true->t9= .pointer (some ⟨bA,oA+k,none⟩))/\(L 6=true->t10= .int .i64 (p:Nat))/\(L 7=true->t11= .pointer (some ⟨gn,n1*3,none⟩))/\(L 8=true->t12= .pointer (some ⟨gn,n1*3+2,none⟩))/\(L 9=true->True)/\(L 4=true->L 3=true)/\(L 5=true->L 2=true/\L 4=true)/\(L 6=true->L 5=true)/\(L 7=true->L 0=true/\L 1=true)/\(L 8=true->L 7=true)/\(L 9=true->L 8=true/\L 6=true)/\(L 9=false->W=w.drew)/\(L 9=true->W=w.drew.setCell ⟨gn,n1*3+2,none⟩ (.int .i64 (p:Nat)))) ?h0 ?hstep ?hend
 case h0=>exact⟨undef,undef,undef,undef,undef,undef,undef,undef,undef,rfl,fun h=>absurd h KP,fun h=>absurd h KP,fun h=>absurd h KP,fun h=>absurd h KP,fun h=>absurd h KP,fun h=>absurd h KP,fun h=>absurd h KP,fun h=>absurd h KP,fun h=>absurd h KP,fun h=>absurd h KP,fun h=>absurd h KP,fun h=>absurd h KP,fun h=>absurd h KP,fun h=>absurd h KP,fun h=>absurd h KP,fun h=>absurd h KP,fun _=>rfl,fun h=>absurd h KP⟩
 case hend=>
  rintro L a W hall ⟨t4,t5,t6,t7,t8,t9,t10,t11,t12,rfl,f0,f1,f2,f3,f4,f5,f6,f7,f8,f9,c4,c5,c6,c7,c8,c9,s8,s9⟩
  obtain rfl:=f0 (hall 0 (by decide))
  obtain rfl:=f1 (hall 1 (by decide))
  obtain rfl:=f2 (hall 2 (by decide))
  obtain rfl:=f3 (hall 3 (by decide))
  obtain rfl:=f4 (hall 4 (by decide))
  obtain rfl:=f5 (hall 5 (by decide))
  obtain rfl:=f6 (hall 6 (by decide))
  obtain rfl:=f7 (hall 7 (by decide))
  obtain rfl:=f8 (hall 8 (by decide))
  have hst:=s9 (hall 9 (by decide))
  clear hall f0 f1 f2 f3 f4 f5 f6 f7 f8 f9 c4 c5 c6 c7 c8 c9 s8 s9
  subst hst
  clear hvx hfx
  go_wp2_with fail
  first|refine KV (results_none rfl _ _ _) rfl ?_|refine bodyPost_end (results_none rfl _ _ _) rfl ?_
  exact⟨⟨_,rfl⟩,rfl⟩
 case hstep=>
  rintro L a W i o ho hLi hdep ⟨t4,t5,t6,t7,t8,t9,t10,t11,t12,rfl,f0,f1,f2,f3,f4,f5,f6,f7,f8,f9,c4,c5,c6,c7,c8,c9,s8,s9⟩
  have F0:=KO f0
  have F1:=KO f1
  have F2:=KO f2
  have F3:=KO f3
  have F4:=KO f4
  have F5:=KO f5
  have F6:=KO f6
  have F7:=KO f7
  have F8:=KO f8
  have F9:=KO f9
  have C4:=KO c4
  have C5:=KO c5
  have C6:=KO c6
  have C7:=KO c7
  have C8:=KO c8
  have C9:=KO c9
  have S8:=KO s8
  have S9:=KO s9
  clear f0 f1 f2 f3 f4 f5 f6 f7 f8 f9 c4 c5 c6 c7 c8 c9 s8 s9
  have HLi:=KO hLi
  clear hLi
  match i,ho with
  |0,ho=>
   obtain rfl:=KQ ho
   clear hdep
   have hm0:L 9=false:=by
    cases h:L 9 with
    |false=>rfl
    |true=>exact absurd ((C7.out (C8.out (C9.out h).1)).1) (by rw[HLi.out];exact KP)
   have hW:=S8.out hm0
   subst hW
   refine KT rfl (fun K1 hK1=>?_)
   have hK:=KO hK1
   clear hK1
   go_wp2_with fail
   refine hK.out _ _ ?_;exact jB
  |1,ho=>
   obtain rfl:=KQ ho
   clear hdep
   refine KT rfl (fun K1 hK1=>?_)
   have hK:=KO hK1
   clear hK1
   go_wp2_with fail
   refine hK.out _ _ ?_;exact jB
  |2,ho=>
   obtain rfl:=KQ ho
   clear hdep
   have hm0:L 9=false:=by
    cases h:L 9 with
    |false=>rfl
    |true=>exact absurd ((C5.out (C6.out (C9.out h).2)).1) (by rw[HLi.out];exact KP)
   have hW:=S8.out hm0
   subst hW
   refine KT rfl (fun K1 hK1=>?_)
   have hK:=KO hK1
   clear hK1
   go_wp2_with fail
   refine hK.out _ _ ?_;exact jB
  |3,ho=>
   obtain rfl:=KQ ho
   clear hdep
   refine KT rfl (fun K1 hK1=>?_)
   have hK:=KO hK1
   clear hK1
   go_wp2_with fail
   refine hK.out _ _ ?_;exact jB
  |4,ho=>
   obtain rfl:=KQ ho
   have hl3:=hdep ⟨3,.data⟩ (by simp) rfl
   obtain rfl:=F3.out hl3
   clear hdep
   refine KT rfl (fun K1 hK1=>?_)
   have hK:=KO hK1
   clear hK1
   go_wp2_with fail
   refine hK.out _ _ ?_;exact jB
  |5,ho=>
   obtain rfl:=KQ ho
   have hl2:=hdep ⟨2,.data⟩ (by simp) rfl
   obtain rfl:=F2.out hl2
   have hl4:=hdep ⟨4,.data⟩ (by simp) rfl
   obtain rfl:=F4.out hl4
   clear hdep
   refine KT rfl (fun K1 hK1=>?_)
   have hK:=KO hK1
   clear hK1
   go_wp2_with fail
   refine hK.out _ _ ?_;exact jB
  |6,ho=>
   obtain rfl:=KQ ho
   have hl5:=hdep ⟨5,.data⟩ (by simp) rfl
   obtain rfl:=F5.out hl5
   clear hdep
   have hm0:L 9=false:=by
    cases h:L 9 with
    |false=>rfl
    |true=>exact absurd ((C9.out h).2) (by rw[HLi.out];exact KP)
   have hW:=S8.out hm0
   subst hW
   refine KT rfl (fun K1 hK1=>?_)
   have hK:=KO hK1
   clear hK1
   go_wp2_with fail
   refine hK.out _ _ ?_;exact jB
  |7,ho=>
   obtain rfl:=KQ ho
   have hl0:=hdep ⟨0,.data⟩ (by simp) rfl
   obtain rfl:=F0.out hl0
   have hl1:=hdep ⟨1,.data⟩ (by simp) rfl
   obtain rfl:=F1.out hl1
   clear hdep
   refine KT rfl (fun K1 hK1=>?_)
   have hK:=KO hK1
   clear hK1
   go_wp2_with fail
   refine hK.out _ _ ?_;exact jB
  |8,ho=>
   obtain rfl:=KQ ho
   have hl7:=hdep ⟨7,.data⟩ (by simp) rfl
   obtain rfl:=F7.out hl7
   clear hdep
   refine KT rfl (fun K1 hK1=>?_)
   have hK:=KO hK1
   clear hK1
   go_wp2_with fail
   refine hK.out _ _ ?_;exact jB
  |9,ho=>
   obtain rfl:=KQ ho
   have hl8:=hdep ⟨8,.data⟩ (by simp) rfl
   obtain rfl:=F8.out hl8
   have hl6:=hdep ⟨6,.data⟩ (by simp) rfl
   obtain rfl:=F6.out hl6
   clear hdep
   have hst:=S8.out HLi.out
   refine KT rfl (fun K1 hK1=>?_)
   have hK:=KO hK1
   clear hK1
   subst hst
   go_wp2_with fail
   refine hK.out _ _ ?_;exact jB
theorem Dq (lv N M:Nat) (w:World) (h1:1<=lv) (h7:lv<=7) (hN:2 ^ lv-1=N) (hM:N+1=M):Calls prog 241 #[.int .i64 (lv:Nat)] w fun r w'=>∃gn,r= .returned (.slice (some ⟨gn,0,none⟩) M M)/\Blk w' gn 284 (wM N noT (cz lv N)).toArray/\w.heap.size<=gn/\Below w.heap.size w w':=by
 have HTB:=KO (fun W=>Eo lv N W h1 h7 hN)
 have hp7:=dP h7
 have hp1:2 ^ 1<=2 ^ lv:=Lj (n:=2) (by decide) h1
 have hpl:(gV lv).length=N:=by unfold gV;rw[jW,hN]
 obtain⟨i0,hi,hz0,hz1,hz2⟩:=info_parts Ex
 have hmk:=fun W=>aW (P:=prog) 278 284 i0 _ underlying278 hi hz0 M (by rw[hz2];omega) (by omega) W
 rw[hz1]at hmk
 have hN9:1<=N/\N<=127:=by omega
 have HN:=KO (KW hN9 (KW hM hpl))
 have hw1:IntKind.i64.wrap ((N:Int)+1)=(M:Int):=by rw[KU _ (by omega)];omega
 clear h1 h7 hN hM hp7 hp1 hpl hi hz0 hz1 hz2 hN9
 go_enter func241,ntmps241
 go_wp2_with fail
 refine(HTB.out _).mono ?_
 rintro e w1 ⟨A,c,rfl,ho,hb1⟩
 obtain⟨bA,oA,e1,hbl,-⟩:=(aA ho).one 0 (by rw[HN.out.2.2];have:=HN.out.1;omega)
 subst e1
 have HSL:=KO (aA ho)
 have HB1:=KO hb1
 have HBL:=KO hbl
 clear ho hb1 hbl
 go_wp2_with fail
 obtain⟨W0,hW0⟩:∃W,((w1.alloc (.cells #[.slice (some ⟨bA,oA,none⟩) N c] 27)).alloc (.cells (madeCells #[.int .i64 0,.int .i64 0,.int .i64 0] (M*3)) 284)).alloc (.cells #[.slice (some ⟨w1.heap.size+1,0,none⟩) M M] 278)=W:=⟨_,rfl⟩
 have hb0:Below w1.heap.size w1 W0:=by rw[<-hW0];exact(((KR _ _).alloc (KS _) _).alloc (by simp) _).alloc (by simp;omega) _
 have k1:Blk W0 w1.heap.size 27 #[.slice (some ⟨bA,oA,none⟩) N c]:=by rw[<-hW0];exact((Blk.new _ _ _).alloc _).alloc _
 have k2:Blk W0 (w1.heap.size+1) 284 (wM N noT (cz lv 0)).toArray:=by
  rw[<-hW0]
  have:=Blk.new (w1.alloc (.cells #[.slice (some ⟨bA,oA,none⟩) N c] 27)) 284 (madeCells #[.int .i64 0,.int .i64 0,.int .i64 0] (M*3))
  rw[KX]at this
  rw[<-HN.out.2.1,BN lv N]at this
  rw[<-HN.out.2.1,BN lv N]
  exact this.alloc _
 have k3:Blk W0 (w1.heap.size+1+1) 278 #[.slice (some ⟨w1.heap.size+1,0,none⟩) M M]:=by
  rw[<-hW0]
  have:=Blk.new ((w1.alloc (.cells #[.slice (some ⟨bA,oA,none⟩) N c] 27)).alloc (.cells (madeCells #[.int .i64 0,.int .i64 0,.int .i64 0] (M*3)) 284)) 278 #[.slice (some ⟨w1.heap.size+1,0,none⟩) M M]
  rwa [KX,KX]at this
 try rw[hW0]
 obtain⟨g,hg⟩:∃g,w1.heap.size=g:=⟨_,rfl⟩
 have hgw:w.heap.size<=g:=by rw[<-hg];exact HB1.out.size
 have hbg:bA< g:=by rw[<-hg];exact HBL.out
 rw[hg]at k1 k2 k3
 try rw[hg]
 have HK0:=KO (KW k1 (KW k2 k3))
 have HG:=KO (KW hg (KW hgw hbg))
 have HB2:=KO hb0
 have c1:W0.cell? ⟨g,0,none⟩=some (.slice (some ⟨bA,oA,none⟩) N c):=k1.cell 0
 clear hW0 hb0 k1 k2 k3 hg hgw hbg hw1
 go_wp2_with fail
 go_loopw [20] (fun e W=>∃k:Nat,k<=N/\e= .int .i64 k/\Hid (Blk W (g+1) 284 (wM N noT (cz lv k)).toArray)/\Hid (Mod (fun b=>b=g+1) W0 W)) (fun e _=>N-(intOf e).toNat)
 case atStart=>exact⟨0,K8 _,rfl,HK0.out.2.1,Mod.refl _ _⟩
 case round=>
  obtain⟨k,hk,rfl,hbk,hmd⟩:=hrel
  have k1:=HK0.out.1.mod hmd.out (by omega)
  have k3:=HK0.out.2.2.mod hmd.out (by omega)
  by_cases hlt:k< N
  ·have i1:(k:Int)< (N:Int):=by omega
   have hkl:k< (gV lv).length:=by rw[HN.out.2.2];exact hlt
   obtain⟨b2,o2,e2,hbl2,d2⟩:=HSL.out.one k hkl
   cases e2
   have d3:wr.cell? ⟨bA,oA+k,none⟩=some (.int .i64 (((gV lv).getD k 0:Nat):Int)):=by
    have h1:=HB2.out.cell (p:=⟨bA,oA+k,none⟩) hbl2
    have h2:=hmd.out.cell (p:=⟨bA,oA+k,none⟩) (Nat.lt_of_lt_of_le hbl2 HB2.out.size) (by show bA≠g+1;have:=HG.out.2.2;omega)
    rw[h2,h1,d2,List.getD_eq_getElem?_getD,List.getElem?_eq_getElem hkl];rfl
   have hst:=yH lv k
   obtain⟨p,hp⟩:∃p,(gV lv).getD k 0=p:=⟨_,rfl⟩
   rw[hp]at d3 hst
   have hse:=Gc N noT (cz lv k) (k+1) p
   rw[hst]at hse
   obtain⟨n1,hn1⟩:∃x,k+1=x:=⟨_,rfl⟩
   have HPU:=KO (IV n1 k N M c p g (g+1+1) (g+1) bA oA wr _ hn1 hlt HN.out.2.1 (by have:=HN.out.1;omega) (k1.cell 0) (k3.cell 0) d3 hbk.out (by simp[ja];have:=HN.out.2.1;omega))
   have HSE:=KO hse
   have HN1:=KO hn1
   have hw3:=aU k (by have:=HN.out.1;omega)
   have hw4:IntKind.i64.wrap ((k:Int)+1)=(n1:Int):=by rw[KU _ (by have:=HN.out.1;omega)];omega
   have HW3:=KO hw3
   have HLT:=KO hlt
   clear hst hse hp d2 d3 hkl hbl2 hn1 hlt hw3 k1 k3
   go_wp2_with fail
   refine HPU.out.mono ?_
   rintro e w2 ⟨⟨v,rfl⟩,hw2⟩
   subst hw2
   have hq:Blk (wr.drew.setCell ⟨g+1,n1*3+2,none⟩ (.int .i64 (p:Nat))) (g+1) 284 (wM N noT (cz lv n1)).toArray:=by
    have h1:Blk wr.drew (g+1) 284 (wM N noT (cz lv k)).toArray:=hbk.out
    have h2:=h1.set_ (n1*3+2) (.int .i64 (p:Nat))
    rw[List.setIfInBounds_toArray,<-HN1.out,HSE.out]at h2
    rw[<-HN1.out]
    exact h2
   have hq2:Mod (fun b=>b=g+1) W0 (wr.drew.setCell ⟨g+1,n1*3+2,none⟩ (.int .i64 (p:Nat))):=hmd.out.drew.setCell (p:=⟨g+1,n1*3+2,none⟩) rfl _
   have HQ:=KO hq
   have HQ2:=KO hq2
   obtain⟨W5,hW5⟩:∃W,wr.drew.setCell ⟨g+1,n1*3+2,none⟩ (.int .i64 (p:Nat))=W:=⟨_,rfl⟩
   rw[hW5]at HQ HQ2
   try rw[hW5]
   clear hq hq2 hW5
   go_wp2_with fail
   go_roundw
   case rel=>exact⟨n1,by have:=HLT.out;have:=HN1.out;omega,by first|rw[HW3.out,HN1.out]|rw[<-HN1.out]|(rw[<-HN1.out];rfl),HQ.out,HQ2.out⟩
   case measure=>first|exact bT _ k HLT.out HW3.out|(have:=HLT.out;have:=HN1.out;simp[intOf];omega)
  ·obtain rfl:k=N:=by omega
   have i1:¬(k:Int)< (k:Int):=by omega
   have c5:wr.cell? ⟨g+1+1,0,none⟩=some (.slice (some ⟨g+1,0,none⟩) M M):=k3.cell 0
   have HBE:=KO (show Below w.heap.size w wr from(aa HB1.out HB2.out).trans (hmd.out.below (aa HB1.out HB2.out).size (fun b hb=>by have hb:b=g+1:=hb;have:=HG.out.2.1;omega)))
   clear hlt hk k1 k3
   go_wp2_with fail
   go_ret
   exact⟨g+1,rfl,hbk.out,by have:=HG.out.2.1;omega,HBE.out⟩
def ik (s:Ss) (F:Nat):Nat->Nat->Td
 |0,n=>dI s (n-F)
 |h+1,n=>jl (ik s F h (2*n)) (ik s F h (2*n+1))
theorem kS (s:Ss) (F:Nat):∀h n,(ik s F h n).many<=2 ^ h*s.seg.toNat
 |0,n=>by rw[Nat.pow_zero,Mo];exact yA s _
 |h+1,n=>by
  have h1:=kS s F h (2*n)
  have h2:=kS s F h (2*n+1)
  rw[ik,MO,LQ (2 ^ h) 2,Mc]
  unfold jl
  split
  ·dsimp only;omega
  ·omega
structure NodeH (F h n:Nat):Prop where
 lo:F<=n*2 ^ h
 hi:(n+1)*2 ^ h<=2*F
theorem NodeH.left {F h n:Nat} (k:NodeH F (h+1) n):NodeH F h (2*n):=by
 have e:2 ^ (h+1)=2*2 ^ h:=by rw[MO,LQ]
 have h1:=k.lo
 have h2:=k.hi
 rw[e,<-Mc]at h1 h2
 refine⟨by rw[LQ 2 n];exact h1,KY (LH _ (by omega)) h2⟩
theorem NodeH.right {F h n:Nat} (k:NodeH F (h+1) n):NodeH F h (2*n+1):=by
 have e:2 ^ (h+1)=2*2 ^ h:=by rw[MO,LQ]
 have h1:=k.lo
 have h2:=k.hi
 rw[e,<-Mc]at h1 h2
 refine⟨KY h1 (LH _ (by omega)),KY (LH _ (by omega)) h2⟩
theorem NodeH.lt {F h n:Nat} (k:NodeH F (h+1) n):n+1<=F:=by
 have e:2 ^ (h+1)=2*2 ^ h:=by rw[MO,LQ]
 have h2:=k.hi
 rw[e]at h2
 have h3:(n+1)*2*1<=(n+1)*2*2 ^ h:=Nat.mul_le_mul_left _ (MJ h)
 rw[Mc (n+1) 2 (2 ^ h)]at h3
 omega
theorem NodeH.le {F n:Nat} (k:NodeH F 0 n):F<=n/\n-F< F:=by
 have h1:=k.lo
 have h2:=k.hi
 rw[Nat.pow_zero,Nat.mul_one]at h1 h2
 omega
theorem Cn:(prog.info? 193).map (·.size)=some 2:=by kernel_rfl
theorem I4 (w:World) (s:Ss):∃W,(w.alloc (.cells s.row 29)).alloc (.cells #[.int .i64 0,.int .i64 0] 193)=W/\Below w.heap.size w W/\Blk W w.heap.size 29 s.row/\Blk W (w.heap.size+1) 193 #[.int .i64 0,.int .i64 0]:=by
 refine⟨_,rfl,((KR _ _).alloc (KS _) _).alloc (by simp) _,(Blk.new _ _ _).alloc _,?_⟩
 have:=Blk.new (w.alloc (.cells s.row 29)) 193 #[.int .i64 0,.int .i64 0]
 rwa [KX]at this
theorem mP {P:Prop} (h:P:=by
  iterate 6 apply Exists.intro
  refine⟨rfl,?_,?_,?_,?_,?_,?_,?_,?_,?_,?_,?_,?_,?_⟩
  ·first|exact aS (Mm _) _ 0 _ HB.out|exact HB.out|exact aa HB.out hb1
  ·first|(intro h;refine absurd h ?_;simp;done;done)|exact fun h=>⟨HG.out,HG1.out⟩|exact fun h=>⟨HG.out.below hb1 HG.out.lt,HG1.out.below hb1 HG1.out.lt⟩
  ·first|exact F0.out|exact fun _=>rfl
  ·first|exact F1.out|exact fun _=>rfl
  ·first|exact F2.out|exact fun _=>rfl
  ·first|exact F3.out|exact fun _=>rfl
  ·first|exact F4.out|exact fun _=>rfl
  ·first|exact F5.out|exact fun _=>rfl
  ·first|exact(fun h=>absurd (show L 6=true by simpa using h) (by rw[hlast];exact KP))|(intro _;simpa[dn]using Blk.setCells (#[.int .i64 (dI s k).max,.int .i64 (((dI s k).many:Nat):Int)]:Array Value).toList 0 _ _ HG1.out;done)
  ·first|(intro h;have hh:=C3.out (by simpa using h);simp[hh];done)|(intro _;simp[hl2];done)
  ·first|(intro h;have hh:=C4.out (by simpa using h);simp[hh];done)|(intro _;simp[hl1,hl3];done)
  ·first|(intro h;have hh:=C5.out (by simpa using h);simp[hh];done)|(intro _;simp[hl0,hl4];done)
  ·first|(intro h;have hh:=C6.out (by simpa using h);simp[hh];done)|(intro _;simp[hl5];done)):P:=h
theorem gu {P:Prop} (h:P:=by
  iterate 12 apply Exists.intro
  refine⟨rfl,?_,?_,?_,?_,?_,?_,?_,?_,?_,?_,?_,?_,?_,?_,?_,?_,?_,?_,?_,?_,?_,?_⟩
  ·first|exact aS (Mm _) _ 0 _ HB.out|exact HB.out|exact aa HB.out hb1
  ·first|(intro h;refine absurd h ?_;simp;done;done)|exact fun h=>⟨HG.out,HG1.out⟩|exact fun h=>⟨HG.out.below hb1 HG.out.lt,HG1.out.below hb1 HG1.out.lt⟩
  ·first|exact F0.out|exact fun _=>rfl
  ·first|exact F1.out|exact fun _=>rfl
  ·first|exact F2.out|exact fun _=>rfl
  ·first|exact F3.out|exact fun _=>rfl
  ·first|exact F4.out|exact fun _=>rfl
  ·first|exact F5.out|exact fun _=>rfl
  ·first|exact F6.out|exact fun _=>rfl
  ·first|exact F7.out|exact fun _=>rfl
  ·first|exact F8.out|exact fun _=>rfl
  ·first|exact F9.out|exact fun _=>rfl
  ·first|exact F10.out|exact fun _=>rfl
  ·first|exact F11.out|exact fun _=>rfl
  ·first|exact(fun h=>absurd (show L 12=true by simpa using h) (by rw[hlast];exact KP))|(intro _;simpa[dn]using Blk.setCells (#[.int .i64 (V).max,.int .i64 (((V).many:Nat):Int)]:Array Value).toList 0 _ _ HG1.out;done)
  ·first|(intro h;have hh:=C3.out (by simpa using h);simp[hh];done)|(intro _;simp[hl2];done)
  ·first|(intro h;have hh:=C4.out (by simpa using h);simp[hh];done)|(intro _;simp[hl0,hl1,hl3];done)
  ·first|(intro h;have hh:=C8.out (by simpa using h);simp[hh];done)|(intro _;simp[hl7];done)
  ·first|(intro h;have hh:=C9.out (by simpa using h);simp[hh];done)|(intro _;simp[hl8];done)
  ·first|(intro h;have hh:=C10.out (by simpa using h);simp[hh];done)|(intro _;simp[hl5,hl6,hl9];done)
  ·first|(intro h;have hh:=C11.out (by simpa using h);simp[hh];done)|(intro _;simp[hl4,hl10];done)
  ·first|(intro h;have hh:=C12.out (by simpa using h);simp[hh];done)|(intro _;simp[hl11];done)):P:=h
theorem Bo (s:Ss) (lv F:Nat) (ho:SsOk s) (hm:bF s=true) (h1:1<=lv) (h7:lv<=7) (hF:2 ^ (lv-1)=F) (hD:s.cs.length=F):∀(h n:Nat) (w:World),SsAt w s->h<=6->NodeH F h n->
  Calls prog 136 #[.agg s.row,.int .i64 (lv:Nat),.int .i64 (n:Nat)] w fun r w'=>r= .returned (.agg (ik s F h n).row)/\Below w.heap.size w w':=by
 have hF9:F<=64:=by rw[<-hF];exact Lj (n:=2) (j:=6) (by decide) (by omega)
 have HFI:=KO (fun W=>zb lv F W h1 h7 hF)
 have hsg:=fG hm
 intro h
 induction h with
 |zero=>
  intro n w hs _ hN
  obtain⟨k,hk⟩:∃k,n-F=k:=⟨_,rfl⟩
  have hle:=hN.le
  rw[ik,hk]
  rw[hk]at hle
  have i1:(F:Int)<=(n:Int):=by omega
  have i2:F<=n:=hle.1
  have hw1:IntKind.i64.wrap ((n:Int)-(F:Int))=(k:Int):=by rw[KU _ (by omega)];omega
  obtain⟨W0,hW0,hb0,b0,bt⟩:=I4 w s
  have HLF:=KO (fun W (hW:Below w.heap.size w W)=>Bd s k W (hs.below hW) ho hm (by omega))
  have HW0:=KO hW0
  have HB0:=KO hb0
  have HC0:=KO b0
  have HR0:=KO bt
  clear hk hle hW0 hb0 b0 bt hs hN ho hm h1 h7 hF hD hF9 hsg
  go_enter func136,ntmps136
  go_upto_region 1 with fail
  rw[HW0.out]
  go_wp2_with fail
  refine(HFI.out _).mono ?_
  rintro e w1 ⟨rfl,hw⟩
  rw[hw]
  clear hw w1
  go_upto_region 2 with fail
  refine aH (by kernel_rfl) (by kernel_rfl) (fun L a W=>∃(t11 t12 t13 t14 t15 t16:Value),a=⟨#[(.agg s.row),.int .i64 (lv:Nat),.int .i64 (n:Nat),.pointer (some ⟨w.heap.size,0,none⟩),undef,undef,.pointer (some ⟨w.heap.size+1,0,none⟩),.int .i64 (n:Nat),.int .i64 (lv:Nat),.int .i64 (F:Nat),.bool true,t11,t12,t13,t14,t15,t16,undef,undef,undef,undef,undef,undef,undef,undef,undef,undef,undef,undef],[]⟩/\Below w.heap.size w W/\(L 6=false->Blk W w.heap.size 29 s.row/\Blk W (w.heap.size+1) 193 #[.int .i64 0,.int .i64 0])/\(L 0=true->t11= .agg s.row)/\(L 1=true->t12= .int .i64 (n:Nat))/\(L 2=true->t13= .int .i64 (lv:Nat))/\(L 3=true->t14= .int .i64 (F:Nat))/\(L 4=true->t15= .int .i64 (k:Nat))/\(L 5=true->t16= .agg #[.int .i64 (dI s k).max,.int .i64 (((dI s k).many:Nat):Int)])/\(L 6=true->Blk W (w.heap.size+1) 193 #[.int .i64 (dI s k).max,.int .i64 (((dI s k).many:Nat):Int)])/\(L 3=true->L 2=true)/\(L 4=true->L 1=true/\L 3=true)/\(L 5=true->L 0=true/\L 4=true)/\(L 6=true->L 5=true)) ?h0 ?hstep ?hend
  case h0=>exact⟨undef,undef,undef,undef,undef,undef,rfl,HB0.out.drew,fun _=>⟨HC0.out,HR0.out⟩,fun h=>absurd h KP,fun h=>absurd h KP,fun h=>absurd h KP,fun h=>absurd h KP,fun h=>absurd h KP,fun h=>absurd h KP,fun h=>absurd h KP,fun h=>absurd h KP,fun h=>absurd h KP,fun h=>absurd h KP,fun h=>absurd h KP⟩
  case hend=>
   rintro L a W hall ⟨t11,t12,t13,t14,t15,t16,rfl,hb,hst,f0,f1,f2,f3,f4,f5,f6,c3,c4,c5,c6⟩
   have z0:=f0 (hall 0 (by decide))
   have z1:=f1 (hall 1 (by decide))
   have z2:=f2 (hall 2 (by decide))
   have z3:=f3 (hall 3 (by decide))
   have z4:=f4 (hall 4 (by decide))
   have z5:=f5 (hall 5 (by decide))
   have z6:=f6 (hall 6 (by decide))
   clear hall hst f0 f1 f2 f3 f4 f5 f6 c3 c4 c5 c6
   have HR3:=KO z6
   have HB3:=KO hb
   clear z0 z1 z2 z3 z4 z5 z6 hb
   have p0:W.cell? ⟨w.heap.size+1,0,none⟩=some (.int .i64 (dI s k).max):=HR3.out.cell 0
   have p1:W.cell? ⟨w.heap.size+1,1,none⟩=some (.int .i64 (((dI s k).many:Nat):Int)):=HR3.out.cell 1
   go_wp2_with fail
   refine KV (v:= .agg #[.int .i64 (dI s k).max,.int .i64 (((dI s k).many:Nat):Int)]) (by simp[results,results136,go_sem,p0,p1]) rfl ?_
   exact⟨rfl,HB3.out⟩
  case hstep=>
   rintro L a W i o ho hLi hdep ⟨t11,t12,t13,t14,t15,t16,rfl,hb,hst,f0,f1,f2,f3,f4,f5,f6,c3,c4,c5,c6⟩
   have HST:=KO hst
   have F0:=KO f0
   have F1:=KO f1
   have F2:=KO f2
   have F3:=KO f3
   have F4:=KO f4
   have F5:=KO f5
   have F6:=KO f6
   have C3:=KO c3
   have C4:=KO c4
   have C5:=KO c5
   have C6:=KO c6
   have HB:=KO hb
   clear hb hst f0 f1 f2 f3 f4 f5 f6 c3 c4 c5 c6
   have HLi:=KO hLi
   clear hLi
   match i,ho with
   |0,ho=>
    obtain rfl:=KQ ho
    clear hdep
    have hlast:L 6=false:=by
     cases h:L 6 with
     |false=>rfl
     |true=>exact absurd ((C5.out (C6.out h)).1) (by rw[HLi.out];exact KP)
    obtain⟨hg,hg1⟩:=HST.out hlast
    have HG:=KO hg
    have HG1:=KO hg1
    clear hg hg1
    refine KT rfl (fun K1 hK1=>?_)
    have hK:=KO hK1
    clear hK1
    refine eQ rfl 29 (.tmp 3) rfl w.heap.size 0 rfl s.row.toList _ (ae HG.out 0 6 rfl) underlying29 rfl fo ?_
    refine hK.out _ _ ?_;exact mP
   |1,ho=>
    obtain rfl:=KQ ho
    clear hdep
    have hlast:L 6=false:=by
     cases h:L 6 with
     |false=>rfl
     |true=>exact absurd ((C4.out (C5.out (C6.out h)).2).1) (by rw[HLi.out];exact KP)
    obtain⟨hg,hg1⟩:=HST.out hlast
    have HG:=KO hg
    have HG1:=KO hg1
    clear hg hg1
    refine KT rfl (fun K1 hK1=>?_)
    have hK:=KO hK1
    clear hK1
    go_wp2_with fail
    refine hK.out _ _ ?_;exact mP
   |2,ho=>
    obtain rfl:=KQ ho
    clear hdep
    have hlast:L 6=false:=by
     cases h:L 6 with
     |false=>rfl
     |true=>exact absurd ((C3.out (C4.out (C5.out (C6.out h)).2).2)) (by rw[HLi.out];exact KP)
    obtain⟨hg,hg1⟩:=HST.out hlast
    have HG:=KO hg
    have HG1:=KO hg1
    clear hg hg1
    refine KT rfl (fun K1 hK1=>?_)
    have hK:=KO hK1
    clear hK1
    go_wp2_with fail
    refine hK.out _ _ ?_;exact mP
   |3,ho=>
    obtain rfl:=KQ ho
    have hl2:=hdep ⟨2,.data⟩ (by simp) rfl
    obtain rfl:=F2.out hl2
    clear hdep
    have hlast:L 6=false:=by
     cases h:L 6 with
     |false=>rfl
     |true=>exact absurd ((C4.out (C5.out (C6.out h)).2).2) (by rw[HLi.out];exact KP)
    obtain⟨hg,hg1⟩:=HST.out hlast
    have HG:=KO hg
    have HG1:=KO hg1
    clear hg hg1
    refine KT rfl (fun K1 hK1=>?_)
    have hK:=KO hK1
    clear hK1
    go_wp2_with (go_at_call 156;refine(HFI.out _).mono ?_;rintro e1 W1 ⟨rfl,hw1⟩)
    subst hw1
    have hb1:=KR W1.heap.size W1
    refine hK.out _ _ ?_;exact mP
   |4,ho=>
    obtain rfl:=KQ ho
    have hl1:=hdep ⟨1,.data⟩ (by simp) rfl
    obtain rfl:=F1.out hl1
    have hl3:=hdep ⟨3,.data⟩ (by simp) rfl
    obtain rfl:=F3.out hl3
    clear hdep
    have hlast:L 6=false:=by
     cases h:L 6 with
     |false=>rfl
     |true=>exact absurd ((C5.out (C6.out h)).2) (by rw[HLi.out];exact KP)
    obtain⟨hg,hg1⟩:=HST.out hlast
    have HG:=KO hg
    have HG1:=KO hg1
    clear hg hg1
    refine KT rfl (fun K1 hK1=>?_)
    have hK:=KO hK1
    clear hK1
    go_wp2_with fail
    refine hK.out _ _ ?_;exact mP
   |5,ho=>
    obtain rfl:=KQ ho
    have hl0:=hdep ⟨0,.data⟩ (by simp) rfl
    obtain rfl:=F0.out hl0
    have hl4:=hdep ⟨4,.data⟩ (by simp) rfl
    obtain rfl:=F4.out hl4
    clear hdep
    have hlast:L 6=false:=by
     cases h:L 6 with
     |false=>rfl
     |true=>exact absurd ((C6.out h)) (by rw[HLi.out];exact KP)
    obtain⟨hg,hg1⟩:=HST.out hlast
    have HG:=KO hg
    have HG1:=KO hg1
    clear hg hg1
    refine KT rfl (fun K1 hK1=>?_)
    have hK:=KO hK1
    clear hK1
    go_wp2_with (go_at_call 157;refine(HLF.out _ HB.out).mono ?_;rintro e1 W1 ⟨rfl,hb1⟩)
    refine hK.out _ _ ?_;exact mP
   |6,ho=>
    obtain rfl:=KQ ho
    have hl5:=hdep ⟨5,.data⟩ (by simp) rfl
    obtain rfl:=F5.out hl5
    clear hdep
    have hlast:=HLi.out
    obtain⟨hg,hg1⟩:=HST.out hlast
    have HG:=KO hg
    have HG1:=KO hg1
    clear hg hg1
    refine KT rfl (fun K1 hK1=>?_)
    have hK:=KO hK1
    clear hK1
    refine aF rfl 193 (.tmp 6) (.tmp 16) rfl (w.heap.size+1) 0 #[.int .i64 (dI s k).max,.int .i64 (((dI s k).many:Nat):Int)] rfl rfl (aY HG1.out 0 2 (by simp)) Cn (Ld (by simp[Value.oneCell'])) ?_
    refine hK.out _ _ ?_;exact mP
 |succ h ih=>
  intro n w hs hh hN
  have hT1:=fun W (hW:Below w.heap.size w W)=>ih (2*n) W (hs.below hW) (by omega) hN.left
  have hT2:=fun W (hW:Below w.heap.size w W)=>ih (2*n+1) W (hs.below hW) (by omega) hN.right
  have hlt:=hN.lt
  have hab:=fun W=>yU (ik s F h (2*n)) (ik s F h (2*n+1)) W (by
   have:=kS s F h (2*n)
   have h6:2 ^ h*s.seg.toNat<=64*64:=MH (Lj (n:=2) (j:=6) (by decide) (by omega)) hsg.g64
   omega) (by
   have:=kS s F h (2*n+1)
   have h6:2 ^ h*s.seg.toNat<=64*64:=MH (Lj (n:=2) (j:=6) (by decide) (by omega)) hsg.g64
   omega)
  rw[ik]
  obtain⟨A,hA⟩:∃A,ik s F h (2*n)=A:=⟨_,rfl⟩
  obtain⟨B,hB⟩:∃A,ik s F h (2*n+1)=A:=⟨_,rfl⟩
  rw[hA]at hT1 hab ⊢
  rw[hB]at hT2 hab ⊢
  obtain⟨V,hV⟩:∃V,jl A B=V:=⟨_,rfl⟩
  rw[hV]at hab ⊢
  have y1:IntKind.i64.wrap (2*(n:Int))=((2*n:Nat):Int):=by rw[KU _ (by omega)];omega
  have y2:IntKind.i64.wrap (((2*n:Nat):Int)+1)=((2*n+1:Nat):Int):=by rw[KU _ (by omega)];omega
  obtain⟨m1,hm1⟩:∃m,2*n+1=m:=⟨_,rfl⟩
  obtain⟨m,hm2⟩:∃m,2*n=m:=⟨_,rfl⟩
  rw[hm1]at hT2 y2
  rw[hm2]at hT1 y1 y2
  have i1:¬(F:Int)<=(n:Int):=by omega
  have i2:¬F<=n:=by omega
  obtain⟨W0,hW0,hb0,b0,bt⟩:=I4 w s
  have HT1:=KO hT1
  have HT2:=KO hT2
  have HAB:=KO hab
  have HDI:=KO trivial
  have HW0:=KO hW0
  have HB0:=KO hb0
  have HC0:=KO b0
  have HR0:=KO bt
  clear hA hB hV hm1 hm2 hT1 hT2 hab hW0 hb0 b0 bt hs hN ho hm h1 h7 hF hD hF9 hsg ih hh hlt
  go_enter func136,ntmps136
  go_upto_region 1 with fail
  rw[HW0.out]
  go_wp2_with fail
  refine(HFI.out _).mono ?_
  rintro e w1 ⟨rfl,hw⟩
  rw[hw]
  clear hw w1
  go_upto_region 3 with fail
  refine aH (by kernel_rfl) (by kernel_rfl) (fun L a W=>∃(t17 t18 t19 t20 t21 t22 t23 t24 t25 t26 t27 t28:Value),a=⟨#[(.agg s.row),.int .i64 (lv:Nat),.int .i64 (n:Nat),.pointer (some ⟨w.heap.size,0,none⟩),undef,undef,.pointer (some ⟨w.heap.size+1,0,none⟩),.int .i64 (n:Nat),.int .i64 (lv:Nat),.int .i64 (F:Nat),.bool false,undef,undef,undef,undef,undef,undef,t17,t18,t19,t20,t21,t22,t23,t24,t25,t26,t27,t28],[]⟩/\Below w.heap.size w W/\(L 12=false->Blk W w.heap.size 29 s.row/\Blk W (w.heap.size+1) 193 #[.int .i64 0,.int .i64 0])/\(L 0=true->t17= .agg s.row)/\(L 1=true->t18= .int .i64 (lv:Nat))/\(L 2=true->t19= .int .i64 (n:Nat))/\(L 3=true->t20= .int .i64 (m:Nat))/\(L 4=true->t21= .agg #[.int .i64 (A).max,.int .i64 (((A).many:Nat):Int)])/\(L 5=true->t22= .agg s.row)/\(L 6=true->t23= .int .i64 (lv:Nat))/\(L 7=true->t24= .int .i64 (n:Nat))/\(L 8=true->t25= .int .i64 (m:Nat))/\(L 9=true->t26= .int .i64 (m1:Nat))/\(L 10=true->t27= .agg #[.int .i64 (B).max,.int .i64 (((B).many:Nat):Int)])/\(L 11=true->t28= .agg #[.int .i64 (V).max,.int .i64 (((V).many:Nat):Int)])/\(L 12=true->Blk W (w.heap.size+1) 193 #[.int .i64 (V).max,.int .i64 (((V).many:Nat):Int)])/\(L 3=true->L 2=true)/\(L 4=true->L 0=true/\L 1=true/\L 3=true)/\(L 8=true->L 7=true)/\(L 9=true->L 8=true)/\(L 10=true->L 5=true/\L 6=true/\L 9=true)/\(L 11=true->L 4=true/\L 10=true)/\(L 12=true->L 11=true)) ?h0 ?hstep ?hend
  case h0=>exact⟨undef,undef,undef,undef,undef,undef,undef,undef,undef,undef,undef,undef,rfl,HB0.out.drew,fun _=>⟨HC0.out,HR0.out⟩,fun h=>absurd h KP,fun h=>absurd h KP,fun h=>absurd h KP,fun h=>absurd h KP,fun h=>absurd h KP,fun h=>absurd h KP,fun h=>absurd h KP,fun h=>absurd h KP,fun h=>absurd h KP,fun h=>absurd h KP,fun h=>absurd h KP,fun h=>absurd h KP,fun h=>absurd h KP,fun h=>absurd h KP,fun h=>absurd h KP,fun h=>absurd h KP,fun h=>absurd h KP,fun h=>absurd h KP,fun h=>absurd h KP,fun h=>absurd h KP⟩
  case hend=>
   rintro L a W hall ⟨t17,t18,t19,t20,t21,t22,t23,t24,t25,t26,t27,t28,rfl,hb,hst,f0,f1,f2,f3,f4,f5,f6,f7,f8,f9,f10,f11,f12,c3,c4,c8,c9,c10,c11,c12⟩
   have z0:=f0 (hall 0 (by decide))
   have z1:=f1 (hall 1 (by decide))
   have z2:=f2 (hall 2 (by decide))
   have z3:=f3 (hall 3 (by decide))
   have z4:=f4 (hall 4 (by decide))
   have z5:=f5 (hall 5 (by decide))
   have z6:=f6 (hall 6 (by decide))
   have z7:=f7 (hall 7 (by decide))
   have z8:=f8 (hall 8 (by decide))
   have z9:=f9 (hall 9 (by decide))
   have z10:=f10 (hall 10 (by decide))
   have z11:=f11 (hall 11 (by decide))
   have z12:=f12 (hall 12 (by decide))
   clear hall hst f0 f1 f2 f3 f4 f5 f6 f7 f8 f9 f10 f11 f12 c3 c4 c8 c9 c10 c11 c12
   have HR3:=KO z12
   have HB3:=KO hb
   clear z0 z1 z2 z3 z4 z5 z6 z7 z8 z9 z10 z11 z12 hb
   have p0:W.cell? ⟨w.heap.size+1,0,none⟩=some (.int .i64 (V).max):=HR3.out.cell 0
   have p1:W.cell? ⟨w.heap.size+1,1,none⟩=some (.int .i64 (((V).many:Nat):Int)):=HR3.out.cell 1
   go_wp2_with fail
   refine KV (v:= .agg #[.int .i64 (V).max,.int .i64 (((V).many:Nat):Int)]) (by simp[results,results136,go_sem,p0,p1]) rfl ?_
   exact⟨rfl,HB3.out⟩
  case hstep=>
   rintro L a W i o ho hLi hdep ⟨t17,t18,t19,t20,t21,t22,t23,t24,t25,t26,t27,t28,rfl,hb,hst,f0,f1,f2,f3,f4,f5,f6,f7,f8,f9,f10,f11,f12,c3,c4,c8,c9,c10,c11,c12⟩
   have HST:=KO hst
   have F0:=KO f0
   have F1:=KO f1
   have F2:=KO f2
   have F3:=KO f3
   have F4:=KO f4
   have F5:=KO f5
   have F6:=KO f6
   have F7:=KO f7
   have F8:=KO f8
   have F9:=KO f9
   have F10:=KO f10
   have F11:=KO f11
   have F12:=KO f12
   have C3:=KO c3
   have C4:=KO c4
   have C8:=KO c8
   have C9:=KO c9
   have C10:=KO c10
   have C11:=KO c11
   have C12:=KO c12
   have HB:=KO hb
   clear hb hst f0 f1 f2 f3 f4 f5 f6 f7 f8 f9 f10 f11 f12 c3 c4 c8 c9 c10 c11 c12
   have HLi:=KO hLi
   clear hLi
   match i,ho with
   |0,ho=>
    obtain rfl:=KQ ho
    clear hdep
    have hlast:L 12=false:=by
     cases h:L 12 with
     |false=>rfl
     |true=>exact absurd ((C4.out (C11.out (C12.out h)).1).1) (by rw[HLi.out];exact KP)
    obtain⟨hg,hg1⟩:=HST.out hlast
    have HG:=KO hg
    have HG1:=KO hg1
    clear hg hg1
    refine KT rfl (fun K1 hK1=>?_)
    have hK:=KO hK1
    clear hK1
    refine eQ rfl 29 (.tmp 3) rfl w.heap.size 0 rfl s.row.toList _ (ae HG.out 0 6 rfl) underlying29 rfl fo ?_
    refine hK.out _ _ ?_;exact gu
   |1,ho=>
    obtain rfl:=KQ ho
    clear hdep
    have hlast:L 12=false:=by
     cases h:L 12 with
     |false=>rfl
     |true=>exact absurd ((C4.out (C11.out (C12.out h)).1).2.1) (by rw[HLi.out];exact KP)
    obtain⟨hg,hg1⟩:=HST.out hlast
    have HG:=KO hg
    have HG1:=KO hg1
    clear hg hg1
    refine KT rfl (fun K1 hK1=>?_)
    have hK:=KO hK1
    clear hK1
    go_wp2_with fail
    refine hK.out _ _ ?_;exact gu
   |2,ho=>
    obtain rfl:=KQ ho
    clear hdep
    have hlast:L 12=false:=by
     cases h:L 12 with
     |false=>rfl
     |true=>exact absurd ((C3.out (C4.out (C11.out (C12.out h)).1).2.2)) (by rw[HLi.out];exact KP)
    obtain⟨hg,hg1⟩:=HST.out hlast
    have HG:=KO hg
    have HG1:=KO hg1
    clear hg hg1
    refine KT rfl (fun K1 hK1=>?_)
    have hK:=KO hK1
    clear hK1
    go_wp2_with fail
    refine hK.out _ _ ?_;exact gu
   |3,ho=>
    obtain rfl:=KQ ho
    have hl2:=hdep ⟨2,.data⟩ (by simp) rfl
    obtain rfl:=F2.out hl2
    clear hdep
    have hlast:L 12=false:=by
     cases h:L 12 with
     |false=>rfl
     |true=>exact absurd ((C4.out (C11.out (C12.out h)).1).2.2) (by rw[HLi.out];exact KP)
    obtain⟨hg,hg1⟩:=HST.out hlast
    have HG:=KO hg
    have HG1:=KO hg1
    clear hg hg1
    refine KT rfl (fun K1 hK1=>?_)
    have hK:=KO hK1
    clear hK1
    go_wp2_with fail
    refine hK.out _ _ ?_;exact gu
   |4,ho=>
    obtain rfl:=KQ ho
    have hl0:=hdep ⟨0,.data⟩ (by simp) rfl
    obtain rfl:=F0.out hl0
    have hl1:=hdep ⟨1,.data⟩ (by simp) rfl
    obtain rfl:=F1.out hl1
    have hl3:=hdep ⟨3,.data⟩ (by simp) rfl
    obtain rfl:=F3.out hl3
    clear hdep
    have hlast:L 12=false:=by
     cases h:L 12 with
     |false=>rfl
     |true=>exact absurd ((C11.out (C12.out h)).1) (by rw[HLi.out];exact KP)
    obtain⟨hg,hg1⟩:=HST.out hlast
    have HG:=KO hg
    have HG1:=KO hg1
    clear hg hg1
    refine KT rfl (fun K1 hK1=>?_)
    have hK:=KO hK1
    clear hK1
    have hd:=HDI.out
    go_wp2_with (go_at_call 136;refine(HT1.out _ HB.out).mono ?_;rintro e1 W1 ⟨rfl,hb1⟩)
    refine hK.out _ _ ?_;exact gu
   |5,ho=>
    obtain rfl:=KQ ho
    clear hdep
    have hlast:L 12=false:=by
     cases h:L 12 with
     |false=>rfl
     |true=>exact absurd ((C10.out (C11.out (C12.out h)).2).1) (by rw[HLi.out];exact KP)
    obtain⟨hg,hg1⟩:=HST.out hlast
    have HG:=KO hg
    have HG1:=KO hg1
    clear hg hg1
    refine KT rfl (fun K1 hK1=>?_)
    have hK:=KO hK1
    clear hK1
    refine eQ rfl 29 (.tmp 3) rfl w.heap.size 0 rfl s.row.toList _ (ae HG.out 0 6 rfl) underlying29 rfl fo ?_
    refine hK.out _ _ ?_;exact gu
   |6,ho=>
    obtain rfl:=KQ ho
    clear hdep
    have hlast:L 12=false:=by
     cases h:L 12 with
     |false=>rfl
     |true=>exact absurd ((C10.out (C11.out (C12.out h)).2).2.1) (by rw[HLi.out];exact KP)
    obtain⟨hg,hg1⟩:=HST.out hlast
    have HG:=KO hg
    have HG1:=KO hg1
    clear hg hg1
    refine KT rfl (fun K1 hK1=>?_)
    have hK:=KO hK1
    clear hK1
    go_wp2_with fail
    refine hK.out _ _ ?_;exact gu
   |7,ho=>
    obtain rfl:=KQ ho
    clear hdep
    have hlast:L 12=false:=by
     cases h:L 12 with
     |false=>rfl
     |true=>exact absurd ((C8.out (C9.out (C10.out (C11.out (C12.out h)).2).2.2))) (by rw[HLi.out];exact KP)
    obtain⟨hg,hg1⟩:=HST.out hlast
    have HG:=KO hg
    have HG1:=KO hg1
    clear hg hg1
    refine KT rfl (fun K1 hK1=>?_)
    have hK:=KO hK1
    clear hK1
    go_wp2_with fail
    refine hK.out _ _ ?_;exact gu
   |8,ho=>
    obtain rfl:=KQ ho
    have hl7:=hdep ⟨7,.data⟩ (by simp) rfl
    obtain rfl:=F7.out hl7
    clear hdep
    have hlast:L 12=false:=by
     cases h:L 12 with
     |false=>rfl
     |true=>exact absurd ((C9.out (C10.out (C11.out (C12.out h)).2).2.2)) (by rw[HLi.out];exact KP)
    obtain⟨hg,hg1⟩:=HST.out hlast
    have HG:=KO hg
    have HG1:=KO hg1
    clear hg hg1
    refine KT rfl (fun K1 hK1=>?_)
    have hK:=KO hK1
    clear hK1
    go_wp2_with fail
    refine hK.out _ _ ?_;exact gu
   |9,ho=>
    obtain rfl:=KQ ho
    have hl8:=hdep ⟨8,.data⟩ (by simp) rfl
    obtain rfl:=F8.out hl8
    clear hdep
    have hlast:L 12=false:=by
     cases h:L 12 with
     |false=>rfl
     |true=>exact absurd ((C10.out (C11.out (C12.out h)).2).2.2) (by rw[HLi.out];exact KP)
    obtain⟨hg,hg1⟩:=HST.out hlast
    have HG:=KO hg
    have HG1:=KO hg1
    clear hg hg1
    refine KT rfl (fun K1 hK1=>?_)
    have hK:=KO hK1
    clear hK1
    go_wp2_with fail
    refine hK.out _ _ ?_;exact gu
   |10,ho=>
    obtain rfl:=KQ ho
    have hl5:=hdep ⟨5,.data⟩ (by simp) rfl
    obtain rfl:=F5.out hl5
    have hl6:=hdep ⟨6,.data⟩ (by simp) rfl
    obtain rfl:=F6.out hl6
    have hl9:=hdep ⟨9,.data⟩ (by simp) rfl
    obtain rfl:=F9.out hl9
    clear hdep
    have hlast:L 12=false:=by
     cases h:L 12 with
     |false=>rfl
     |true=>exact absurd ((C11.out (C12.out h)).2) (by rw[HLi.out];exact KP)
    obtain⟨hg,hg1⟩:=HST.out hlast
    have HG:=KO hg
    have HG1:=KO hg1
    clear hg hg1
    refine KT rfl (fun K1 hK1=>?_)
    have hK:=KO hK1
    clear hK1
    go_wp2_with (go_at_call 136;refine(HT2.out _ HB.out).mono ?_;rintro e1 W1 ⟨rfl,hb1⟩)
    refine hK.out _ _ ?_;exact gu
   |11,ho=>
    obtain rfl:=KQ ho
    have hl4:=hdep ⟨4,.data⟩ (by simp) rfl
    obtain rfl:=F4.out hl4
    have hl10:=hdep ⟨10,.data⟩ (by simp) rfl
    obtain rfl:=F10.out hl10
    clear hdep
    have hlast:L 12=false:=by
     cases h:L 12 with
     |false=>rfl
     |true=>exact absurd ((C12.out h)) (by rw[HLi.out];exact KP)
    obtain⟨hg,hg1⟩:=HST.out hlast
    have HG:=KO hg
    have HG1:=KO hg1
    clear hg hg1
    refine KT rfl (fun K1 hK1=>?_)
    have hK:=KO hK1
    clear hK1
    go_wp2_with (go_at_call 158;refine(HAB.out _).mono ?_;rintro e1 W1 ⟨rfl,hb1⟩)
    refine hK.out _ _ ?_;exact gu
   |12,ho=>
    obtain rfl:=KQ ho
    have hl11:=hdep ⟨11,.data⟩ (by simp) rfl
    obtain rfl:=F11.out hl11
    clear hdep
    have hlast:=HLi.out
    obtain⟨hg,hg1⟩:=HST.out hlast
    have HG:=KO hg
    have HG1:=KO hg1
    clear hg hg1
    refine KT rfl (fun K1 hK1=>?_)
    have hK:=KO hK1
    clear hK1
    refine aF rfl 193 (.tmp 6) (.tmp 28) rfl (w.heap.size+1) 0 #[.int .i64 (V).max,.int .i64 (((V).many:Nat):Int)] rfl rfl (aY HG1.out 0 2 (by simp)) Cn (Ld (by simp[Value.oneCell'])) ?_
    refine hK.out _ _ ?_;exact gu
def ig (s:Ss) (lv n:Nat):Td:=ik s (2 ^ (lv-1)) (lv-1-Lx n) n
def nN (s:Ss):Nat:=Lx s.cs.length+1
def Bq (s:Ss):List Int:=(bS (nN s) 1).map fun n=>(ig s (nN s) n).max
def Bw (s:Ss):List Int:=(bS (nN s) 1).map fun n=>((ig s (nN s) n).many:Nat)
def rA (lv:Nat) (P:Nat->Bool) (f:Nat->Int):List Int:=(bS lv 1).map fun n=>if P n=true then f n else 0
theorem ko (lv:Nat) (P:Nat->Bool) (f:Nat->Int) (h:1<=lv):(rA lv P f).length=2 ^ lv-1:=by unfold rA;rw[List.length_map,gQ lv 1 h]
theorem Er:∀lv,lv<=7->1<=lv->(bS lv 1).Nodup:=by decide+kernel
def Jd (lv:Nat):Bool:=(Lt (2 ^ lv-1)).all fun k=>(bS lv 1)[(gV lv).getD k 0]?==some (k+1)&&decide ((gV lv).getD k 0< 2 ^ lv-1)
theorem JK:∀lv,lv<=7->1<=lv->Jd lv=true:=by decide+kernel
theorem Bn {lv k:Nat} (h7:lv<=7) (h1:1<=lv) (hk:k< 2 ^ lv-1):(bS lv 1)[(gV lv).getD k 0]?=some (k+1)/\(gV lv).getD k 0< 2 ^ lv-1:=by
 have h:=JK lv h7 h1
 unfold Jd at h
 rw[MC]at h
 have:=h k (List.mem_range.2 hk)
 simpa using this
theorem IE {l:List Nat} (hn:l.Nodup) {f g:Nat->Int} {i n:Nat} (hi:l[i]?=some n) (hg:∀m,m≠n->g m=f m):(l.map f).set i (g n)=l.map g:=by
 apply Ni
 intro j
 rw[List.getElem?_set,List.length_map,List.getElem?_map,List.getElem?_map]
 by_cases hij:i=j
 ·subst hij
  obtain⟨h1,h2⟩:=List.getElem?_eq_some_iff.1 hi
  rw[if_pos rfl,if_pos h1,hi];rfl
 ·rw[if_neg hij]
  cases hj:l[j]? with
  |none=>rfl
  |some m=>
   have hm:m≠n:=fun e=>by
    subst e
    obtain⟨h1,h2⟩:=List.getElem?_eq_some_iff.1 hi
    obtain⟨h3,h4⟩:=List.getElem?_eq_some_iff.1 hj
    exact hij ((List.getElem_inj hn).1 (h2.trans h4.symm))
   simp[hg m hm]
theorem qC {lv k:Nat} (h7:lv<=7) (h1:1<=lv) (hk:k< 2 ^ lv-1) (P Q:Nat->Bool) (f:Nat->Int) (hq:Q (k+1)=true) (hpq:∀m,m≠k+1->Q m=P m):(rA lv P f).set ((gV lv).getD k 0) (f (k+1))=rA lv Q f:=by
 unfold rA
 have h:=IE (Er lv h7 h1) (f:=fun n=>if P n=true then f n else 0) (g:=fun n=>if Q n=true then f n else 0) (Bn h7 h1 hk).1 (fun m hm=>by rw[hpq m hm])
 simp only[hq,if_true]at h
 exact h
theorem qK {lv:Nat} (h7:lv<=7) (h1:1<=lv) (P:Nat->Bool) (f:Nat->Int) (hp:∀m,1<=m->m<=2 ^ lv-1->P m=true):rA lv P f=(bS lv 1).map f:=by
 unfold rA
 apply List.map_congr_left
 intro n hn
 have h:=AC lv h7 h1
 rw[MC]at h
 have:=h n hn
 simp at this
 rw[hp n this.1 this.2];rfl
theorem nI (lv:Nat) (h1:1<=lv) (P:Nat->Bool) (f:Nat->Int) (hp:∀m,P m=false):rA lv P f=List.replicate (2 ^ lv-1) 0:=by
 unfold rA
 apply List.ext_getElem
 ·rw[List.length_map,List.length_replicate,gQ lv 1 h1]
 ·intro i h2 h3
  rw[List.getElem_map,List.getElem_replicate,hp]
  rfl
def Gg (lv:Nat):Bool:=(Lt (2 ^ lv)).all fun n=>n==0||(decide (2 ^ (lv-1)<=n*2 ^ (lv-1-Lx n))&&decide ((n+1)*2 ^ (lv-1-Lx n)<=2*2 ^ (lv-1))&&(decide (2 ^ (lv-1)<=n)==decide (lv-1-Lx n=0))&&(decide (2 ^ (lv-1)<=n)||(decide (lv-1-Lx n=(lv-1-Lx (2*n))+1)&&decide (Lx (2*n+1)=Lx (2*n)))))
theorem IJ:∀lv,lv<=7->1<=lv->Gg lv=true:=by decide+kernel
structure NodeF (lv n:Nat):Prop where
 node:NodeH (2 ^ (lv-1)) (lv-1-Lx n) n
 leaf:2 ^ (lv-1)<=n->lv-1-Lx n=0
 up:n< 2 ^ (lv-1)->lv-1-Lx n=(lv-1-Lx (2*n))+1/\Lx (2*n+1)=Lx (2*n)
theorem yo {lv n:Nat} (h7:lv<=7) (h1:1<=lv) (hn1:1<=n) (hn:n< 2 ^ lv):NodeF lv n:=by
 have h:=IJ lv h7 h1
 unfold Gg at h
 rw[MC]at h
 have h2:=h n (List.mem_range.2 hn)
 have hz:(n==0)=false:=by simp;omega
 rw[hz,Bool.false_or]at h2
 simp only[Lm,decide_eq_true_eq,beq_iff_eq,Bool.or_eq_true]at h2
 obtain⟨⟨⟨h3,h4⟩,h5⟩,h6⟩:=h2
 refine⟨⟨h3,h4⟩,fun hl=>?_,fun hl=>?_⟩
 ·rw[decide_eq_true hl]at h5
  exact of_decide_eq_true h5.symm
 ·rcases h6 with h6|h6
  ·omega
  ·exact h6
theorem AB {s:Ss} {lv n:Nat} (k:NodeF lv n) (h:2 ^ (lv-1)<=n):ig s lv n=dI s (n-2 ^ (lv-1)):=by
 unfold ig
 rw[k.leaf h]
 rfl
theorem Gm {s:Ss} {lv n:Nat} (k:NodeF lv n) (h:n< 2 ^ (lv-1)):ig s lv n=jl (ig s lv (2*n)) (ig s lv (2*n+1)):=by
 have h2:=k.up h
 unfold ig
 rw[h2.1,h2.2]
 rfl
theorem GR (s:Ss) (lv n:Nat) (h7:lv<=7) (hG:s.seg.toNat<=64):(ig s lv n).many<=4096:=by
 unfold ig
 refine KY (kS s _ _ n) ?_
 exact MH (Lj (n:=2) (j:=6) (by decide) (by omega)) hG
structure TreeN (s:Ss) (lv N F:Nat):Prop where
 hlv:nN s=lv
 l1:1<=lv
 l7:lv<=7
 hn:2 ^ lv-1=N
 hf:2 ^ (lv-1)=F
 hd:s.cs.length=F
 nf:N+1=2*F
theorem r9 {s:Ss} (h:bF s=true) (ho:SsOk s):TreeN s (nN s) (2 ^ nN s-1) s.cs.length:=by
 have hf:=dL h
 have hp:pow2 (s.ks.length/s.seg.toNat)=true:=by
  have:=hf.2.2.1
  unfold eT at this
  simp only[Lm]at this
  exact this.2
 rw[<-hf.2.2.2]at hp
 unfold pow2 at hp
 simp only[Lm,decide_eq_true_eq]at hp
 have hl:nN s-1=Lx s.cs.length:=by unfold nN;omega
 have hsg:=fG h
 have hD:s.cs.length<=75:=by
  have h1:=hsg.kl
  have h2:=ho.kl
  have h3:=hsg.g4
  have h4:4*s.cs.length<=s.seg.toNat*s.cs.length:=LH _ h3
  omega
 have h6:Lx s.cs.length<=6:=by
  by_cases hc:Lx s.cs.length<=6
  ·exact hc
  ·have h2:2 ^ 7<=2 ^ Lx s.cs.length:=Lj (n:=2) (by decide) (by omega)
   omega
 have hF:2 ^ (nN s-1)=s.cs.length:=by rw[hl];exact hp.2
 refine⟨rfl,by unfold nN;omega,by unfold nN;omega,rfl,hF,rfl,?_⟩
 have h3:2 ^ nN s=2*2 ^ (nN s-1):=by rw[LQ,<-MO];congr 1
 have h4:=MJ (nN s)
 rw[hF]at h3
 omega
end Go.Proofs.YtpbmbjjfdpkhbaaGreat
