/- part of the proof -/
import Derived.Test.YtpbmbjjfdpkhbaaGreatProg
import Derived.Laws.Bits64b
import Derived.Laws.Bits128
import Derived.IntWalk
import Derived.Deep.CutRange
import Derived.Test.YtpbmbjjfdpkhbaaGreatZw1
import Derived.ArgAppend
import Derived.Lib.SliceRun
import Derived.RangeFuncOwn
import Derived.RangeFuncLeaves
import Derived.OwnWalkIn
import Derived.TacticsInMore
import Derived.LoopIn
import Derived.LoopNIn
import Derived.Orders
import Derived.RegionTactic
import Derived.OrdersIn
import Derived.Laws.ComplexArith
import Derived.OrdersHeld
import Derived.StillTail
import Derived.Deep.RegionHeld3
import Derived.Deep.LoopGhost
import Derived.ScopeJumps
import Derived.BigRegion
namespace Go.Proofs.YtpbmbjjfdpkhbaaGreat
open Go Go.RowKit
set_option linter.all false
set_option maxRecDepth 100000
set_option maxHeartbeats 32000000
open Go.Proofs.Tryz
open And renaming intro->KW
open Below renaming refl->KR
open Go renaming bodyPost_ret->KV,results_none->L6,wpOpIn_step->Le
open Go.IntWalk renaming i64_in->KU,wrap64_in->Ml
open Go.Lib renaming hid->KO
open Go.Region renaming binds->Nh,wanted->L8
open Go.World renaming cell?_of_block->Mf,putObj_heap_other->K9,size_alloc->KX
open Int renaming natCast_ediv->M3,natCast_mul->MI
open List renaming all_eq_true->MC,append_toArray->Me,cons_append->Mr,ext_getElem?->Ni,getD_eq_getElem?_getD->Lf,getElem?_eq_getElem->K7,getElem?_eq_none->Mg,getElem?_set_ne->M6,getElem?_take->MB,getElem_map->MQ,getElem_mem->Lh,mem_of_getElem?->M7,nil_append->LA,push_toArray->Mq,range->Lt,set_cons_succ->LK,size_toArray->Ll
open Nat renaming div_div_eq_div_mul->Md,le_refl->KS,le_trans->KY,mul_assoc->Mc,mul_comm->LQ,mul_le_mul->MH,pow_add->Mt,pow_succ->MO,reduceAdd->LD,reduceSub->LF,strongRecOn->Ng,two_pow_pos->MJ,zero_le->K8
open Option.some renaming inj->KQ
theorem ny (n:Nat) (h:n< 18446744073709551616):IntKind.u64.wrap (n:Int)=(n:Int):=by rw[IntKind.wrap_u64];omega
theorem Ht (x:Nat) (hx:x< 18446744073709551616):∀S1 S2 S3 Sa Sb Sc:Int,
  S1=IntKind.u64.wrap (bits .and .u64 ((x:Int)/2) 6148914691236517205+bits .and .u64 (x:Int) 6148914691236517205)->
  S2=IntKind.u64.wrap (bits .and .u64 (S1/4) 3689348814741910323+bits .and .u64 S1 3689348814741910323)->
  S3=bits .and .u64 (IntKind.u64.wrap (S2/16+S2)) 1085102592571150095->
  Sa=IntKind.u64.wrap (S3+S3/256)->Sb=IntKind.u64.wrap (Sa+Sa/65536)->Sc=IntKind.u64.wrap (Sb+Sb/4294967296)->
  bits .and .i64 (wrap64 Sc) 127=((pc 64 x:Nat):Int):=by
 intro S1 S2 S3 Sa Sb Sc h1 h2 h3 h4 h5 h6
 have ha:=fun(a b:Nat) (p:a< 18446744073709551616) (q:b< 18446744073709551616)=>bits_and_u64_nat a b p q
 have g1:=ha (x/2) 6148914691236517205 (by omega) (by omega)
 have g2:=ha x 6148914691236517205 hx (by omega)
 have l1:x/2&&& 6148914691236517205<=6148914691236517205:=Nat.and_le_right
 have l2:x&&& 6148914691236517205<=6148914691236517205:=Nat.and_le_right
 have e1:S1=(((x/2&&& 6148914691236517205)+(x&&& 6148914691236517205):Nat):Int):=by
  rw[h1,show(x:Int)/2=((x/2:Nat):Int)from rfl,show(6148914691236517205:Int)=((6148914691236517205:Nat):Int)from rfl,g1,g2,<-Int.natCast_add,ny _ (by omega)]
 obtain⟨s1,hs1⟩:∃s,(x/2&&& 6148914691236517205)+(x&&& 6148914691236517205)=s:=⟨_,rfl⟩
 have b1:s1<=12297829382473034410:=by omega
 rw[hs1]at e1
 have g3:=ha (s1/4) 3689348814741910323 (by omega) (by omega)
 have g4:=ha s1 3689348814741910323 (by omega) (by omega)
 have l3:s1/4&&& 3689348814741910323<=3689348814741910323:=Nat.and_le_right
 have l4:s1&&& 3689348814741910323<=3689348814741910323:=Nat.and_le_right
 have e2:S2=(((s1/4&&& 3689348814741910323)+(s1&&& 3689348814741910323):Nat):Int):=by
  rw[h2,e1,show(s1:Int)/4=((s1/4:Nat):Int)from rfl,show(3689348814741910323:Int)=((3689348814741910323:Nat):Int)from rfl,g3,g4,<-Int.natCast_add,ny _ (by omega)]
 obtain⟨s2,hs2⟩:∃s,(s1/4&&& 3689348814741910323)+(s1&&& 3689348814741910323)=s:=⟨_,rfl⟩
 have b2:s2<=7378697629483820646:=by omega
 rw[hs2]at e2
 have g5:=ha (s2/16+s2) 1085102592571150095 (by omega) (by omega)
 have l5:(s2/16+s2)&&& 1085102592571150095<=1085102592571150095:=Nat.and_le_right
 have e3:S3=(((s2/16+s2)&&& 1085102592571150095:Nat):Int):=by
  rw[h3,e2,show(s2:Int)/16+(s2:Int)=((s2/16+s2:Nat):Int)from rfl,ny _ (by omega),show(1085102592571150095:Int)=((1085102592571150095:Nat):Int)from rfl,g5]
 obtain⟨s3,hs3⟩:∃s,(s2/16+s2)&&& 1085102592571150095=s:=⟨_,rfl⟩
 rw[hs3]at e3 l5
 have e4:Sa=((s3+s3/256:Nat):Int):=by rw[h4,e3,show(s3:Int)+(s3:Int)/256=((s3+s3/256:Nat):Int)from rfl,ny _ (by omega)]
 obtain⟨a,hsa⟩:∃s,s3+s3/256=s:=⟨_,rfl⟩
 rw[hsa]at e4
 have e5:Sb=((a+a/65536:Nat):Int):=by rw[h5,e4,show(a:Int)+(a:Int)/65536=((a+a/65536:Nat):Int)from rfl,ny _ (by omega)]
 obtain⟨b,hsb⟩:∃s,a+a/65536=s:=⟨_,rfl⟩
 rw[hsb]at e5
 have b6:b+b/4294967296< 9223372036854775808:=by omega
 have e6:Sc=((b+b/4294967296:Nat):Int):=by rw[h6,e5,show(b:Int)+(b:Int)/4294967296=((b+b/4294967296:Nat):Int)from rfl,ny _ (by omega)]
 have hf:=Hz x s1 s2 s3 a b hs1.symm hs2.symm hs3.symm hsa.symm hsb.symm
 rw[i64_and127,e6,Ml _ (by omega),<-hf]
 rfl
theorem AR (x:Nat) (w:World) (hx:x< 18446744073709551616):Calls prog 225 #[.int .u64 (x:Nat)] w fun r w'=>r= .returned (.int .i64 (pc 64 x:Nat))/\w'=w:=by
 go_enter func225,ntmps225
 go_upto_region 2 with fail
 obtain⟨S1,hS1⟩:∃S,IntKind.u64.wrap (bits .and .u64 ((x:Int)/2) 6148914691236517205+bits .and .u64 (x:Int) 6148914691236517205)=S:=⟨_,rfl⟩
 rw[hS1]
 have HS1:=KO hS1
 clear hS1
 go_upto_region 3 with fail
 obtain⟨S2,hS2⟩:∃S,IntKind.u64.wrap (bits .and .u64 (S1/4) 3689348814741910323+bits .and .u64 S1 3689348814741910323)=S:=⟨_,rfl⟩
 rw[hS2]
 have HS2:=KO hS2
 clear hS2
 go_upto_region 4 with fail
 obtain⟨S3,hS3⟩:∃S,bits .and .u64 (IntKind.u64.wrap (S2/16+S2)) 1085102592571150095=S:=⟨_,rfl⟩
 rw[hS3]
 have HS3:=KO hS3
 clear hS3
 go_upto_region 5 with fail
 obtain⟨Sa,hSa⟩:∃S,IntKind.u64.wrap (S3+S3/256)=S:=⟨_,rfl⟩
 rw[hSa]
 have HSa:=KO hSa
 clear hSa
 go_upto_region 6 with fail
 obtain⟨Sb,hSb⟩:∃S,IntKind.u64.wrap (Sa+Sa/65536)=S:=⟨_,rfl⟩
 rw[hSb]
 have HSb:=KO hSb
 clear hSb
 go_upto_region 7 with fail
 obtain⟨Sc,hSc⟩:∃S,IntKind.u64.wrap (Sb+Sb/4294967296)=S:=⟨_,rfl⟩
 rw[hSc]
 have HSc:=KO hSc
 clear hSc
 go_wp2_with fail
 go_ret
 have he:=Ht x hx S1 S2 S3 Sa Sb Sc HS1.out.symm HS2.out.symm HS3.out.symm HSa.out.symm HSb.out.symm HSc.out.symm
 exact⟨congrArg (fun z=>Ending.returned (Value.int .i64 z)) he,rfl⟩
def uw (n:Nat):Value:= .int .u64 (n:Int)
def fZ (ws:List Nat) (n:Nat):Int:=if ws.length=(n+63)/64/\(n %64=0∨ws.getD (ws.length-1) 0/2 ^ (n %64)=0)then 0 else 8
theorem nV (A:Option Addr) (ws:List Nat) (c n:Nat) (w:World) (hA:Sl w A (ws.map uw)) (hn:n<=65536) (hl:ws.length<=1000000):
  Calls prog 211 #[.slice A ws.length c,.int .i64 (n:Nat)] w fun r w'=>r= .returned (.int .i64 (fZ ws n))/\w'=w:=by
 have i0:¬(n:Int)< 0:=by omega
 have i1:¬(65536:Int)< (n:Int):=by omega
 have hw1:IntKind.i64.wrap ((n:Int)+64)=(n:Int)+64:=KU _ (by omega)
 have hw2:IntKind.i64.wrap ((n:Int)+64-1)=(n:Int)+63:=by rw[KU _ (by omega)];omega
 by_cases h1:ws.length=(n+63)/64
 case neg=>
  have hE:fZ ws n=8:=by unfold fZ;rw[if_neg (fun h=>h1 h.1)]
  have hz:((ws.length:Int)!=((n:Int)+63)/64)=true:=by simp;omega
  have hz2:¬(ws.length:Int)=((n:Int)+63)/64:=by omega
  rw[hE]
  clear hE h1
  go_enter func211,ntmps211
  go_wp2_with fail
  go_ret
  exact⟨rfl,rfl⟩
 case pos=>
 have hz:((ws.length:Int)!=((n:Int)+63)/64)=false:=by simp;omega
 have hz2:(ws.length:Int)=((n:Int)+63)/64:=by omega
 by_cases h2:n %64=0
 ·have hE:fZ ws n=0:=by unfold fZ;rw[if_pos ⟨h1,.inl h2⟩]
  have i2:¬(0:Int)< (n:Int) %64:=by omega
  rw[hE]
  clear hE h1 h2 hz2
  go_enter func211,ntmps211
  go_wp2_with fail
  go_ret
  exact⟨rfl,rfl⟩
 ·have i2:(0:Int)< (n:Int) %64:=by omega
  have hp:0< ws.length:=by omega
  obtain⟨b,off,rfl,hb,c1⟩:=hA.one (ws.length-1) (by omega)
  obtain⟨x,hx⟩:∃x,ws[ws.length-1]'(by omega)=x:=⟨_,rfl⟩
  have hg:ws.getD (ws.length-1) 0=x:=by rw[Lf,K7 (by omega),hx];rfl
  rw[hx]at c1
  have c2:w.cell? ⟨b,off+(ws.length-1),none⟩=some (.int .u64 (x:Nat)):=c1
  have hw3:IntKind.i64.wrap ((ws.length:Int)-1)=(ws.length:Int)-1:=KU _ (by omega)
  have i3:(0:Int)<=(ws.length:Int)-1:=by omega
  have i4:(ws.length:Int)-1< (ws.length:Int):=by omega
  have ht:((ws.length:Int)-1).toNat=ws.length-1:=by omega
  obtain⟨m,hm⟩:∃m:Nat,n %64=m:=⟨_,rfl⟩
  have hmi:(n:Int) %64=(m:Int):=by omega
  have i5:(0:Int)<=(m:Int):=by omega
  have i6:(m:Int)<=64:=by omega
  have hq:(x:Int)/2 ^ m=((x/2 ^ m:Nat):Int):=by rw[M3,Int.natCast_pow];rfl
  by_cases h3:x/2 ^ m=0
  ·have hE:fZ ws n=0:=by unfold fZ;rw[if_pos ⟨h1,.inr (by rw[hg,hm];exact h3)⟩]
   have hr:((x:Int)/2 ^ m !=0)=false:=by rw[hq,h3];rfl
   rw[hE]
   rw[hmi]at i2
   clear hE h1 h2 h3 hq hg c1 hm hA hx hz2
   go_enter func211,ntmps211
   go_wp2_with fail
   go_ret
   exact⟨rfl,rfl⟩
  ·have hE:fZ ws n=8:=by unfold fZ;rw[if_neg (fun h=>h.2.elim h2 (fun h4=>h3 (by rw[hg,hm]at h4;exact h4)))]
   have hr:((x:Int)/2 ^ m !=0)=true:=by rw[hq];simp only[bne_iff_ne,ne_eq];omega
   rw[hE]
   rw[hmi]at i2
   clear hE h1 h2 h3 hq hg c1 hm hA hx hz2
   go_enter func211,ntmps211
   go_wp2_with fail
   go_ret
   exact⟨rfl,rfl⟩
theorem wK (A:Option Addr) (ws:List Nat) (c n:Nat) (is:Bool) (w:World) (hA:Sl w A (ws.map uw)) (hn:n<=65536) (hl:ws.length<=1000000):
  Calls prog 223 #[.slice A ws.length c,.int .i64 (n:Nat),.bool is] w fun r w'=>r= .returned (.int .i64 (if fZ ws n=0 then(if is=true then 0 else 2)else fZ ws n))/\w'=w:=by
 have hck:=nV A ws c n w hA hn hl
 obtain⟨E,hE⟩:∃E,fZ ws n=E:=⟨_,rfl⟩
 rw[hE]at hck
 rw[hE]
 have HCK:=KO hck
 clear hck hE hA
 by_cases h0:E=0
 ·subst h0
  rw[if_pos rfl]
  cases is with
  |true=>
   rw[if_pos rfl]
   go_enter func223,ntmps223
   go_wp2_with fail
   refine HCK.out.mono ?_
   rintro e w1 ⟨rfl,rfl⟩
   go_wp2_with fail
   go_ret
   exact⟨rfl,rfl⟩
  |false=>
   rw[if_neg (by simp)]
   go_enter func223,ntmps223
   go_wp2_with fail
   refine HCK.out.mono ?_
   rintro e w1 ⟨rfl,rfl⟩
   go_wp2_with fail
   go_ret
   exact⟨rfl,rfl⟩
 ·rw[if_neg h0]
  have h1:(E !=0)=true:=by simpa using h0
  go_enter func223,ntmps223
  go_wp2_with fail
  refine HCK.out.mono ?_
  rintro e w1 ⟨rfl,rfl⟩
  go_wp2_with fail
  go_ret
  exact⟨rfl,rfl⟩
theorem CY (x m:Nat) (w:World) (hm:m< 64):Calls prog 162 #[.int .u64 (x:Nat),.int .i64 (m:Nat)] w fun r w'=>r= .returned (.bool (decide (x/2 ^ m %2=1)))/\w'=w:=by
 have i5:(0:Int)<=(m:Int):=by omega
 have i6:(m:Int)<=64:=by omega
 have hq:(x:Int)/2 ^ m %2=((x/2 ^ m %2:Nat):Int):=by rw[Int.natCast_emod,M3,Int.natCast_pow];rfl
 have hr:decide ((x:Int)/2 ^ m %2=1)=decide (x/2 ^ m %2=1):=by rw[hq];exact decide_eq_decide.2 (by omega)
 have HR:=KO hr
 clear hq hr
 go_enter func162,ntmps162
 go_wp2_with fail
 go_ret
 refine⟨?_,rfl⟩
 rw[<-HR.out]
 rfl
theorem vD {ws:List Nat} {k:Nat} (h:k< ws.length):ws.getD k 0=ws[k]'h:=by rw[Lf,K7 h];rfl
theorem qW (A:Option Addr) (ws:List Nat) (c s:Nat) (w:World) (hA:Sl w A (ws.map uw)) (hl:ws.length<=1000000) (hs:s< 64*ws.length):
  Calls prog 143 #[.slice A ws.length c,.int .i64 (s:Nat)] w fun r w'=>r= .returned (.bool (decide (fF ws s=1)))/\w'=w:=by
 have hk:s/64< ws.length:=by omega
 obtain⟨b,off,rfl,hb,c1⟩:=hA.one (s/64) hk
 obtain⟨x,hx⟩:∃x,ws[s/64]'hk=x:=⟨_,rfl⟩
 rw[hx]at c1
 obtain⟨K,hK⟩:∃K,s/64=K:=⟨_,rfl⟩
 obtain⟨m,hm⟩:∃m,s %64=m:=⟨_,rfl⟩
 have hbw:fF ws s=x/2 ^ m %2:=by unfold fF;rw[vD hk,hx,hm]
 have hbt:=fun w=>CY x m w (by omega)
 rw[hbw]
 rw[hK]at c1 hk
 have c2:w.cell? ⟨b,off+K,none⟩=some (.int .u64 (x:Nat)):=c1
 have i0:(s:Int)/64=(K:Int):=by omega
 have i1:(s:Int) %64=(m:Int):=by omega
 have i2:(0:Int)<=(K:Int):=by omega
 have i3:(K:Int)< (ws.length:Int):=by omega
 have i4:(0:Int)<=(s:Int):=by omega
 have hwk:wrap64 (K:Int)=(K:Int):=Ml _ (by omega)
 have HBT:=KO hbt
 clear hbt hbw c1 hx hK hm hA
 go_enter func143,ntmps143
 go_wp2_with fail
 refine(HBT.out _).mono ?_
 rintro e w1 ⟨rfl,rfl⟩
 go_wp2_with fail
 go_ret
 exact⟨rfl,rfl⟩
theorem Cj:∀(n y:Nat),y< 2 ^ n->(∀i,i< n->y/2 ^ i %2=0)->y=0
 |0,y,h,_=>by simpa using h
 |n+1,y,h,hz=>by
  have h0:=hz 0 (by omega)
  have h1:=Cj n (y/2) (by rw[MO]at h;omega) (fun i hi=>by
   have:=hz (i+1) (by omega)
   rwa [MO,LQ,<-Md]at this)
  simp at h0
  omega
theorem G6 {ws:List Nat} {n:Nat} (hw:∀x∈ws,x< 18446744073709551616) (hl:ws.length=(n+63)/64):((∀s,n<=s->s< 64*ws.length->fF ws s=0)↔fZ ws n=0):=by
 have hE:fZ ws n=0↔(n %64=0∨ws.getD (ws.length-1) 0/2 ^ (n %64)=0):=by
  unfold fZ
  by_cases h:n %64=0∨ws.getD (ws.length-1) 0/2 ^ (n %64)=0
  ·rw[if_pos ⟨hl,h⟩];exact⟨fun _=>h,fun _=>rfl⟩
  ·rw[if_neg (fun h2=>h h2.2)];exact⟨fun h2=>absurd h2 (by decide),fun h2=>absurd h2 h⟩
 rw[hE]
 by_cases hm:n %64=0
 ·exact Iff.intro (fun _=>Or.inl hm) (fun _ s h1 h2=>absurd h2 (by omega))
 ·have hk:ws.length-1< ws.length:=by omega
  have hx:=hw _ (Lh hk)
  rw[vD hk]
  have hbit:∀i,i< 64-n %64->fF ws (n+i)=ws[ws.length-1]'hk/2 ^ (n %64)/2 ^ i %2:=fun i hi=>by
   unfold fF
   rw[show(n+i)/64=ws.length-1 from by omega,show(n+i) %64=n %64+i from by omega,vD hk,Mt,Md]
  constructor
  ·intro h
   refine .inr (Cj (64-n %64) _ ?_ fun i hi=>?_)
   ·rw[Nat.div_lt_iff_lt_mul (MJ _),<-Mt,show 64-n %64+n %64=64 from by omega]
    exact hx
   ·rw[<-hbit i hi]
    exact h (n+i) (by omega) (by omega)
  ·rintro(h|h)
   ·exact absurd h hm
   ·intro s h1 h2
    have h3:=hbit (s-n) (by omega)
    rw[show n+(s-n)=s from by omega,h,Nat.zero_div]at h3
    exact h3
theorem CW (A:Option Addr) (ws:List Nat) (c n:Nat) (w:World) (hA:Sl w A (ws.map uw)) (hw:∀x∈ws,x< 18446744073709551616) (hn:n<=65536) (hl:ws.length<=1000000):
  Calls prog 153 #[.slice A ws.length c,.int .i64 (n:Nat)] w fun r w'=>r= .returned (.bool (decide (fZ ws n=0)))/\w'=w:=by
 have hw1:IntKind.i64.wrap ((n:Int)+63)=(n:Int)+63:=KU _ (by omega)
 by_cases h1:ws.length=(n+63)/64
 case neg=>
  have hE:decide (fZ ws n=0)=false:=by unfold fZ;rw[if_neg (fun h=>h1 h.1)];rfl
  have hz:((ws.length:Int)!=((n:Int)+63)/64)=true:=by simp;omega
  have hz2:¬(ws.length:Int)=((n:Int)+63)/64:=by omega
  rw[hE]
  clear hE h1
  go_enter func153,ntmps153
  go_wp2_with fail
  go_ret
  exact⟨rfl,rfl⟩
 case pos=>
 have hz:((ws.length:Int)!=((n:Int)+63)/64)=false:=by simp;omega
 have hom:=G6 hw h1
 obtain⟨D,hD⟩:∃D,decide (fZ ws n=0)=D:=⟨_,rfl⟩
 have hw2:IntKind.i64.wrap (64*(ws.length:Int))=64*(ws.length:Int):=KU _ (by omega)
 have HOM:=KO hom
 have HD:=KO hD
 have HA:=KO hA
 have hle:n<=64*ws.length:=by omega
 rw[hD]
 clear hom hD h1 hA
 go_enter func153,ntmps153
 go_wp2_with fail
 go_loopw [5] (fun i wr=>∃k:Nat,n<=k/\k<=64*ws.length/\i= .int .i64 k/\wr=w/\Hid (∀s,n<=s->s< k->fF ws s=0)) (fun i _=>64*ws.length-(intOf i).toNat)
 case atStart=>exact⟨n,KS _,hle,rfl,rfl,fun s h1 h2=>by omega⟩
 case round=>
  obtain⟨k,hk,hk2,rfl,hww,hs⟩:=hrel
  have hww2:=hww.symm
  subst hww2
  by_cases hlt:k< 64*ws.length
  ·have i1:(k:Int)< 64*(ws.length:Int):=by omega
   have his:=qW A ws c k w HA.out hl hlt
   have hbl:=Bc ws k
   by_cases hb:fF ws k=1
   ·rw[decide_eq_true hb]at his
    have HIS:=KO his
    have hf:D=false:=by
     rw[<-HD.out]
     refine decide_eq_false fun h=>?_
     have:=HOM.out.2 h k hk hlt
     omega
    have HDF:=KO hf
    clear his hf hbl hb
    go_wp2_with fail
    refine HIS.out.mono ?_
    rintro e w1 ⟨rfl,rfl⟩
    go_wp2_with fail
    go_ret
    refine⟨?_,rfl⟩
    rw[HDF.out]
    rfl
   ·rw[decide_eq_false hb]at his
    have HIS:=KO his
    have HB:=KO (show fF ws k=0 by omega)
    clear his hbl hb
    go_wp2_with fail
    refine HIS.out.mono ?_
    rintro e w1 ⟨rfl,rfl⟩
    go_wp2_with fail
    go_roundw
    case rel=>exact⟨k+1,by omega,by omega,by go_num,by first|trivial|rfl,fun s h1 h2=>by
     by_cases h3:s=k
     ·subst h3;exact HB.out
     ·exact hs.out s h1 (by omega)⟩
    case measure=>simp[intOf];omega
  ·have i1:¬(k:Int)< 64*(ws.length:Int):=by omega
   have hf:D=true:=by
    rw[<-HD.out]
    exact decide_eq_true (HOM.out.1 (fun s h1 h2=>hs.out s h1 (by omega)))
   have HDF:=KO hf
   clear hf
   go_wp2_with fail
   go_ret
   refine⟨?_,rfl⟩
   rw[HDF.out]
   rfl
def nv (n:Nat):Value:= .int .i64 (n:Int)
theorem jQ:(prog.info? 3).map (fun i=>(i.zero,i.size,i.bytes))=some (some (.int .i64 0),1,8):=by kernel_rfl
theorem p9 (ws:List Nat) (s n:Nat):places ws s (n+1)=places ws s n++(if fF ws (s+n)=1 then[s+n]else[]):=by
 unfold places
 rw[List.range'_concat,List.filter_append]
 congr 1
 by_cases h:fF ws (s+n)=1
 ·simp[h]
 ·simp[h]
theorem nH (A:Option Addr) (ws:List Nat) (c s n:Nat) (w:World) (hA:Sl w A (ws.map uw)) (hl:ws.length<=1000000) (hs:s+n<=64*ws.length):
  Calls prog 118 #[.slice A ws.length c,.int .i64 (s:Nat),.int .i64 ((s+n:Nat):Int)] w (iX 3 ((places ws s n).map nv) (places ws s n).length w):=by
 obtain⟨ti0,hi,hz0,hz1,hz2⟩:=info_parts jQ
 obtain⟨T,hT⟩:∃T,s+n=T:=⟨_,rfl⟩
 have HT:=KO hT
 have HA:=KO hA
 have HI:=KO (KW hi (KW hz0 (KW hz1 hz2)))
 rw[hT]at hs
 rw[hT]
 have hsT:s<=T:=by omega
 clear hT hA hi hz0 hz1 hz2
 go_enter func118,ntmps118
 go_wp2_with fail
 go_loopw [7,8] (fun o i wr=>∃(k:Nat) (A1:Option Addr) (c1 N:Nat),s<=k/\k<=T/\i= .int .i64 k/\o= .slice A1 N c1/\Hid (N=(places ws s (k-s)).length)/\Hid (wr.ownsRow w.heap.size 3 1 (.slice A1 N c1) N ((places ws s (k-s)).map nv))/\Hid (Below w.heap.size w wr)) (fun _ i _=>T-(intOf i).toNat)
 case atStart=>exact⟨s,none,0,0,KS _,hsT,rfl,rfl,by rw[Nat.sub_self];rfl,by rw[Nat.sub_self];exact World.ownsRow_nil _ _ _ _,KR _ _⟩
 case round=>
  obtain⟨k,A1,c1,N,hk,hk2,rfl,rfl,HN,HO,HB⟩:=hrel
  by_cases hlt:k< T
  ·have i1:(k:Int)< (T:Int):=by omega
   have his:=qW A ws c k wr (HA.out.below HB.out) hl (by omega)
   have hps:=p9 ws s (k-s)
   rw[show s+(k-s)=k from by omega]at hps
   have hnl:(places ws s (k-s)).length<=k-s:=by rw[dU];exact eZ _ _ _
   have hnl2:N<=64000000:=by have:=HN.out;omega
   by_cases hb:fF ws k=1
   ·rw[decide_eq_true hb]at his
    rw[if_pos hb]at hps
    have HIS:=KO his
    have HPS:=KO hps
    clear his hb hps hnl
    go_wp2_with fail
    refine HIS.out.mono ?_
    rintro e w1 ⟨rfl,rfl⟩
    have HSZ:=KO HB.out.size
    go_wp2_with (at_builtin;refine ag _ rfl (.tmp 18) (.tmp 20) _ rfl w.heap.size 3 ti0 _ 1 8 underlying27 HI.out.1 HI.out.2.1 HI.out.2.2.1 HI.out.2.2.2 rfl (by omega) (.slice A1 N c1) _ _ rfl (HO.out.alloc _) _ 1 _ [nv k] rfl ((Blk.new _ _ _).sl 0 _ (by intro j u hu;simpa[nv]using hu)) (by simp) (by simp[nv,Value.oneCell']) (by unfold maxLen;omega) (by omega) (by have:=HSZ.out;simp;omega) ?_;intro v2 w2 hown2 hg2;obtain⟨A2,c2,rfl,-,-⟩:=ak hown2)
    have hb2:Below w.heap.size w w2:=(HB.out.alloc HSZ.out _).grown hg2 (by have:=HSZ.out;simp;omega) (fun q hq=>(HO.out.lt q hq).1)
    have HO2:=KO hown2
    have HB2:=KO hb2
    clear hown2 hg2 hb2
    go_wp2_with fail
    go_roundw
    case rel=>exact⟨k+1,A2,c2,N+1,by omega,by omega,by go_num,rfl,by show _=_;rw[show k+1-s=(k-s)+1 from by omega,HPS.out,List.length_append,<-HN.out];rfl,by show World.ownsRow _ _ _ _ _ _ _;rw[show k+1-s=(k-s)+1 from by omega,HPS.out,List.map_append];exact HO2.out,HB2.out⟩
    case measure=>simp[intOf];omega
   ·rw[decide_eq_false hb]at his
    rw[if_neg hb,List.append_nil]at hps
    have HIS:=KO his
    have HPS:=KO hps
    clear his hb hps hnl
    go_wp2_with fail
    refine HIS.out.mono ?_
    rintro e w1 ⟨rfl,rfl⟩
    go_wp2_with fail
    go_roundw
    case rel=>exact⟨k+1,A1,c1,N,by omega,by omega,by go_num,rfl,by show _=_;rw[show k+1-s=(k-s)+1 from by omega,HPS.out];exact HN.out,by show World.ownsRow _ _ _ _ _ _ _;rw[show k+1-s=(k-s)+1 from by omega,HPS.out];exact HO.out,HB.out⟩
    case measure=>simp[intOf];omega
  ·have i1:¬(k:Int)< (T:Int):=by omega
   have hkT:k-s=n:=by have:=HT.out;omega
   rw[hkT]at HN HO
   have HN2:=HN
   go_wp2_with fail
   go_ret
   exact⟨A1,c1,by rw[<-HN2.out];rfl,by rw[<-HN2.out];exact HO.out,HB.out⟩
theorem IY (x l m:Nat) (h:l<=m):x/2 ^ l*2 ^ l %2 ^ m=tV x l m:=by
 unfold tV
 rw[show 2 ^ m=2 ^ l*2 ^ (m-l)from by rw[<-Mt,show l+(m-l)=m from by omega],Nat.mod_mul_right_div_self,LQ (2 ^ l) (2 ^ (m-l)),Nat.mul_mod_mul_right]
theorem ED (y m:Nat) (hm:m<=64):y*2 ^ (64-m) %18446744073709551616/2 ^ (64-m)=y %2 ^ m:=by
 rw[show 18446744073709551616=2 ^ m*2 ^ (64-m)from by rw[<-Mt,show m+(64-m)=64 from by omega],Nat.mul_mod_mul_right,Nat.mul_div_cancel _ (MJ _)]
theorem Jt (x l:Nat) (hx:x< 18446744073709551616):x/2 ^ l*2 ^ l< 18446744073709551616:=Nat.lt_of_le_of_lt (Nat.div_mul_le_self x (2 ^ l)) hx
theorem Gp (A:Option Addr) (ws:List Nat) (c k f t b1 b2 b3:Nat) (w:World) (hA:Sl w A (ws.map uw)) (hw:∀x∈ws,x< 18446744073709551616) (hl:ws.length<=1000000) (hk:k< ws.length) (h1:w.cell? ⟨b1,0,none⟩=some (.slice A ws.length c)) (h2:w.cell? ⟨b2,0,none⟩=some (.int .i64 (f:Nat))) (h3:w.cell? ⟨b3,0,none⟩=some (.int .i64 (t:Nat)))
  (ht:64*k< t) (hf:f< 64*k+64) (hft:f<=t) (htl:t<=64000000):
  Calls prog 230 #[.int .i64 (k:Nat),.pointer (some ⟨b1,0,none⟩),.pointer (some ⟨b2,0,none⟩),.pointer (some ⟨b3,0,none⟩)] w fun r w'=>r= .returned (.int .u64 ((tV (ws.getD k 0) (f-64*k) (min 64 (t-64*k)):Nat):Int))/\w'=w:=by
 obtain⟨b,off,rfl,hb,c1⟩:=hA.one k hk
 obtain⟨x,hx⟩:∃x,ws[k]'hk=x:=⟨_,rfl⟩
 have hx64:=hw _ (Lh hk)
 rw[hx]at c1 hx64
 rw[vD hk,hx]
 have c2:w.cell? ⟨b,off+k,none⟩=some (.int .u64 (x:Nat)):=c1
 have i2:(0:Int)<=(k:Int):=by omega
 have i3:(k:Int)< (ws.length:Int):=by omega
 have w1:IntKind.i64.wrap ((k:Int)*64)=(k:Int)*64:=KU _ (by omega)
 have w2:IntKind.i64.wrap ((f:Int)-(k:Int)*64)=(f:Int)-(k:Int)*64:=KU _ (by omega)
 have w3:IntKind.i64.wrap ((k:Int)+1)=(k:Int)+1:=KU _ (by omega)
 have w4:IntKind.i64.wrap (((k:Int)+1)*64)=((k:Int)+1)*64:=KU _ (by omega)
 have w5:IntKind.i64.wrap (((k:Int)+1)*64-(t:Int))=((k:Int)+1)*64-(t:Int):=KU _ (by omega)
 clear hw c1 hx hA
 obtain⟨l,hl0⟩:∃l:Nat,f-64*k=l:=⟨_,rfl⟩
 rw[hl0]
 obtain⟨m,hm0⟩:∃m:Nat,min 64 (t-64*k)=m:=⟨_,rfl⟩
 rw[hm0]
 have hlm:l<=m:=by omega
 have hm64:m<=64:=by omega
 obtain⟨y,hy⟩:∃y:Nat,x/2 ^ l*2 ^ l=y:=⟨_,rfl⟩
 have hy64:y< 18446744073709551616:=by rw[<-hy];exact Jt x l hx64
 have hyi:(x:Int)/2 ^ l*2 ^ l=(y:Int):=by rw[<-hy,MI,M3,Int.natCast_pow];rfl
 have hyw:IntKind.u64.wrap ((x:Int)/2 ^ l*2 ^ l)=(y:Int):=by rw[hyi];exact ny y hy64
 have hres:tV x l m=y %2 ^ m:=by rw[<-hy];exact(IY x l m hlm).symm
 rw[hres]
 obtain⟨R,hR⟩:∃R,y %2 ^ m=R:=⟨_,rfl⟩
 rw[hR]
 have HRR:=KO hR
 have HH:Hid (∀h:Nat,h=64-m->IntKind.u64.wrap ((y:Int)*2 ^ h)/2 ^ h=(R:Int)):=by
  show∀_,_
  rintro h rfl
  rw[<-hR,IntKind.wrap_u64,<-ED y m hm64,M3,Int.natCast_emod,MI,Int.natCast_pow]
  rfl
 have HY64:=KO hy64
 have HL0:=KO hl0
 have HM0:=KO hm0
 clear hyi hres hy64 hR
 go_enter func230,ntmps230
 go_upto_region 3 with fail
 by_cases hlow:64*k< f
 ·have hfl:(f:Int)-(k:Int)*64=(l:Int):=by omega
  have i5:(0:Int)< (l:Int):=by omega
  have i6:(l:Int)<=64:=by omega
  rw[hfl]
  clear w2 hy hl0 hm0
  go_upto_region 6 with fail
  by_cases hhi:t< 64*(k+1)
  ·obtain⟨h,hh⟩:∃h:Nat,64-m=h:=⟨_,rfl⟩
   have hfh:((k:Int)+1)*64-(t:Int)=(h:Int):=by have:=HM0.out;omega
   have j5:(0:Int)< (h:Int):=by omega
   have j6:(h:Int)<=64:=by omega
   have hz:=HH.out h hh.symm
   rw[hfh]
   clear w5 hh
   go_wp2_with fail
   go_ret
   exact⟨rfl,rfl⟩
  ·have j5:¬(0:Int)< ((k:Int)+1)*64-(t:Int):=by omega
   have hm:m=64:=by have:=HM0.out;omega
   have hym:R=y:=by rw[<-HRR.out,hm];exact Nat.mod_eq_of_lt HY64.out
   have HYM:=KO hym
   clear hym hm
   go_wp2_with fail
   go_ret
   refine⟨?_,rfl⟩
   rw[HYM.out]
   rfl
 ·have hl:l=0:=by omega
  have hxy:(x:Int)=(y:Int):=by rw[<-hy,hl];simp
  have i5:¬(0:Int)< (f:Int)-(k:Int)*64:=by omega
  rw[hxy]
  clear hy hl0 hm0 hyw hxy hl
  go_upto_region 6 with fail
  by_cases hhi:t< 64*(k+1)
  ·obtain⟨h,hh⟩:∃h:Nat,64-m=h:=⟨_,rfl⟩
   have hfh:((k:Int)+1)*64-(t:Int)=(h:Int):=by have:=HM0.out;omega
   have j5:(0:Int)< (h:Int):=by omega
   have j6:(h:Int)<=64:=by omega
   have hz:=HH.out h hh.symm
   rw[hfh]
   clear w5 hh
   go_wp2_with fail
   go_ret
   exact⟨rfl,rfl⟩
  ·have j5:¬(0:Int)< ((k:Int)+1)*64-(t:Int):=by omega
   have hm:m=64:=by have:=HM0.out;omega
   have hym:R=y:=by rw[<-HRR.out,hm];exact Nat.mod_eq_of_lt HY64.out
   have HYM:=KO hym
   clear hym hm
   go_wp2_with fail
   go_ret
   refine⟨?_,rfl⟩
   rw[HYM.out]
   rfl
section
open Go.Shelf
attribute [local go_sem] Oper.semAt_some
def kZ (f t:Nat):Nat:=(t+63)/64-f/64
def ol (ws:List Nat) (f t k:Nat):Nat:=tV (ws.getD (f/64+k) 0) (f-64*(f/64+k)) (min 64 (t-64*(f/64+k)))
def Fv (ws:List Nat) (f t k:Nat):Array Value:=#[.int .i64 ((64*(f/64+k):Nat):Int),.int .u64 ((ol ws f t k:Nat):Int)]
structure PartAt (w:World) (B1 B2 B3:Nat) (A:Option Addr) (ws:List Nat) (c f t:Nat):Prop where
 c1:w.cell? ⟨B1,0,none⟩=some (.slice A ws.length c)
 c2:w.cell? ⟨B2,0,none⟩=some (.int .i64 (f:Nat))
 c3:w.cell? ⟨B3,0,none⟩=some (.int .i64 (t:Nat))
 sl:Sl w A (ws.map uw)
def Gq (B1 B2 B3:Nat) (A:Option Addr) (n:Nat) (b:Nat):Prop:=b=B1∨b=B2∨b=B3∨(n≠0/\∃a,A=some a/\b=a.block)
theorem PartAt.of {w W:World} {B1 B2 B3:Nat} {A:Option Addr} {ws:List Nat} {c f t:Nat} (h:PartAt w B1 B2 B3 A ws c f t) (hs:w.heap.size<=W.heap.size) (hk:∀b,Gq B1 B2 B3 A ws.length b->W.heap[b]?=w.heap[b]?):PartAt W B1 B2 B3 A ws c f t:=by
 refine⟨(Mf (hk B1 (.inl rfl))).trans h.c1,(Mf (hk B2 (.inr (.inl rfl)))).trans h.c2,(Mf (hk B3 (.inr (.inr (.inl rfl))))).trans h.c3,?_⟩
 by_cases h0l:ws.length=0
 ·left;rw[List.eq_nil_of_length_eq_zero h0l];rfl
 rcases h.sl with h1|⟨b,off,hA1,hlt,hc⟩
 ·exact .inl h1
 ·exact .inr ⟨b,off,hA1,Nat.lt_of_lt_of_le hlt hs,fun j u hu=>(Mf (a:=⟨b,off+j,none⟩) (hk b (.inr (.inr (.inr ⟨h0l,_,hA1,rfl⟩))))).trans (hc j u hu)⟩
theorem DZ (B1 B2 B3:Nat) (A:Option Addr) (ws:List Nat) (c f t:Nat) (w:World) (hp:PartAt w B1 B2 B3 A ws c f t) (hw:∀x∈ws,x< 18446744073709551616) (hl:ws.length<=100000) (hft:f<=t) (ht:t<=64*ws.length):
  Yields Fence.wide prog 229 #[.pointer (some ⟨B1,0,none⟩),.pointer (some ⟨B2,0,none⟩),.pointer (some ⟨B3,0,none⟩)] (kZ f t) (Fv ws f t) (Gq B1 B2 B3 A ws.length) (fun _=>False) w:=by
 intro y I X W hsz hKp hI hX hY h0
 have hpW:=hp.of hsz hKp
 have hdd:∀k:Nat,(Fence.wide.depth.isSome=true->1<=k):=fun k h=>by cases h
 have hwf:∀f,Fence.wide.fn f:=fun _=>trivial
 have hdp:Fence.wide.depth=none:=rfl
 have hro:Fence.wide.round=none:=rfl
 have HH:=KO (KW hI (KW hX hY))
 have HW:=KO hw
 have c2:=hpW.c2
 have HP:=KO hpW
 obtain⟨q,hq⟩:∃q,f/64=q:=⟨_,rfl⟩
 have hqi:(f:Int)/64=(q:Int):=by omega
 have hwk:wrap64 (q:Int)=(q:Int):=Ml _ (by omega)
 have HQ:=KO hq
 clear hI hX hY hKp hp hw hq hpW
 refine callsIn_of_wp func229 rfl (hwf _) ?_ hro
 simp only[ntmps229,Ll,List.length_cons,List.length_nil,LD,LF,Array.replicate_succ,Array.replicate_zero,Mq,Me,LA,Mr]
 gi_wp2
 gi_loopw [6] (fun e wr=>∃k m:Nat,k<=kZ f t/\e= .int .i64 m/\Hid (m=q+k)/\I k wr/\Hid (PartAt wr B1 B2 B3 A ws c f t)) (fun e _=>t-(intOf e).toNat)
 case atStart=>exact⟨0,q,K8 _,rfl,rfl,h0,HP.out⟩
 case round=>
  clear h0 c2
  obtain⟨k,m,hk,rfl,hm,hi,hpa⟩:=hrel
  have d1:=hpa.out.c1
  have d2:=hpa.out.c2
  have d3:=hpa.out.c3
  have hmb:64*m<=t+127:=by have h1:=HQ.out;have h2:=hm.out;unfold kZ at hk;omega
  have w1:IntKind.i64.wrap ((m:Int)*64)=((64*m:Nat):Int):=by rw[KU _ (by omega)];omega
  obtain⟨M,hM⟩:∃M:Nat,64*m=M:=⟨_,rfl⟩
  rw[hM]at w1
  have HMM:=KO hM
  by_cases hlt:M< t
  ·have i1:(M:Int)< (t:Int):=by omega
   have hkn:k< kZ f t:=by have h1:=HQ.out;have h2:=hm.out;unfold kZ;omega
   have hmq:f/64+k=m:=by rw[hm.out,HQ.out]
   have hY':=HH.out.2.2 k wr hkn hi
   unfold Fv ol at hY'
   rw[hmq,hM]at hY'
   have hcf:=Gp A ws c m f t B1 B2 B3 wr hpa.out.sl HW.out (by omega) (by omega) d1 d2 d3 (by omega) (by have h1:=HQ.out;have h2:=hm.out;omega) hft (by omega)
   rw[hM]at hcf
   obtain⟨V,hV⟩:∃V:Nat,tV (ws.getD m 0) (f-M) (min 64 (t-M))=V:=⟨_,rfl⟩
   rw[hV]at hcf hY'
   obtain⟨fn,tmps,assign,body,hy,hR⟩:=hY'
   have HCF:=KO hcf
   have w2:IntKind.i64.wrap ((m:Int)+1)=((m+1:Nat):Int):=by rw[KU _ (by omega)];omega
   obtain⟨m1,hm1⟩:∃m1,m+1=m1:=⟨_,rfl⟩
   rw[hm1]at w2
   have HM1:=KO hm1
   clear hV hcf hM hmq hm1 hmb
   gi_wp2_with ((try first|refine⟨hdp,?_⟩|refine⟨hdd _,?_⟩);gi_at_call 230;refine(callsIn_wide.2 HCF.out).mono ?_;rintro e w1 ⟨rfl,rfl⟩)
   refine hR.mono ?_
   clear hR hy
   rintro e W2 (⟨rfl,hi2,hs2,hk2⟩|⟨rfl,hx2⟩)
   ·have HP2:=KO (hpa.out.of hs2 hk2)
    clear hk2
    gi_wp2
    go_roundw
    case rel=>exact⟨k+1,m1,by omega,rfl,by have h1:=HM1.out;have h2:=hm.out;show _=_;omega,hi2,HP2.out⟩
    case measure=>have h1:=HM1.out;have h2:=HMM.out;simp[intOf];omega
   ·gi_wp2
    first|refine KV (L6 rfl _ _ _) rfl ?_|refine bodyPost_end (L6 rfl _ _ _) rfl ?_
    exact⟨⟨_,rfl⟩,.inr hx2⟩
  ·have i1:¬(M:Int)< (t:Int):=by omega
   have hkn:k=kZ f t:=by have h1:=HQ.out;have h2:=hm.out;unfold kZ at hk ⊢;omega
   have HI2:=KO hi
   rw[hkn]at HI2
   clear hM hmb hi hkn
   gi_wp2
   first|refine KV (L6 rfl _ _ _) rfl ?_|refine bodyPost_end (L6 rfl _ _ _) rfl ?_
   exact⟨⟨_,rfl⟩,.inl HI2.out⟩
end
theorem IG {P:Program} {ops:Array Oper} {Q:Exit->Act->World->Prop} {md:Region.Mode} (I:(Nat->Bool)->Act->World->Prop)
  (hwf:∀(i:Nat) (o:Oper),ops[i]?=some o->∀e∈o.after,Nh md e=true->e.on< i)
  (hstep:∀(L:Nat->Bool) (a:Act) (w:World) (i:Nat) (o:Oper),ops[i]?=some o->L i=false->(∀e∈o.after,Nh md e=true->L e.on=true)->I L a w->wpOp P ops Q i (fun a' w'=>I (fun j=>if j=i then true else L j) a' w') a w)
  (hend:∀L a w,(∀i,i< ops.size->L i=true)->I L a w->Q .normal a w):
  ∀(fuel:Nat) (listed:Array Bool) a w,listed.size=ops.size->listed.toList.countP (·=false)<=fuel->I (fun j=>listed.getD j false) a w->wpAny P md ops Q fuel listed a w:=by
 have hfull:∀(listed:Array Bool),listed.size=ops.size->Region.ready md ops listed=[]->∀i,i< ops.size->listed.getD i false=true:=by
  intro listed hsz hr i
  induction i using Ng with
  |_ i ih=>
   intro hi
   have hmem:i∉Region.ready md ops listed:=by rw[hr];simp
   have ho:ops[i]?=some ops[i]:=Array.getElem?_eq_getElem hi
   rw[mem_ready]at hmem
   have hall:∀e∈(ops[i]).after,Nh md e=true->listed.getD e.on false=true:=fun e he hb=>ih e.on (hwf i _ ho e he hb) (by have:=hwf i _ ho e he hb;omega)
   have h2:¬listed.getD i true=false:=fun h=>hmem ⟨h,_,ho,hall⟩
   have hl:i< listed.size:=by omega
   simp[Array.getD,hl]at h2 ⊢
   exact h2
 intro fuel
 induction fuel with
 |zero=>
  intro listed a w hsz hc hI
  have hall:∀i,i< ops.size->listed.getD i false=true:=by
   intro i hi
   have hl:i< listed.size:=by omega
   have hz:listed.toList.countP (·=false)=0:=by omega
   rw[List.countP_eq_zero]at hz
   have:=hz (listed[i]) (by simp)
   simp[Array.getD,hl]
   simpa using this
  refine⟨?_,hend _ a w hall hI⟩
  cases hr:Region.ready md ops listed with
  |nil=>rfl
  |cons x xs=>
   have hx:x∈Region.ready md ops listed:=by rw[hr];simp
   rw[mem_ready]at hx
   obtain⟨h1,o,ho,_⟩:=hx
   have hxs:x< ops.size:=(Array.getElem?_eq_some_iff.1 ho).1
   have h2:=hall x hxs
   have hl:x< listed.size:=by omega
   simp[Array.getD,hl]at h1 h2
   rw[h1]at h2
   cases h2
 |succ fuel ih=>
  intro listed a w hsz hc hI
  refine⟨fun hr=>hend _ a w (hfull listed hsz hr) hI,fun i hi=>?_⟩
  rw[mem_ready]at hi
  obtain⟨h1,o,ho,hall⟩:=hi
  have his:i< listed.size:=by have:=(Array.getElem?_eq_some_iff.1 ho).1;omega
  have hLi:listed.getD i false=false:=by simpa[Array.getD,his]using h1
  refine wpOp_mono (fun a' w' h=>ih (listed.setIfInBounds i true) a' w' (by simpa using hsz) ?_ ?_) (hstep _ a w i o ho hLi hall hI)
  ·have hcnt:∀(l:List Bool) (i:Nat) (hi:i< l.length),l[i]'hi=false->(l.set i true).countP (·=false)+1=l.countP (·=false):=by
    intro l
    induction l with
    |nil=>intro i hi;simp at hi
    |cons x l ihl=>
     intro i hi hx
     cases i with
     |zero=>simp at hx;subst hx;simp
     |succ i=>
      have:=ihl i (by simpa using hi) (by simpa using hx)
      simp only[LK,List.countP_cons]
      omega
   have hb:listed[i]'his=false:=by simpa[Array.getD,his]using hLi
   have:=hcnt listed.toList i (by simpa using his) (by simpa using hb)
   rw[Array.toList_setIfInBounds]
   omega
  ·have hfun:(fun j=>(listed.setIfInBounds i true).getD j false)=(fun j=>if j=i then true else listed.getD j false):=by
    funext j
    by_cases hj:j=i
    ·subst hj;simp[Array.getD,his]
    ·rw[if_neg hj];exact getD_set_ne false (fun e=>hj e.symm)
   rw[hfun]
   exact h
theorem aH {P:Program} {id:Nat} {ops:Array Oper} {Q:Exit->Act->World->Prop} {a0:Act} {w0:World} (hm:P.follows .mixedOrders=true)
  (hwf:(Lt ops.size).all (fun i=>((ops[i]?).map fun o=>o.after.all fun e=>!Nh .any e||decide (e.on< i)).getD true)=true)
  (I:(Nat->Bool)->Act->World->Prop) (h0:I (fun _=>false) a0 w0.drew)
  (hstep:∀(L:Nat->Bool) (a:Act) (w:World) (i:Nat) (o:Oper),ops[i]?=some o->L i=false->(∀e∈o.after,Nh .any e=true->L e.on=true)->I L a w->wpOp P ops Q i (fun a' w'=>I (fun j=>if j=i then true else L j) a' w') a w)
  (hend:∀L a w,(∀i,i< ops.size->L i=true)->I L a w->Q .normal a w):(Code.region id ops true).wp P Q a0 w0:=by
 refine wp_region_any hm ?_
 refine IG I ?_ hstep hend ops.size (Array.replicate ops.size false) a0 _ (by simp) (KY List.countP_le_length (by simp)) ?_
 ·intro i o ho e he hb
  rw[MC]at hwf
  have:=hwf i (by simpa using(Array.getElem?_eq_some_iff.1 ho).1)
  rw[ho]at this
  simp[Array.all_eq_true]at this
  obtain⟨k,hk,rfl⟩:=Array.mem_iff_getElem.1 he
  have h:=this k hk
  rw[hb]at h
  simpa using h
 ·have:(fun j=>(Array.replicate ops.size false).getD j false)=fun _=>false:=by
   funext j
   by_cases hj:j< ops.size <;> simp[Array.getD,hj]
  rw[this]
  exact h0
theorem DI {F:Fence} {n:Nat} {P:Program} {ops:Array Oper} {Q:Exit->Act->World->Prop} {md:Region.Mode} (I:(Nat->Bool)->Act->World->Prop)
  (hwf:∀(i:Nat) (o:Oper),ops[i]?=some o->∀e∈o.after,Nh md e=true->e.on< i)
  (hstep:∀(L:Nat->Bool) (a:Act) (w:World) (i:Nat) (o:Oper),ops[i]?=some o->L i=false->(∀e∈o.after,Nh md e=true->L e.on=true)->I L a w->wpOpIn F n P ops Q i (fun a' w'=>I (fun j=>if j=i then true else L j) a' w') a w)
  (hend:∀L a w,(∀i,i< ops.size->L i=true)->I L a w->Q .normal a w):
  ∀(fuel:Nat) (listed:Array Bool) a w,listed.size=ops.size->listed.toList.countP (·=false)<=fuel->I (fun j=>listed.getD j false) a w->wpAnyIn F n P md ops Q fuel listed a w:=by
 have hfull:∀(listed:Array Bool),listed.size=ops.size->Region.ready md ops listed=[]->∀i,i< ops.size->listed.getD i false=true:=by
  intro listed hsz hr i
  induction i using Ng with
  |_ i ih=>
   intro hi
   have hmem:i∉Region.ready md ops listed:=by rw[hr];simp
   have ho:ops[i]?=some ops[i]:=Array.getElem?_eq_getElem hi
   rw[mem_ready]at hmem
   have hall:∀e∈(ops[i]).after,Nh md e=true->listed.getD e.on false=true:=fun e he hb=>ih e.on (hwf i _ ho e he hb) (by have:=hwf i _ ho e he hb;omega)
   have h2:¬listed.getD i true=false:=fun h=>hmem ⟨h,_,ho,hall⟩
   have hl:i< listed.size:=by omega
   simp[Array.getD,hl]at h2 ⊢
   exact h2
 intro fuel
 induction fuel with
 |zero=>
  intro listed a w hsz hc hI
  have hall:∀i,i< ops.size->listed.getD i false=true:=by
   intro i hi
   have hl:i< listed.size:=by omega
   have hz:listed.toList.countP (·=false)=0:=by omega
   rw[List.countP_eq_zero]at hz
   have:=hz (listed[i]) (by simp)
   simp[Array.getD,hl]
   simpa using this
  refine⟨?_,hend _ a w hall hI⟩
  cases hr:Region.ready md ops listed with
  |nil=>rfl
  |cons x xs=>
   have hx:x∈Region.ready md ops listed:=by rw[hr];simp
   rw[mem_ready]at hx
   obtain⟨h1,o,ho,_⟩:=hx
   have hxs:x< ops.size:=(Array.getElem?_eq_some_iff.1 ho).1
   have h2:=hall x hxs
   have hl:x< listed.size:=by omega
   simp[Array.getD,hl]at h1 h2
   rw[h1]at h2
   cases h2
 |succ fuel ih=>
  intro listed a w hsz hc hI
  refine⟨fun hr=>hend _ a w (hfull listed hsz hr) hI,fun i hi=>?_⟩
  rw[mem_ready]at hi
  obtain⟨h1,o,ho,hall⟩:=hi
  have his:i< listed.size:=by have:=(Array.getElem?_eq_some_iff.1 ho).1;omega
  have hLi:listed.getD i false=false:=by simpa[Array.getD,his]using h1
  refine wpOpIn_mono (fun a' w' h=>ih (listed.setIfInBounds i true) a' w' (by simpa using hsz) ?_ ?_) (hstep _ a w i o ho hLi hall hI)
  ·have hcnt:∀(l:List Bool) (i:Nat) (hi:i< l.length),l[i]'hi=false->(l.set i true).countP (·=false)+1=l.countP (·=false):=by
    intro l
    induction l with
    |nil=>intro i hi;simp at hi
    |cons x l ihl=>
     intro i hi hx
     cases i with
     |zero=>simp at hx;subst hx;simp
     |succ i=>
      have:=ihl i (by simpa using hi) (by simpa using hx)
      simp only[LK,List.countP_cons]
      omega
   have hb:listed[i]'his=false:=by simpa[Array.getD,his]using hLi
   have:=hcnt listed.toList i (by simpa using his) (by simpa using hb)
   rw[Array.toList_setIfInBounds]
   omega
  ·have hfun:(fun j=>(listed.setIfInBounds i true).getD j false)=(fun j=>if j=i then true else listed.getD j false):=by
    funext j
    by_cases hj:j=i
    ·subst hj;simp[Array.getD,his]
    ·rw[if_neg hj];exact getD_set_ne false (fun e=>hj e.symm)
   rw[hfun]
   exact h
theorem dY {F:Fence} {n:Nat} {P:Program} {id:Nat} {ops:Array Oper} {Q:Exit->Act->World->Prop} {a0:Act} {w0:World} (hm:P.follows .mixedOrders=true)
  (hwf:(Lt ops.size).all (fun i=>((ops[i]?).map fun o=>o.after.all fun e=>!Nh .any e||decide (e.on< i)).getD true)=true)
  (I:(Nat->Bool)->Act->World->Prop) (h0:I (fun _=>false) a0 w0.drew)
  (hstep:∀(L:Nat->Bool) (a:Act) (w:World) (i:Nat) (o:Oper),ops[i]?=some o->L i=false->(∀e∈o.after,Nh .any e=true->L e.on=true)->I L a w->wpOpIn F n P ops Q i (fun a' w'=>I (fun j=>if j=i then true else L j) a' w') a w)
  (hend:∀L a w,(∀i,i< ops.size->L i=true)->I L a w->Q .normal a w):(Code.region id ops true).wpIn F n P Q a0 w0:=by
 refine wpIn_region_any hm ?_
 refine DI I ?_ hstep hend ops.size (Array.replicate ops.size false) a0 _ (by simp) (KY List.countP_le_length (by simp)) ?_
 ·intro i o ho e he hb
  rw[MC]at hwf
  have:=hwf i (by simpa using(Array.getElem?_eq_some_iff.1 ho).1)
  rw[ho]at this
  simp[Array.all_eq_true]at this
  obtain⟨k,hk,rfl⟩:=Array.mem_iff_getElem.1 he
  have h:=this k hk
  rw[hb]at h
  simpa using h
 ·have:(fun j=>(Array.replicate ops.size false).getD j false)=fun _=>false:=by
   funext j
   by_cases hj:j< ops.size <;> simp[Array.getD,hj]
  rw[this]
  exact h0
theorem oF {F:Fence} {n:Nat} {P:Program} (w:World) {ops:Array Oper} {o:Oper} {a:Act} {K:Act->World->Prop} {Q:Exit->Act->World->Prop} {E:Prop} (hgd:o.guard=none) (s x:Operand) (t:TypeId)
  (ho:o.op= .call {callee:= .builtin .append,args:=#[s,x],argTypes:=#[t,t]})
  (base:Nat) (e:TypeId) (i:TypeInfo) (z:Value) (size bytes:Nat) (ht:P.underlying t=some (.slice e)) (hi:P.info? e=some i) (hz:i.zero=some z)
  (hsize:i.size=size) (hby:i.bytes=bytes) (hzs:z.cells.size=size) (hsz:0< size)
  (v:Value) (k:Nat) (xs:List Value) (hs:a.eval s=v) (hown:w.ownsRow base e size v k xs)
  (A:Option Addr) (m c:Nat) (news:List Value) (hx:a.eval x= .slice A m c) (hr:Sl w A news) (hl:news.length=m*size) (h1:∀u∈news,u.oneCell'=true)
  (h63:k+m<=maxLen) (hbytes:(k+m)*bytes<=140737488355328) (hbase:base<=w.heap.size)
  (h:∀v' w',w'.ownsRow base e size v' (k+m) (xs++news)->w.grownBy w' v.ownBlock->K (a.put o.dst v') w'):
  if L8 o (yielded ops a.tmps)=true then Oper.wpIn F n P o a w K Q else E:=by
 have hw:L8 o (yielded ops a.tmps)=true:=by simp[L8,hgd]
 rw[if_pos hw]
 obtain⟨v',w',hrun,h2,h3⟩:=ji (P:=P) w base t o.type e i z size bytes ht hi hz hsize hby hzs hsz v k xs hown A m c news hr hl h1 h63 hbytes hbase
 unfold Oper.wpIn
 refine⟨?_,?_⟩
 ·simp[Oper.about,ho,resolve,Target.leads,Sem.run_pure]
 ·rw[Oper.semAt_plain F _ _ (by rw[ho];intro c hc';cases hc')]
  simp[execOp,ho,resolve,invoke,builtin,hs,hx,hrun,Result.andThen]
  exact h v' w' h2 h3
theorem mD {F:Fence} {n:Nat} {P:Program} {f:FuncId} {args:Array Value} {w:World} {R:Ending->World->Prop} (l:Nat) (h:CallsIn F n P f args w R):CallsIn (F.inRound l) n P f args w R:=h
theorem rP {F:Fence} {P:Program} {fn:Func} {R:Ending->World->Prop} {tmps:Array Value} {D:Nat} {w:World} {v:Value}
  (hD:w.heap[D]?=some (.deferred (some []))) (hr:(results fn tmps).run P (w.putObj D (.deferred none))= .ok v (w.putObj D (.deferred none))) (hR:R (.returned v) (w.putObj D (.deferred none))):
  bodyPostM F 0 P fn R .ret {tmps:=tmps,defers:=[{target:= .collected D,args:=#[]}]} w:=
 ⟨by simp,.inl ⟨_,_,rfl,run_takeDeferred hD,⟨_,hr,hR⟩⟩⟩
section
open Go.Shelf
attribute [local go_sem] Oper.semAt_some
def jN (f t k:Nat):Nat:=if k=0 then f else min t (64*(f/64+k))
theorem EQ {ws:List Nat} {f t k:Nat} (hft:f<=t) (hk:k< kZ f t):bf ws f (jN f t (k+1)-f)=bf ws f (jN f t k-f)+pc 64 (ol ws f t k):=by
 unfold kZ at hk
 have hq:64*(f/64+k)< t:=by omega
 have h1:jN f t (k+1)=64*(f/64+k)+min 64 (t-64*(f/64+k)):=by unfold jN;rw[if_neg (by omega)];omega
 have h0:jN f t k=64*(f/64+k)+(f-64*(f/64+k)):=by
  unfold jN
  by_cases hk0:k=0
  ·rw[if_pos hk0,hk0];omega
  ·rw[if_neg hk0];omega
 obtain⟨q,hqq⟩:∃q,f/64+k=q:=⟨_,rfl⟩
 have hl:f-64*q<=min 64 (t-64*q):=by
  rcases Nat.eq_zero_or_pos k with h|h <;> omega
 unfold ol
 rw[hqq]at h1 h0 hq ⊢
 rw[Jl _ _ _ hl (by omega),<-uX ws q _ _ (by omega),<-h0]
 have hp:f<=jN f t k:=by rw[h0];rcases Nat.eq_zero_or_pos k with h|h <;> omega
 rw[show jN f t (k+1)-f=(jN f t k-f)+(min 64 (t-64*q)-(f-64*q))from by omega,rO,show f+(jN f t k-f)=jN f t k from by omega]
theorem Ib {f t:Nat} (hft:f<=t):jN f t (kZ f t)=t:=by
 unfold jN kZ
 by_cases h:(t+63)/64-f/64=0
 ·rw[if_pos h];omega
 ·rw[if_neg h];omega
theorem Ha (ws:List Nat) (f t k:Nat) (hw:∀x∈ws,x< 18446744073709551616):ol ws f t k< 18446744073709551616:=by
 unfold ol tV
 refine Nat.lt_of_le_of_lt (KY (Nat.div_mul_le_self _ _) (Nat.mod_le _ _)) ?_
 rw[Lf]
 by_cases h:f/64+k< ws.length
 ·rw[K7 h];exact hw _ (Lh h)
 ·rw[Mg (by omega)];decide
theorem zY (A:Option Addr) (n c f t:Nat) (w:World):
  Calls prog 224 #[.slice A n c,.int .i64 (f:Nat),.int .i64 (t:Nat)] w fun r w'=>
   r= .returned (.func (.func 229) #[] #[.pointer (some ⟨w.heap.size,0,none⟩),.pointer (some ⟨w.heap.size+1,0,none⟩),.pointer (some ⟨w.heap.size+1+1,0,none⟩)])/\w'=((w.alloc (.cells #[.slice A n c] 25)).alloc (.cells #[.int .i64 (f:Nat)] 3)).alloc (.cells #[.int .i64 (t:Nat)] 3):=by
 go_enter func224,ntmps224
 go_wp2
 go_ret
 exact⟨rfl,rfl⟩
theorem tq {P:Prop} (h:P:=by
  iterate 4 apply Exists.intro
  refine⟨rfl,?_,?_,?_,?_,?_,?_,?_⟩
  ·first|exact F0.out|exact fun _=>rfl
  ·first|exact F1.out|exact fun _=>rfl
  ·first|exact F2.out|exact fun _=>rfl
  ·first|exact F3.out|exact fun _=>rfl
  ·first|exact F4.out|exact fun _=>rfl|(intro h;refine absurd h ?_;simp;done;done)
  ·first|exact F5.out|exact fun _=>rfl
  ·first|(intro h;have:=F6.out (by simpa using h);simp[this];done)|exact(fun h=>⟨by simp,by have:=(F6.out (by simpa using h)).2;simp[this]⟩)|exact(fun h=>⟨by have:=(F6.out (by simpa using h)).1;simp[this],by simp⟩)|(intro _;simp[l0,l2];done)):P:=h
theorem vQ (A:Option Addr) (ws:List Nat) (c n f t:Nat) (w:World) (hA:Sl w A (ws.map uw)) (hw:∀x∈ws,x< 18446744073709551616) (hl:ws.length<=100000) (hn:n<=65536) (hE:fZ ws n=0) (hft:f<=t) (htn:t<=n):
  Calls prog 212 #[.slice A ws.length c,.int .i64 (n:Nat),.int .i64 (f:Nat),.int .i64 (t:Nat)] w fun r w'=>r= .returned (.tuple #[.int .i64 (bf ws f (t-f):Nat),.int .i64 0])/\Below w.heap.size w w':=by
 refine bD (_F:=Fence.wide) ?_
 have hdd:∀k:Nat,(Fence.wide.depth.isSome=true->1<=k):=fun k h=>by cases h
 have hwf:∀f,Fence.wide.fn f:=fun _=>trivial
 have hdp:Fence.wide.depth=none:=rfl
 have hro:Fence.wide.round=none:=rfl
 have hlen:ws.length=(n+63)/64:=by
  unfold fZ at hE
  by_cases h:ws.length=(n+63)/64/\(n %64=0∨ws.getD (ws.length-1) 0/2 ^ (n %64)=0)
  ·exact h.1
  ·rw[if_neg h]at hE;cases hE
 have HTL:=KO (show t<=64*ws.length by omega)
 have hask:=fun W (hA:Sl W A (ws.map uw))=>wK A ws c n true W hA hn (by omega)
 rw[hE,if_pos rfl,if_pos rfl]at hask
 have HAS:=KO hask
 have i0:(0:Int)<=(f:Int):=by omega
 have i1:(f:Int)<=(t:Int):=by omega
 have i2:(t:Int)<=(n:Int):=by omega
 have HA:=KO hA
 have HWS:=KO hw
 clear hlen hask hE hA hw
 refine callsIn_of_wp_marks func212 rfl (hwf _) ?_ hro
 simp only[ntmps212,Ll,List.length_cons,List.length_nil,LD,LF,Array.replicate_succ,Array.replicate_zero,Mq,Me,LA,Mr]
 gi_wp2_with (first
  |((try refine⟨hdd _,?_⟩);gi_at_call 223;refine(callsIn_wide.2 (HAS.out _ (HA.out.below ((KR _ _).alloc (KS _) _)))).mono ?_;rintro e w1 ⟨rfl,rfl⟩)
  |((try refine⟨hdd _,?_⟩);gi_at_call 224;refine(callsIn_wide.2 (zY A _ c f t _)).mono ?_;rintro e w1 ⟨rfl,rfl⟩))
 obtain⟨g,hg⟩:∃g,w.heap.size=g:=⟨_,rfl⟩
 obtain⟨W0,hW0⟩:∃W0,(((w.alloc (.cells #[.int .i64 0] 3)).alloc (.cells #[.slice A ws.length c] 25)).alloc (.cells #[.int .i64 (f:Nat)] 3)).alloc (.cells #[.int .i64 (t:Nat)] 3)=W0:=⟨_,rfl⟩
 rw[hW0]
 have b0:Blk W0 w.heap.size 3 #[.int .i64 0]:=by rw[<-hW0];exact(((Blk.new w _ _).alloc _).alloc _).alloc _
 have b1:Blk W0 (w.heap.size+1) 25 #[.slice A ws.length c]:=by
  rw[<-hW0];have:=Blk.new (w.alloc (.cells #[.int .i64 0] 3)) 25 #[.slice A ws.length c]
  rw[KX]at this
  exact(this.alloc _).alloc _
 have b2:Blk W0 (w.heap.size+1+1) 3 #[.int .i64 (f:Nat)]:=by
  rw[<-hW0];have:=Blk.new ((w.alloc (.cells #[.int .i64 0] 3)).alloc (.cells #[.slice A ws.length c] 25)) 3 #[Value.int .i64 (f:Nat)]
  rw[KX,KX]at this
  exact this.alloc _
 have b3:Blk W0 (w.heap.size+1+1+1) 3 #[.int .i64 (t:Nat)]:=by
  rw[<-hW0];have:=Blk.new (((w.alloc (.cells #[.int .i64 0] 3)).alloc (.cells #[.slice A ws.length c] 25)).alloc (.cells #[.int .i64 (f:Nat)] 3)) 3 #[Value.int .i64 (t:Nat)]
  rwa [KX,KX,KX]at this
 have hb0:Below w.heap.size w W0:=by
  rw[<-hW0];exact((((KR _ w).alloc (KS _) _).alloc (by simp) _).alloc (by simp;omega) _).alloc (by simp;omega) _
 have hs0:W0.heap.size=w.heap.size+4:=by rw[<-hW0];simp
 have hAl:ws.length≠0->∀a,A=some a->a.block< w.heap.size:=fun h a ha=>by
  obtain⟨b,off,hb,hlt,_⟩:=HA.out.one 0 (by omega)
  rw[ha]at hb
  obtain rfl:=KQ hb
  exact hlt
 have hp0:PartAt W0 (w.heap.size+1) (w.heap.size+1+1) (w.heap.size+1+1+1) A ws c f t:=⟨b1.cell 0,b2.cell 0,b3.cell 0,HA.out.below hb0⟩
 clear hW0
 rw[hg]at b0 hb0 hs0 hAl hp0 ⊢
 clear b1 b2 b3
 refine kG hdp hwf hro rfl (enters_of func229 (by kernel_rfl) rfl)
  (DZ (g+1) (g+1+1) (g+1+1+1) A ws c f t W0 hp0 HWS.out hl hft HTL.out) (by rintro b (h|h|h|⟨h,a,ha,h2⟩) <;> first|omega|(have:=hAl h a ha;omega)) (fun _ h=>h.elim) (fun _=>rfl)
  (fun k W=>Blk W g 3 #[.int .i64 ((bf ws f (jN f t k-f):Nat):Int)]/\Below g w W)
  (fun _ _=>False)
  (fun k=>[(35,.int .i64 ((64*(f/64+k):Nat):Int)),(36,.int .u64 ((ol ws f t k:Nat):Int)),(12,.int .u64 ((ol ws f t k:Nat):Int))])
  ?stab (fun _ _ _ h _=>h) ⟨by rw[show jN f t 0-f=0 from by unfold jN;simp];exact b0,hb0⟩ ?assign ?body ?done (fun _ _ h _=>h.elim)
 case stab=>
  rintro k A2 B ⟨hB0,hbl⟩ hm
  refine⟨hB0.mod hm (by simp;omega),?_⟩
  exact hbl.trans (hm.below (by have:=hB0.lt;omega) (by rintro k (h|h|h) <;> first|exact h.elim|omega))
 case assign=>
  intro l k hk A2 C hC
  simp only[Fv]
  gi_wp2
  exact hC
 case body=>
  rintro l k hk A2 ⟨hB0,hbl⟩ hsA
  have hst:=EQ (ws:=ws) hft hk
  have hV64:=Ha ws f t k HWS.out
  have hcl:=eZ ws (jN f t (k+1)-f) f
  have hpl:jN f t (k+1)<=t:=by unfold jN;split <;> omega
  obtain⟨S,hS⟩:∃S,bf ws f (jN f t k-f)=S:=⟨_,rfl⟩
  obtain⟨V,hV⟩:∃V,ol ws f t k=V:=⟨_,rfl⟩
  obtain⟨Y,hY⟩:∃V,64*(f/64+k)=V:=⟨_,rfl⟩
  obtain⟨C,hC⟩:∃C,pc 64 V=C:=⟨_,rfl⟩
  rw[hS]at hB0 hst
  rw[hV]at hst hV64 ⊢
  rw[hC]at hst
  rw[hY,hst]
  rw[hst]at hcl
  have hon:=fun W=>AR V W hV64
  rw[hC]at hon
  have HON:=KO hon
  have hw1:IntKind.i64.wrap ((S:Int)+(C:Int))=((S+C:Nat):Int):=by rw[KU _ (by omega)];omega
  obtain⟨Z,hZ⟩:∃Z,S+C=Z:=⟨_,rfl⟩
  rw[hZ]at hw1 ⊢
  have cg:A2.cell? ⟨g,0,none⟩=some (.int .i64 (S:Nat)):=hB0.cell 0
  have fg:A2.frozen? ⟨g,0,none⟩=false:=hB0.frozen 0
  have HCG:=KO cg
  have HFG:=KO fg
  have HB0:=KO hB0
  have HBL:=KO hbl
  have HGL:=KO hB0.lt
  clear hst hV64 hcl hpl hS hV hY hC hZ hon cg fg hB0 hbl
  simp only[rt,List.foldl_cons,List.foldl_nil]
  gi_wp2
  refine dY (by kernel_rfl) (by kernel_rfl) (fun L a W=>∃t37 t38 t39 t40:Value,a=⟨#[.slice A ws.length c,.int .i64 (n:Nat),.int .i64 (f:Nat),.int .i64 (t:Nat),undef,undef,undef,undef,.pointer (some ⟨g,0,none⟩),.int .i64 0,.int .i64 0,undef,.int .u64 (V:Nat),.slice A ws.length c,.int .i64 (n:Nat),.int .i64 (f:Nat),.bool true,.bool true,.int .i64 (f:Nat),.int .i64 (t:Nat),.bool true,.bool true,.bool true,.int .i64 (t:Nat),.int .i64 (n:Nat),.bool true,.bool true,.int .i64 0,.int .i64 0,.bool false,undef,.slice A ws.length c,.int .i64 (f:Nat),.int .i64 (t:Nat),.func (.func 229) #[] #[.pointer (some ⟨g+1,0,none⟩),.pointer (some ⟨g+1+1,0,none⟩),.pointer (some ⟨g+1+1+1,0,none⟩)],.int .i64 (Y:Nat),.int .u64 (V:Nat),t37,t38,t39,t40,undef],[]⟩/\(L 0=true->t37= .int .i64 (S:Nat))/\(L 1=true->t38= .int .u64 (V:Nat))/\(L 2=true->t39= .int .i64 (C:Nat))/\(L 3=true->t40= .int .i64 (Z:Nat))/\(L 4=false->W=A2.drew)/\(L 4=true->W=A2.drew.setCell ⟨g,0,none⟩ (.int .i64 (Z:Nat)))/\(L 4=true->L 0=true/\L 2=true)) ?h0 ?hstep ?hend
  case h0=>
   have no:∀{X:Prop},(fun _:Nat=>false) 0=true->X:=fun h=>absurd h Bool.false_ne_true
   exact⟨undef,undef,undef,undef,rfl,no,no,no,no,fun _=>rfl,no,no⟩
  case hend=>
   rintro L a W hall ⟨t37,t38,t39,t40,rfl,-,-,-,-,-,h4,-⟩
   have hW:=h4 (hall 4 (by decide))
   subst hW
   have hgk:g≠W0.heap.size/\g≠W0.heap.size+1/\¬Gq (g+1) (g+1+1) (g+1+1+1) A ws.length g:=by
    refine⟨by omega,by omega,?_⟩
    rintro(h|h|h|⟨h,a,ha,h2⟩)
    ·omega
    ·omega
    ·omega
    ·have:=hAl h a ha;omega
   refine⟨((Mod.refl _ _).drew).setCell (p:=⟨g,0,none⟩) hgk _,?_,?_⟩
   ·have h5:Blk A2.drew g 3 #[.int .i64 (S:Nat)]:=HB0.out
    simpa using h5.set_ 0 (.int .i64 (Z:Nat))
   ·exact(HBL.out.drew).setCell (p:=⟨g,0,none⟩) (KS _) _
  case hstep=>
   rintro L a W i o ho hLi hdep ⟨t37,t38,t39,t40,rfl,f0,f1,f2,f3,f4,f5,f6⟩
   have F0:=KO f0
   have F1:=KO f1
   have F2:=KO f2
   have F3:=KO f3
   have F4:=KO f4
   have F5:=KO f5
   have F6:=KO f6
   clear f0 f1 f2 f3 f4 f5 f6
   have HLi:=KO hLi
   clear hLi
   match i,ho with
   |0,ho=>
    obtain rfl:=KQ ho
    clear hdep
    have l4:L 4=false:=by
     cases h:L 4 with
     |false=>rfl
     |true=>exact absurd (F6.out h).1 (by rw[HLi.out];exact Bool.false_ne_true)
    have hW:=F4.out l4
    subst hW
    have cg:A2.drew.cell? ⟨g,0,none⟩=some (.int .i64 (S:Nat)):=HCG.out
    refine Le rfl (fun K1 hK1=>?_)
    have hK:=KO hK1
    clear hK1
    gi_wp2
    refine hK.out _ _ ?_;exact tq
   |1,ho=>
    obtain rfl:=KQ ho
    clear hdep
    refine Le rfl (fun K1 hK1=>?_)
    have hK:=KO hK1
    clear hK1
    gi_wp2
    refine hK.out _ _ ?_;exact tq
   |2,ho=>
    obtain rfl:=KQ ho
    have h1:=F1.out (hdep ⟨1,.data⟩ (by simp) rfl)
    subst h1
    clear hdep
    refine Le rfl (fun K1 hK1=>?_)
    have hK:=KO hK1
    clear hK1
    gi_wp2_with ((try first|refine⟨hdp,?_⟩|refine⟨hdd _,?_⟩);gi_at_call 225;refine(mD _ (callsIn_wide.2 (HON.out _))).mono ?_;rintro e w1 ⟨rfl,rfl⟩)
    refine hK.out _ _ ?_;exact tq
   |3,ho=>
    obtain rfl:=KQ ho
    have h0:=F0.out (hdep ⟨0,.data⟩ (by simp) rfl)
    have h2:=F2.out (hdep ⟨2,.data⟩ (by simp) rfl)
    subst h0 h2
    clear hdep
    refine Le rfl (fun K1 hK1=>?_)
    have hK:=KO hK1
    clear hK1
    gi_wp2
    refine hK.out _ _ ?_;exact tq
   |4,ho=>
    obtain rfl:=KQ ho
    have h3:=F3.out (hdep ⟨3,.data⟩ (by simp) rfl)
    have l0:=hdep ⟨0,.phase⟩ (by simp) rfl
    have l2:=hdep ⟨2,.chain⟩ (by simp) rfl
    subst h3
    clear hdep
    have hW:=F4.out HLi.out
    subst hW
    have cg:A2.drew.cell? ⟨g,0,none⟩=some (.int .i64 (S:Nat)):=HCG.out
    have fg:A2.drew.frozen? ⟨g,0,none⟩=false:=HFG.out
    refine Le rfl (fun K1 hK1=>?_)
    have hK:=KO hK1
    clear hK1
    gi_wp2
    refine hK.out _ _ ?_;exact tq
 case done=>
  rintro W ⟨hB0,hbl⟩ hD
  rw[Ib hft]at hB0
  obtain⟨S,hS⟩:∃S,bf ws f (t-f)=S:=⟨_,rfl⟩
  rw[hS]at hB0
  have cg:W.cell? ⟨g,0,none⟩=some (.int .i64 (S:Nat)):=hB0.cell 0
  have fg:W.frozen? ⟨g,0,none⟩=false:=hB0.frozen 0
  have h6:Blk (W.setCell ⟨g,0,none⟩ (.int .i64 (S:Nat))) g 3 #[.int .i64 (S:Nat)]:=by simpa using hB0.set_ 0 (.int .i64 (S:Nat))
  have hbb:Below g w (W.setCell ⟨g,0,none⟩ (.int .i64 (S:Nat))):=hbl.setCell (p:=⟨g,0,none⟩) (KS _) _
  have hd2:(W.setCell ⟨g,0,none⟩ (.int .i64 (S:Nat))).heap[W0.heap.size]?=some (.deferred (some [])):=(Below.heap_setCell W ⟨g,0,none⟩ _ W0.heap.size (by show W0.heap.size≠g;omega)).trans hD
  obtain⟨W4,hW4⟩:∃W4,W.setCell ⟨g,0,none⟩ (.int .i64 (S:Nat))=W4:=⟨_,rfl⟩
  rw[hW4]at h6 hbb hd2
  have e6:(W4.putObj W0.heap.size (.deferred none)).cell? ⟨g,0,none⟩=some (.int .i64 (S:Nat)):=(h6.of (K9 (by omega))).cell 0
  have HE6:=KO e6
  have HD2:=KO hd2
  have HBB:=KO hbb
  clear e6 h6 hd2 hbb
  gi_wp2
  try rw[hW4]
  have e6:=HE6.out
  refine rP (v:= .tuple #[.int .i64 (S:Nat),.int .i64 0]) HD2.out (by simp[results,results212,go_sem,e6]) ⟨by rw[<-hS],?_⟩
  rw[hg]
  exact HBB.out.trans ⟨rfl,rfl,rfl,by simp[World.putObj],fun k hk=>K9 (by omega)⟩
end
def fB (n den high:Nat):Nat->Nat->Nat
 |0,s=>s
 |k+1,s=>if high*s< n*den then fB n den high k (2*s)else s
structure Fits (n den high k s:Nat):Prop where
 fuel:n*den<=high*(s*2 ^ k)
 pos:0< s
 le:s<=65536
theorem pu {n den high k s:Nat} (h:¬high*s< n*den):fB n den high k s=s:=by
 cases k with
 |zero=>rfl
 |succ k=>unfold fB;rw[if_neg h]
theorem nA {n den high k s:Nat} (hf:Fits n den high k s) (h:high*s< n*den) (hn:n<=16384) (hd:den<=2*high):∃k',k=k'+1/\fB n den high k s=fB n den high k' (2*s)/\Fits n den high k' (2*s):=by
 cases k with
 |zero=>
  have h1:=hf.fuel
  rw[Nat.pow_zero,Nat.mul_one]at h1
  omega
 |succ k=>
  refine⟨k,rfl,by rw[fB,if_pos h],?_,by have:=hf.pos;omega,?_⟩
  ·have h1:=hf.fuel
   rw[MO,LQ (2 ^ k) 2,<-Mc s 2,LQ s 2]at h1
   exact h1
  ·have h1:n*den<=16384*(2*high):=MH hn hd
   have h2:high*s< high*32768:=by
    refine Nat.lt_of_lt_of_le h (KY h1 ?_)
    rw[LQ high 32768,<-Mc]
    exact KS _
   have h3:=Nat.lt_of_mul_lt_mul_left h2
   omega
theorem jX {n den high s:Nat} (hn:n<=16384) (hd:den<=2*high) (hs:0< s) (hs2:s<=256):Fits n den high 16 s:=by
 refine⟨?_,hs,by omega⟩
 have h1:n*den<=16384*(2*high):=MH hn hd
 refine KY h1 ?_
 have h2:high*(1*65536)<=high*(s*2 ^ 16):=Nat.mul_le_mul_left _ (MH hs (by decide))
 refine KY ?_ h2
 rw[Nat.one_mul,LQ high 65536,<-Mc]
 exact Nat.mul_le_mul_right _ (by decide)
def fO (n den high least:Nat):Nat:=fB n den high 16 least
theorem xu {n den high:Nat} (hn:n<=16384) (hd:den<=2*high):∀{k s:Nat},Fits n den high k s->fB n den high k s<=65536/\s<=fB n den high k s:=by
 intro k
 induction k with
 |zero=>intro s h;exact⟨h.le,KS _⟩
 |succ k ih=>
  intro s h
  by_cases h1:high*s< n*den
  ·obtain⟨k',hk,h2,h3⟩:=nA h h1 hn hd
   obtain rfl:k=k':=by omega
   rw[h2]
   have:=ih h3
   omega
  ·rw[pu h1]
   exact⟨h.le,KS _⟩
def pow2 (n:Nat):Bool:=decide (0< n)&&decide (2 ^ Nat.log2 n=n)
structure Cfg where
 tag:Int
 most:Int
 seg:Int
 least:Int
 den:Int
 leafLow:Int
 rootLow:Int
 rootHigh:Int
 leafHigh:Int
deriving DecidableEq
def Cfg.tall (c:Cfg):Nat:=Nat.log2 (fO c.most.toNat c.den.toNat c.rootHigh.toNat c.least.toNat/c.seg.toNat)
section
section
variable {P:Program} {ops:Array Oper} {Q:Exit->Act->World->Prop} {md:Region.Mode} {S:World->Prop}
theorem iB {c rest:Code} {a:Act} {w:World} (l:Nat) (I:Nat->Act->World->Prop) (hf:findLabel c l=some (Code.skip.seq rest))
  (pass:∀n a w,I n a w->∀K:Act->World->Prop,(∀n' a' w',n'< n->I n' a' w'->K a' w')->rest.wp P (Exit.jump l K Q) a w)
  (first:∀K:Act->World->Prop,(∀n a w,I n a w->rest.wp P (Exit.jump l K Q) a w)->c.wp P (Exit.jump l K Q) a w):(Code.scope c).wp P Q a w:=by
 refine wp_scope_jumps l (fun a w=>∃n,I n a w) (fun a w=>leastOf (fun n=>I n a w)) hf ?_ ?_
 ·exact first _ (fun n a w h=>pass n a w h _ (fun n' _ _ _ h2=>⟨n',h2⟩))
 ·intro a w hJ
  refine wp_seq (wp_skip ?_)
  exact pass _ a w (leastOf_spec hJ).1 _ (fun n' a' w' hlt h2=>⟨⟨n',h2⟩,Nat.lt_of_le_of_lt ((leastOf_spec ⟨n',h2⟩).2 n' h2) hlt⟩)
end
end
def RisE (l:List Ent):Prop:=l.Pairwise (fun a b=>a.key< b.key)
theorem RisE.cons {a:Ent} {l:List Ent}:RisE (a::l)↔(∀e∈l,a.key< e.key)/\RisE l:=List.pairwise_cons
theorem RisE.nil:RisE []:=List.Pairwise.nil
def look (l:List Ent) (k:Int):Option Ent:=l.find? (fun e=>e.key==k)
theorem aZ (a:Ent) (l:List Ent) (k:Int):look (a::l) k=if a.key=k then some a else look l k:=by
 unfold look
 rw[List.find?_cons]
 by_cases h:a.key=k
 ·simp[h]
 ·have h2:(a.key==k)=false:=by simpa using h
  rw[if_neg h,h2]
theorem jC {l:List Ent} {k:Int} (h:∀e∈l,k< e.key):look l k=none:=by
 unfold look
 rw[List.find?_eq_none]
 intro e he
 have:=h e he
 simp;omega
theorem nJ {l:List Ent} {k:Int} {e:Ent} (h:look l k=some e):e.key=k/\e∈l:=by
 unfold look at h
 exact⟨by simpa using List.find?_some h,List.mem_of_find?_eq_some h⟩
theorem sI {l:List Ent} (hr:RisE l) {e:Ent} (h:e∈l):look l e.key=some e:=by
 induction l with
 |nil=>simp at h
 |cons a l ih=>
  obtain⟨h1,h2⟩:=RisE.cons.1 hr
  rw[aZ]
  rcases List.mem_cons.1 h with rfl|h
  ·rw[if_pos rfl]
  ·have:=h1 e h
   rw[if_neg (by omega),ih h2 h]
theorem yc:∀{x y:List Ent},RisE x->RisE y->(∀k,look x k=look y k)->x=y
 |[],[],_,_,_=>rfl
 |a::x,[],_,_,h=>by have:=h a.key;rw[aZ,if_pos rfl]at this;cases this
 |[],b::y,_,_,h=>by have:=h b.key;rw[aZ,if_pos rfl]at this;cases this
 |a::x,b::y,hx,hy,h=>by
  obtain⟨a1,a2⟩:=RisE.cons.1 hx
  obtain⟨b1,b2⟩:=RisE.cons.1 hy
  have ha:=h a.key
  have hb:=h b.key
  rw[aZ,if_pos rfl,aZ]at ha
  rw[aZ,aZ,if_pos rfl]at hb
  have hk:a.key=b.key:=by
   rcases Int.lt_trichotomy a.key b.key with hlt|heq|hgt
   ·rw[if_neg (by omega),jC (fun e he=>by have:=b1 e he;omega)]at ha;cases ha
   ·exact heq
   ·rw[if_neg (by omega),jC (fun e he=>by have:=a1 e he;omega)]at hb;cases hb
  rw[if_pos hk.symm]at ha
  have hab:a=b:=by simpa using ha
  subst hab
  congr 1
  refine yc a2 b2 fun k=>?_
  have hk2:=h k
  rw[aZ,aZ]at hk2
  by_cases e:a.key=k
  ·subst e;rw[jC a1,jC b1]
  ·rwa [if_neg e,if_neg e]at hk2
def aD:List Ent->List Ent->List Ent
 |[],b=>b
 |x::a,[]=>x::a
 |x::a,y::b=>if x.key< y.key then x::aD a (y::b)else if x.key=y.key then x::aD a b else y::aD (x::a) b
termination_by a b=>a.length+b.length
theorem qZ (K:Int):∀(n:Nat) (a b:List Ent),a.length+b.length<=n->(∀e∈a,K< e.key)->(∀e∈b,K< e.key)->∀e∈aD a b,K< e.key:=by
 intro n
 induction n with
 |zero=>intro a b h ha hb;cases a <;> cases b <;> simp at h;simp[aD]
 |succ n ih=>
  intro a b h ha hb
  cases a with
  |nil=>rw[aD];exact hb
  |cons x a=>
   cases b with
   |nil=>rw[aD];exact ha
   |cons y b=>
    simp only[List.length_cons]at h
    have hx:=ha x (by simp)
    have hy:=hb y (by simp)
    have ha':∀e∈a,K< e.key:=fun e he=>ha e (by simp[he])
    have hb':∀e∈b,K< e.key:=fun e he=>hb e (by simp[he])
    rw[aD]
    split
    ·intro e he
     rcases List.mem_cons.1 he with rfl|he
     ·exact hx
     ·exact ih a (y::b) (by simp;omega) ha' hb e he
    ·split
     ·intro e he
      rcases List.mem_cons.1 he with rfl|he
      ·exact hx
      ·exact ih a b (by omega) ha' hb' e he
     ·intro e he
      rcases List.mem_cons.1 he with rfl|he
      ·exact hy
      ·exact ih (x::a) b (by simp;omega) ha hb' e he
theorem uH:∀(n:Nat) (a b:List Ent),a.length+b.length<=n->RisE a->RisE b->RisE (aD a b)/\∀k,look (aD a b) k=(look a k).or (look b k):=by
 intro n
 induction n with
 |zero=>intro a b h ha hb;cases a <;> cases b <;> simp at h;simp[aD,RisE,look]
 |succ n ih=>
  intro a b h ha hb
  cases a with
  |nil=>rw[aD];exact⟨hb,fun k=>by simp[look]⟩
  |cons x a=>
   cases b with
   |nil=>rw[aD];exact⟨ha,fun k=>by simp[look]⟩
   |cons y b=>
    simp only[List.length_cons]at h
    obtain⟨a1,a2⟩:=RisE.cons.1 ha
    obtain⟨b1,b2⟩:=RisE.cons.1 hb
    rw[aD]
    split
    ·rename_i hlt
     obtain⟨r1,r2⟩:=ih a (y::b) (by simp;omega) a2 hb
     refine⟨RisE.cons.2 ⟨qZ x.key _ a (y::b) (KS _) a1 (fun e he=>?_),r1⟩,fun k=>?_⟩
     ·rcases List.mem_cons.1 he with rfl|he
      ·exact hlt
      ·have:=b1 e he;omega
     ·rw[aZ,aZ x a,r2]
      split <;> simp
    ·rename_i hlt
     split
     ·rename_i heq
      obtain⟨r1,r2⟩:=ih a b (by omega) a2 b2
      refine⟨RisE.cons.2 ⟨qZ x.key _ a b (KS _) a1 (fun e he=>by have:=b1 e he;omega),r1⟩,fun k=>?_⟩
      rw[aZ,aZ x a,aZ y b,r2]
      by_cases e:x.key=k
      ·rw[if_pos e,if_pos e];simp
      ·rw[if_neg e,if_neg e,if_neg (by omega)]
     ·rename_i hne
      obtain⟨r1,r2⟩:=ih (x::a) b (by simp;omega) ha b2
      refine⟨RisE.cons.2 ⟨qZ y.key _ (x::a) b (KS _) (fun e he=>?_) b1,r1⟩,fun k=>?_⟩
      ·rcases List.mem_cons.1 he with rfl|he
       ·omega
       ·have:=a1 e he;omega
      ·rw[aZ,aZ y b,r2]
       by_cases e:y.key=k
       ·rw[if_pos e,if_pos e,jC (l:=x::a)]
        ·rfl
        ·intro q hq
         rcases List.mem_cons.1 hq with rfl|hq
         ·omega
         ·have:=a1 q hq;omega
       ·rw[if_neg e,if_neg e]
theorem Ee {a b:List Ent} (ha:RisE a) (hb:RisE b):RisE (aD a b):=(uH _ a b (KS _) ha hb).1
theorem Ae {a b:List Ent} (ha:RisE a) (hb:RisE b) (k:Int):look (aD a b) k=(look a k).or (look b k):=(uH _ a b (KS _) ha hb).2 k
theorem uE:∀(n:Nat) (a b:List Ent),a.length+b.length<=n->(aD a b).length<=a.length+b.length:=by
 intro n
 induction n with
 |zero=>intro a b h;cases a <;> cases b <;> simp at h;simp[aD]
 |succ n ih=>
  intro a b h
  cases a with
  |nil=>rw[aD];simp
  |cons x a=>
   cases b with
   |nil=>rw[aD];simp
   |cons y b=>
    simp only[List.length_cons]at h ⊢
    rw[aD]
    split
    ·have:=ih a (y::b) (by simp;omega);simp at this ⊢;omega
    ·split
     ·have:=ih a b (by omega);simp at this ⊢;omega
     ·have:=ih (x::a) b (by simp;omega);simp at this ⊢;omega
def newest (rs:List (List Ent)) (k:Int):Option Ent:=rs.findSome? (fun r=>look r k)
theorem jf (r:List Ent) (rs:List (List Ent)) (k:Int):newest (r::rs) k=(look r k).or (newest rs k):=by
 unfold newest
 rw[List.findSome?_cons]
 cases look r k <;> rfl
def bM (rs:List (List Ent)):List Ent:=rs.foldl aD []
theorem nK:∀(rs:List (List Ent)) {acc:List Ent},RisE acc->(∀r∈rs,RisE r)->RisE (rs.foldl aD acc)/\∀k,look (rs.foldl aD acc) k=(look acc k).or (newest rs k)
 |[],acc,ha,_=>⟨ha,fun k=>by simp[newest]⟩
 |r::rs,acc,ha,hr=>by
  have h1:=hr r (by simp)
  obtain⟨g1,g2⟩:=nK rs (Ee ha h1) (fun q hq=>hr q (by simp[hq]))
  refine⟨g1,fun k=>?_⟩
  rw[List.foldl_cons,g2,Ae ha h1,jf,Option.or_assoc]
theorem AX {rs:List (List Ent)} (hr:∀r∈rs,RisE r) {out:List Ent} (ho:RisE out) (h:∀k,look out k=newest rs k):out=bM rs:=by
 obtain⟨g1,g2⟩:=nK rs RisE.nil hr
 exact yc ho g1 fun k=>by rw[h];unfold bM;have:=g2 k;rw[this];simp[look]
theorem jG:∀(rs:List (List Ent)) (acc:List Ent),(rs.foldl aD acc).length<=acc.length+(rs.map List.length).sum
 |[],acc=>by simp
 |r::rs,acc=>by
  have h1:=jG rs (aD acc r)
  have h2:=uE _ acc r (KS _)
  simp only[List.foldl_cons,List.map_cons,List.sum_cons]
  omega
structure Hd where
 e:Ent
 rest:List Ent
 age:Nat
def hlt (a b:Hd):Bool:=if a.e.key=b.e.key then decide (a.age< b.age)else decide (a.e.key< b.e.key)
def hle (a b:Hd):Prop:=a.e.key< b.e.key∨(a.e.key=b.e.key/\a.age<=b.age)
theorem BJ (a b:Hd):hlt a b=true↔(a.e.key< b.e.key∨(a.e.key=b.e.key/\a.age< b.age)):=by
 unfold hlt
 split
 ·rename_i h;simp[h]
 ·rename_i h;simp[h]
theorem sZ {a b:Hd} (h:hlt a b=false):hle b a:=by
 have:=mt (BJ a b).2 (by rw[h];simp)
 unfold hle
 omega
theorem uL {a b:Hd} (h:hlt a b=true):hle a b:=by
 have:=(BJ a b).1 h
 unfold hle
 omega
theorem uY {a b c:Hd} (h1:hle a b) (h2:hle b c):hle a c:=by unfold hle at*;omega
theorem rf (a:Hd):hle a a:=by unfold hle;omega
def eP (H:List Hd) (i0:Nat):Prop:=∀j c (hc:c< H.length) (hj:j< c),i0<=j->(c=2*j+1∨c=2*j+2)->hle (H[j]'(by omega)) (H[c]'hc)
def Sinks (H:List Hd) (i0 i:Nat):Prop:=
 (∀j c (hc:c< H.length) (hj:j< c),i0<=j->j≠i->(c=2*j+1∨c=2*j+2)->hle (H[j]'(by omega)) (H[c]'hc))/\
 (∀p c (hc:c< H.length) (hp:p< c),i0<=p->(i=2*p+1∨i=2*p+2)->(c=2*i+1∨c=2*i+2)->hle (H[p]'(by omega)) (H[c]'hc))
theorem Sinks.start {H:List Hd} {i0:Nat} (h:eP H (i0+1)):Sinks H i0 i0:=
 ⟨fun j c hc hj h0 hne hcc=>h j c hc hj (by omega) hcc,fun p c hc hp h0 hi hcc=>by omega⟩
theorem Sinks.done {H:List Hd} {i0 i:Nat} (h:Sinks H i0 i) (hd:∀c (hc:c< H.length) (hi:i< c),(c=2*i+1∨c=2*i+2)->hle (H[i]'(by omega)) (H[c]'hc)):eP H i0:=by
 intro j c hc hj h0 hcc
 by_cases e:j=i
 ·subst e;exact hd c hc hj hcc
 ·exact h.1 j c hc hj h0 e hcc
def qR (H:List Hd) (i k:Nat) (hi:i< H.length) (hk:k< H.length):List Hd:=(H.set i (H[k]'hk)).set k (H[i]'hi)
theorem iZ (H:List Hd) (i k:Nat) (hi:i< H.length) (hk:k< H.length):(qR H i k hi hk).length=H.length:=by simp[qR]
theorem nG {H:List Hd} {i k:Nat} (hi:i< H.length) (hk:k< H.length) (_hik:i≠k) (j:Nat) (hj:j< (qR H i k hi hk).length):
  (qR H i k hi hk)[j]'hj=if j=k then H[i]'hi else if j=i then H[k]'hk else H[j]'(by rw[iZ]at hj;exact hj):=by
 have hg:∀hj2:j< ((H.set i (H[k]'hk)).set k (H[i]'hi)).length,((H.set i (H[k]'hk)).set k (H[i]'hi))[j]'hj2=if j=k then H[i]'hi else if j=i then H[k]'hk else H[j]'(by rw[iZ]at hj;exact hj):=by
  intro hj2
  rw[List.getElem_set]
  by_cases h1:k=j
  ·rw[if_pos h1,if_pos h1.symm]
  ·rw[if_neg h1,if_neg (fun e=>h1 e.symm),List.getElem_set]
   by_cases h2:i=j
   ·rw[if_pos h2,if_pos h2.symm]
   ·rw[if_neg h2,if_neg (fun e=>h2 e.symm)]
 exact hg hj
theorem Sinks.step {H:List Hd} {i0 i k:Nat} (h:Sinks H i0 i) (h0:i0<=i) (hi:i< H.length) (hk:k< H.length) (hkc:k=2*i+1∨k=2*i+2) (hlt':hlt (H[k]'hk) (H[i]'hi)=true)
  (hmin:∀c (hc:c< H.length),(c=2*i+1∨c=2*i+2)->hle (H[k]'hk) (H[c]'hc)):Sinks (qR H i k hi hk) i0 k:=by
 have hik:i≠k:=by omega
 have hki:=uL hlt'
 constructor
 ·intro j c hc hj hj0 hne hcc
  have hc':c< H.length:=by rwa [iZ]at hc
  rw[nG hi hk hik,nG hi hk hik,if_neg hne]
  by_cases e1:j=i
  ·rw[if_pos e1]
   by_cases e2:c=k
   ·rw[if_pos e2];exact hki
   ·rw[if_neg e2,if_neg (by omega)];exact hmin c hc' (by omega)
  ·rw[if_neg e1,if_neg (by omega)]
   by_cases e3:c=i
   ·rw[if_pos e3]
    exact h.2 j k hk (by omega) hj0 (by omega) hkc
   ·rw[if_neg e3]
    exact h.1 j c hc' hj hj0 e1 hcc
 ·intro p c hc hp hp0 hkp hcc
  have hc':c< H.length:=by rwa [iZ]at hc
  have hpi:p=i:=by omega
  subst hpi
  rw[nG hi hk hik,nG hi hk hik,if_neg hik,if_pos rfl,if_neg (by omega),if_neg (by omega)]
  exact h.1 k c hc' (by omega) (by omega) (by omega) hcc
theorem EF {H:List Hd} (h:eP H 0):∀j (hj:j< H.length),hle (H[0]'(by omega)) (H[j]'hj):=by
 intro j
 induction j using Ng with
 |_ j ih=>
  intro hj
  by_cases e:j=0
  ·subst e;exact rf _
  ·have hp:(j-1)/2< j:=by omega
   exact uY (ih _ hp (by omega)) (h ((j-1)/2) j hj hp (K8 _) (by omega))
theorem xJ {H:List Hd} {i:Nat} (h:H.length/2<=i):eP H i:=by
 intro j c hc hj h0 hcc
 omega
def MInv (rs:List (List Ent)) (out:List Ent) (H:List Hd):Prop:=
 RisE out/\(∀e∈out,newest rs e.key=some e)/\
 (∀h∈H,∃r,rs[h.age]?=some r/\∃c,r=c++h.e::h.rest/\∀e∈c,∃o∈out,o.key=e.key)/\
 (∀a r,rs[a]?=some r->(∃h∈H,h.age=a)∨(∀e∈r,∃o∈out,o.key=e.key))/\
 (∀h∈H,∀o∈out,o.key<=h.e.key)
theorem MInv.perm {rs:List (List Ent)} {out:List Ent} {H H':List Hd} (h:MInv rs out H) (hp:H'.Perm H):MInv rs out H':=by
 obtain⟨h1,h2,h3,h4,h5⟩:=h
 refine⟨h1,h2,fun x hx=>h3 x (hp.mem_iff.1 hx),fun a r hr=>?_,fun x hx=>h5 x (hp.mem_iff.1 hx)⟩
 rcases h4 a r hr with⟨x,hx,e⟩|h
 ·exact .inl ⟨x,hp.mem_iff.2 hx,e⟩
 ·exact .inr h
theorem uR:∀{rs:List (List Ent)} {a:Nat} {r:List Ent} {k:Int} {e:Ent},rs[a]?=some r->look r k=some e->(∀b,b< a->∀r',rs[b]?=some r'->look r' k=none)->newest rs k=some e
 |[],_,_,_,_,h,_,_=>by simp at h
 |r0::rs,0,r,k,e,h,hl,_=>by
  have:r0=r:=by simpa using h
  subst this
  rw[jf,hl];rfl
 |r0::rs,a+1,r,k,e,h,hl,hb=>by
  rw[jf,hb 0 (by omega) r0 rfl,uR (rs:=rs) (a:=a) (by simpa using h) hl (fun b hlt r' hr'=>hb (b+1) (by omega) r' (by simpa using hr'))]
  rfl
theorem mY:∀{rs:List (List Ent)} {k:Int} {e:Ent},newest rs k=some e->∃(a:Nat) (r:List Ent),rs[a]?=some r/\e∈r/\e.key=k
 |[],_,_,h=>by simp[newest]at h
 |r::rs,k,e,h=>by
  rw[jf]at h
  cases hl:look r k with
  |some x=>
   rw[hl]at h
   have:x=e:=by simpa using h
   subst this
   exact⟨0,r,rfl,(nJ hl).2,(nJ hl).1⟩
  |none=>
   rw[hl]at h
   obtain⟨a,r',h1,h2⟩:=mY (rs:=rs) (by simpa using h)
   exact⟨a+1,r',by simpa using h1,h2⟩
theorem wZ {c l:List Ent} {e:Ent} (h:RisE (c++e::l)):∀x∈l,e.key< x.key:=by
 have:=(List.pairwise_append.1 h).2.1
 exact(List.pairwise_cons.1 this).1
def fresh (out:List Ent) (k:Int):Bool:=match out.getLast? with|none=>true|some o=>!(o.key==k)
theorem yJ {out:List Ent} {k:Int} (hr:RisE out) (hle:∀o∈out,o.key<=k) (h:fresh out k=true):∀o∈out,o.key< k:=by
 intro o ho
 rcases List.eq_nil_or_concat out with rfl|⟨l,z,rfl⟩
 ·simp at ho
 ·rw[List.concat_eq_append]at*
  unfold fresh at h
  rw[List.getLast?_append]at h
  have hz:z.key≠k:=by simpa using h
  have hz2:=hle z (by simp)
  rcases List.mem_append.1 ho with ho|ho
  ·have:=(List.pairwise_append.1 hr).2.2 o ho z (by simp)
   omega
  ·obtain rfl:o=z:=by simpa using ho
   omega
theorem Dl {out:List Ent} {k:Int} (h:fresh out k=false):∃o∈out,o.key=k:=by
 unfold fresh at h
 cases hg:out.getLast? with
 |none=>rw[hg]at h;cases h
 |some z=>
  rw[hg]at h
  exact⟨z,List.mem_of_getLast? hg,by simpa using h⟩
def eF (out:List Ent) (e:Ent):List Ent:=if fresh out e.key=true then out++[e]else out
def kQ (t:Hd):List Hd:=match t.rest with|[]=>[]|e::l=>[⟨e,l,t.age⟩]
theorem MInv.step {rs:List (List Ent)} (hrs:∀r∈rs,RisE r) {out:List Ent} {t:Hd} {H:List Hd} (h:MInv rs out (t::H)) (ht:∀x∈H,hle t x):MInv rs (eF out t.e) (kQ t++H):=by
 obtain⟨h1,h2,h3,h4,h5⟩:=h
 obtain⟨r,hr,c,hc,hcov⟩:=h3 t (by simp)
 have hrr:RisE r:=hrs r (M7 hr)
 have hlo:=h5 t (by simp)
 have hsub:∀o∈out,o∈eF out t.e:=by
  intro o ho
  unfold eF
  split
  ·exact List.mem_append_left _ ho
  ·exact ho
 have hcov':∃o∈eF out t.e,o.key=t.e.key:=by
  unfold eF
  cases hf:fresh out t.e.key
  ·rw[if_neg (by simp)];exact Dl hf
  ·rw[if_pos rfl];exact⟨t.e,by simp,rfl⟩
 have hall:∀x∈c++[t.e],∃o∈eF out t.e,o.key=x.key:=by
  intro x hx
  rcases List.mem_append.1 hx with hx|hx
  ·obtain⟨o,ho,e⟩:=hcov x hx
   exact⟨o,hsub o ho,e⟩
  ·obtain rfl:x=t.e:=by simpa using hx
   exact hcov'
 have hmemo:∀o∈eF out t.e,o∈out∨(o=t.e/\fresh out t.e.key=true):=by
  intro o ho
  unfold eF at ho
  split at ho
  ·rename_i hf
   rcases List.mem_append.1 ho with ho|ho
   ·exact .inl ho
   ·exact .inr ⟨by simpa using ho,hf⟩
  ·exact .inl ho
 refine⟨?_,?_,?_,?_,?_⟩
 ·unfold eF
  split
  ·rename_i hf
   refine List.pairwise_append.2 ⟨h1,List.pairwise_singleton _ _,fun o ho x hx=>?_⟩
   have hx':x=t.e:=by simpa using hx
   rw[hx']
   exact yJ h1 hlo hf o ho
  ·exact h1
 ·intro o ho
  rcases hmemo o ho with ho|⟨rfl,hf⟩
  ·exact h2 o ho
  ·have hno:=yJ h1 hlo hf
   refine uR hr (sI hrr (by rw[hc];simp)) ?_
   intro b hb r' hr'
   cases hl:look r' t.e.key with
   |none=>rfl
   |some x=>
    exfalso
    obtain⟨hxk,hxr⟩:=nJ hl
    rcases h4 b r' hr' with⟨g,hg,hga⟩|hcovd
    ·obtain⟨r2,hr2,c2,hc2,hcov2⟩:=h3 g hg
     rw[hga,hr']at hr2
     obtain rfl:r'=r2:=by simpa using hr2
     rw[hc2]at hxr
     rcases List.mem_append.1 hxr with hx|hx
     ·obtain⟨o',ho',e⟩:=hcov2 x hx
      have:=hno o' ho'
      omega
     ·have hge:g.e.key<=x.key:=by
       rcases List.mem_cons.1 hx with rfl|hx
       ·exact Int.le_refl _
       ·have:=wZ (hc2 ▸ hrs r' (M7 hr')) x hx
        omega
      rcases List.mem_cons.1 hg with rfl|hg
      ·omega
      ·have:=ht g hg
       unfold hle at this
       omega
    ·obtain⟨o',ho',e⟩:=hcovd x hxr
     have:=hno o' ho'
     omega
 ·intro g hg
  rcases List.mem_append.1 hg with hg|hg
  ·unfold kQ at hg
   cases hrest:t.rest with
   |nil=>rw[hrest]at hg;simp at hg
   |cons e2 l2=>
    rw[hrest]at hg
    obtain rfl:g=⟨e2,l2,t.age⟩:=by simpa using hg
    exact⟨r,hr,c++[t.e],by rw[hc,hrest];simp,hall⟩
  ·obtain⟨r2,hr2,c2,hc2,hcov2⟩:=h3 g (by simp[hg])
   exact⟨r2,hr2,c2,hc2,fun x hx=>by obtain⟨o,ho,e⟩:=hcov2 x hx;exact⟨o,hsub o ho,e⟩⟩
 ·intro a r' hr'
  rcases h4 a r' hr' with⟨g,hg,hga⟩|hcovd
  ·rcases List.mem_cons.1 hg with rfl|hg
   ·cases hrest:g.rest with
    |nil=>
     right
     rw[hga,hr']at hr
     obtain rfl:r'=r:=by simpa using hr
     rw[hc,hrest]
     exact hall
    |cons e2 l2=>
     left
     refine⟨⟨e2,l2,g.age⟩,?_,hga⟩
     unfold kQ
     rw[hrest]
     simp
   ·exact .inl ⟨g,by simp[hg],hga⟩
  ·exact .inr fun x hx=>by obtain⟨o,ho,e⟩:=hcovd x hx;exact⟨o,hsub o ho,e⟩
 ·intro g hg o ho
  have hto:o.key<=t.e.key:=by
   rcases hmemo o ho with ho|⟨rfl,_⟩
   ·exact hlo o ho
   ·exact Int.le_refl _
  rcases List.mem_append.1 hg with hg|hg
  ·unfold kQ at hg
   cases hrest:t.rest with
   |nil=>rw[hrest]at hg;simp at hg
   |cons e2 l2=>
    rw[hrest]at hg
    obtain rfl:g=⟨e2,l2,t.age⟩:=by simpa using hg
    have:=wZ (hc ▸ hrr) e2 (by rw[hrest];simp)
    show o.key<=e2.key
    omega
  ·have h6:=ht g hg
   unfold Go.Proofs.YtpbmbjjfdpkhbaaGreat.hle at h6
   omega
theorem MInv.done {rs:List (List Ent)} (hrs:∀r∈rs,RisE r) {out:List Ent} (h:MInv rs out []):out=bM rs:=by
 obtain⟨h1,h2,h3,h4,h5⟩:=h
 refine AX hrs h1 fun k=>?_
 cases hl:look out k with
 |some e=>
  obtain⟨hk,hm⟩:=nJ hl
  rw[<-hk,h2 e hm]
 |none=>
  cases hn:newest rs k with
  |none=>rfl
  |some e=>
   obtain⟨a,r,hr,her,hk⟩:=mY hn
   rcases h4 a r hr with⟨g,hg,_⟩|hcov
   ·simp at hg
   ·obtain⟨o,ho,e2⟩:=hcov e her
    have:=sI h1 ho
    rw[e2,hk,hl]at this
    cases this
def gZ:Nat->List (List Ent)->List Hd
 |_,[]=>[]
 |i,[]::rs=>gZ (i+1) rs
 |i,(e::l)::rs=>⟨e,l,i⟩::gZ (i+1) rs
theorem oN:∀{rs:List (List Ent)} {i:Nat} {h:Hd},h∈gZ i rs->i<=h.age/\rs[h.age-i]?=some (h.e::h.rest)
 |[],_,_,hm=>by simp[gZ]at hm
 |[]::rs,i,h,hm=>by
  rw[gZ]at hm
  obtain⟨h1,h2⟩:=oN hm
  refine⟨by omega,?_⟩
  rw[show h.age-i=(h.age-(i+1))+1 by omega]
  simpa using h2
 |(e::l)::rs,i,h,hm=>by
  rw[gZ]at hm
  rcases List.mem_cons.1 hm with rfl|hm
  ·exact⟨KS _,by simp⟩
  ·obtain⟨h1,h2⟩:=oN hm
   refine⟨by omega,?_⟩
   rw[show h.age-i=(h.age-(i+1))+1 by omega]
   simpa using h2
theorem uO:∀{rs:List (List Ent)} {i a:Nat} {e:Ent} {l:List Ent},rs[a]?=some (e::l)->(⟨e,l,i+a⟩:Hd)∈gZ i rs
 |[],_,_,_,_,h=>by simp at h
 |r::rs,i,0,e,l,h=>by
  have:r=e::l:=by simpa using h
  subst this
  rw[gZ];simp
 |r::rs,i,a+1,e,l,h=>by
  have h2:=uO (rs:=rs) (i:=i+1) (a:=a) (by simpa using h)
  rw[show i+1+a=i+(a+1)by omega]at h2
  cases r with
  |nil=>rw[gZ];exact h2
  |cons x y=>rw[gZ];simp[h2]
theorem MInv.start (rs:List (List Ent)):MInv rs [] (gZ 0 rs):=by
 refine⟨RisE.nil,by simp,?_,?_,by simp⟩
 ·intro h hh
  obtain⟨_,h2⟩:=oN hh
  exact⟨_,by simpa using h2,[],rfl,by simp⟩
 ·intro a r hr
  cases r with
  |nil=>exact .inr (by simp)
  |cons e l=>
   have:=uO (i:=0) hr
   rw[Nat.zero_add]at this
   exact .inl ⟨_,this,rfl⟩
structure Hm where
 h:Hd
 A:Option Addr
 n:Nat
 c:Nat
def Hm.cells (m:Hm):List Value:=[.slice m.A m.n m.c,.int .i64 m.h.age]
theorem Hm.cells_length (m:Hm):m.cells.length=2:=rfl
structure Hm.Ok (w0:World) (m:Hm):Prop where
 sl:Sl w0 m.A ((m.h.e::m.h.rest).flatMap Ent.cells)
 n:m.n=m.h.rest.length+1
 nc:m.n<=m.c
 c:m.c<=maxLen
theorem Hm.Ok.at0 {w0 w:World} {m:Hm} (h:m.Ok w0) (hb:Below w0.heap.size w0 w):∃b off,m.A=some ⟨b,off,none⟩/\b< w0.heap.size/\w.cell? ⟨b,off,none⟩=some (.int .i64 m.h.e.key)/\
  w.cell? ⟨b,off+1,none⟩=some (.int .i64 m.h.e.val)/\w.cell? ⟨b,off+2,none⟩=some (.bool m.h.e.dead):=by
 obtain⟨b,off,h1,h2,h3,h4,h5⟩:=h.sl.entB hb 0 (by simp)
 exact⟨b,off,h1,h2,by simpa using h3,by simpa using h4,by simpa using h5⟩
theorem sM (w0 w:World) (a b:Hm) (ha:a.Ok w0) (hb:b.Ok w0) (hB:Below w0.heap.size w0 w):
  Calls prog 276 #[.agg #[.slice a.A a.n a.c,.int .i64 a.h.age],.agg #[.slice b.A b.n b.c,.int .i64 b.h.age]] w
   fun r w'=>r= .returned (.bool (hlt a.h b.h))/\Below w.heap.size w w':=by
 obtain⟨W,hW⟩:∃W,(w.alloc (.cells #[.slice a.A a.n a.c,.int .i64 a.h.age] 318)).alloc (.cells #[.slice b.A b.n b.c,.int .i64 b.h.age] 318)=W:=⟨_,rfl⟩
 have hbW:Below w.heap.size w W:=by rw[<-hW];exact((KR _ _).alloc (KS _) _).alloc (by simp) _
 have b1:Blk W w.heap.size 318 #[.slice a.A a.n a.c,.int .i64 a.h.age]:=by rw[<-hW];exact(Blk.new w _ _).alloc _
 have b2:Blk W (w.heap.size+1) 318 #[.slice b.A b.n b.c,.int .i64 b.h.age]:=by
  rw[<-hW];have:=Blk.new (w.alloc (.cells #[.slice a.A a.n a.c,.int .i64 a.h.age] 318)) 318 #[.slice b.A b.n b.c,.int .i64 b.h.age]
  rwa [KX]at this
 have hBW:=aa hB (hbW.mono (KS _))
 obtain⟨ba,oa,eA,la,ka,_,_⟩:=ha.at0 hBW
 obtain⟨bb,ob,eB,lb,kb,_,_⟩:=hb.at0 hBW
 obtain⟨h,A,n,c⟩:=a
 obtain⟨h',A',n',c'⟩:=b
 obtain⟨e,rest,age⟩:=h
 obtain⟨e',rest',age'⟩:=h'
 dsimp only at*
 subst eA eB
 have na:=ha.n
 have nb:=hb.n
 dsimp only at na nb
 have i1:(0:Int)< (n:Int):=by omega
 have i2:(0:Int)< (n':Int):=by omega
 have c1:W.cell? ⟨w.heap.size,0,none⟩=some (.slice (some ⟨ba,oa,none⟩) n c):=b1.cell 0
 have c2:W.cell? ⟨w.heap.size,1,none⟩=some (.int .i64 (age:Nat)):=b1.cell 1
 have c3:W.cell? ⟨w.heap.size+1,0,none⟩=some (.slice (some ⟨bb,ob,none⟩) n' c'):=b2.cell 0
 have c4:W.cell? ⟨w.heap.size+1,1,none⟩=some (.int .i64 (age':Nat)):=b2.cell 1
 clear ha hb na nb b1 b2 la lb hB hBW
 obtain⟨E,hE⟩:∃E,hlt ⟨e,rest,age⟩ ⟨e',rest',age'⟩=E:=⟨_,rfl⟩
 rw[hE]
 by_cases hk:e.key=e'.key
 ·have HE:Hid (decide (age< age')=E):=by
   show _=_
   rw[<-hE];unfold hlt;rw[if_pos hk]
  clear hE
  rw[hk]at ka
  go_enter func276,ntmps276
  go_wp2_with fail
  try rw[hW]
  go_quiet (fail)
  go_wp2
  go_ret
  exact⟨aC HE.out,ay hbW _⟩
 ·have HE:Hid (decide (e.key< e'.key)=E):=by
   show _=_
   rw[<-hE];unfold hlt;rw[if_neg hk]
  clear hE
  go_enter func276,ntmps276
  go_wp2_with fail
  try rw[hW]
  go_quiet (fail)
  go_wp2
  go_quiet (fail)
  go_wp2
  go_ret
  exact⟨aC HE.out,ay (ay hbW _) _⟩
def HeadsAt (w:World) (g:Nat) (Hs:List Hm):Prop:=∃cur,Blk w g 318 cur/\cur.toList.take (Hs.length*2)=Hs.flatMap Hm.cells/\Hs.length*2<=cur.size
theorem HeadsAt.lt {w:World} {g:Nat} {Hs:List Hm} (h:HeadsAt w g Hs):g< w.heap.size:=by obtain⟨cur,hb,_⟩:=h;exact hb.lt
theorem HeadsAt.below {B:Nat} {w w':World} {g:Nat} {Hs:List Hm} (h:HeadsAt w g Hs) (hm:Below B w w') (hn:g< B):HeadsAt w' g Hs:=by
 obtain⟨cur,hb,r⟩:=h;exact⟨cur,hb.below hm hn,r⟩
theorem HeadsAt.frozen {w:World} {g:Nat} {Hs:List Hm} (h:HeadsAt w g Hs) (i:Nat):w.frozen? ⟨g,i,none⟩=false:=by obtain⟨cur,hb,_⟩:=h;exact hb.frozen i
theorem HeadsAt.cells {w:World} {g:Nat} {Hs:List Hm} (h:HeadsAt w g Hs) (i:Nat) (hi:i< Hs.length):
  w.cell? ⟨g,i*2,none⟩=some (.slice (Hs[i]'hi).A (Hs[i]'hi).n (Hs[i]'hi).c)/\w.cell? ⟨g,i*2+1,none⟩=some (.int .i64 (Hs[i]'hi).h.age):=by
 obtain⟨cur,hb,ht,hs⟩:=h
 have hg:∀j,j< 2->cur[i*2+j]?=((Hs[i]'hi).cells)[j]?:=by
  intro j hj
  have:=flat_get Hm.cells 2 Hm.cells_length Hs i j hi hj
  rw[<-ht,MB,if_pos (by omega)]at this
  rw[<-this];simp
 exact⟨(hb.cell _).trans ((hg 0 (by omega)).trans rfl),(hb.cell _).trans ((hg 1 (by omega)).trans rfl)⟩
theorem FR {cur:Array Value} {Hs:List Hm} (ht:cur.toList.take (Hs.length*2)=Hs.flatMap Hm.cells) (hs:Hs.length*2<=cur.size) (i:Nat) (hi:i< Hs.length) (m:Hm):
  ((cur.setIfInBounds (i*2) (.slice m.A m.n m.c)).setIfInBounds (i*2+1) (.int .i64 m.h.age)).toList.take ((Hs.set i m).length*2)=(Hs.set i m).flatMap Hm.cells:=by
 rw[List.length_set]
 simp only[Array.toList_setIfInBounds]
 refine Ni fun j=>?_
 rw[MB]
 by_cases hj:j< Hs.length*2
 ·rw[if_pos hj]
  obtain⟨q,r,rfl,hr⟩:∃q r,j=q*2+r/\r< 2:=⟨j/2,j %2,by omega,by omega⟩
  have hq:q< Hs.length:=by omega
  rw[flat_get Hm.cells 2 Hm.cells_length (Hs.set i m) q r (by simpa using hq) hr]
  have ho:=flat_get Hm.cells 2 Hm.cells_length Hs q r hq hr
  rw[<-ht,MB,if_pos hj]at ho
  by_cases h1:i=q
  ·subst h1
   rw[List.getElem_set_self]
   have h2:r=0∨r=1:=by omega
   rcases h2 with rfl|rfl
   ·rw[M6 (by omega),Nat.add_zero,List.getElem?_set_self (by simp;omega)];rfl
   ·rw[List.getElem?_set_self (by simp;omega)];rfl
  ·rw[M6 (by omega),M6 (by omega),List.getElem_set_ne h1,ho]
 ·rw[if_neg hj,Mg]
  rw[aQ Hm.cells 2 Hm.cells_length,List.length_set];omega
theorem HeadsAt.put {w:World} {g:Nat} {Hs:List Hm} (h:HeadsAt w g Hs) (i:Nat) (hi:i< Hs.length) (m:Hm):
  HeadsAt ((w.setCell ⟨g,i*2,none⟩ (.slice m.A m.n m.c)).setCell ⟨g,i*2+1,none⟩ (.int .i64 m.h.age)) g (Hs.set i m):=by
 obtain⟨cur,hb,ht,hs⟩:=h
 exact⟨_,(hb.set_ _ _).set_ _ _,FR ht hs i hi m,by simpa using hs⟩
theorem HeadsAt.take {w:World} {g:Nat} {Hs:List Hm} (h:HeadsAt w g Hs) (k:Nat):HeadsAt w g (Hs.take k):=by
 obtain⟨cur,hb,ht,hs⟩:=h
 refine⟨cur,hb,?_,by simp;omega⟩
 refine Ni fun j=>?_
 rw[MB]
 by_cases hj:j< (Hs.take k).length*2
 ·rw[if_pos hj]
  obtain⟨q,r,rfl,hr⟩:∃q r,j=q*2+r/\r< 2:=⟨j/2,j %2,by omega,by omega⟩
  have hq:q< (Hs.take k).length:=by omega
  have hq2:q< Hs.length:=by simp at hq;omega
  rw[flat_get Hm.cells 2 Hm.cells_length (Hs.take k) q r hq hr]
  have ho:=flat_get Hm.cells 2 Hm.cells_length Hs q r hq2 hr
  rw[<-ht,MB,if_pos (by omega)]at ho
  rw[ho,List.getElem_take]
 ·rw[if_neg hj,Mg]
  rw[aQ Hm.cells 2 Hm.cells_length];omega
abbrev iM:Value:= .func (.func 276) #[] #[]
def JH (_p g:Nat) (Hs:List Hm) (i0:Nat) (w:World) (r:Ending) (w':World):Prop:=
 (∃v,r= .returned v)/\∃Hs',Hs'.Perm Hs/\eP (Hs'.map Hm.h) i0/\HeadsAt w' g Hs'/\Mod (fun b=>b=g) w w'
theorem ry (w0 w:World) (p g c n i i0:Nat) (Hs:List Hm) (hn:Hs.length=n) (hmx:n<=1099511627776) (hi:i<=n) (h0:i0<=i)
  (hp:Blk w p 322 #[.slice (some ⟨g,0,none⟩) n c,iM]) (hg:HeadsAt w g Hs) (hpg:p≠g) (hok:∀m∈Hs,m.Ok w0) (hB:Below w0.heap.size w0 w)
  (hgB:w0.heap.size<=g) (_hpB:w0.heap.size<=p) (hs:Sinks (Hs.map Hm.h) i0 i):
  Calls prog 279 #[.pointer (some ⟨p,0,none⟩),.int .i64 i] w (JH p g Hs i0 w):=by
 have hbl:=hB.size
 go_enter func279,ntmps279
 go_wp2
 go_loopw [1] (fun v wr=>∃(k:Nat) (H:List Hm),k<=n/\i0<=k/\v= .int .i64 k/\H.Perm Hs/\Mod (fun b=>b=g) w wr/\HeadsAt wr g H/\Hid (Sinks (H.map Hm.h) i0 k)) (fun v _=>n-(intOf v).toNat)
 case atStart=>exact⟨i,Hs,hi,h0,rfl,List.Perm.refl _,Mod.refl _ _,hg,hs⟩
 case round=>
  obtain⟨k,H,hk,h0k,rfl,hperm,hm,hH,hsk⟩:=hrel
  have hHn:H.length=n:=hperm.length_eq.trans hn
  have hokH:∀m∈H,m.Ok w0:=fun m hm=>hok m (hperm.mem_iff.1 hm)
  have hBr:Below w0.heap.size w0 wr:=hB.trans (hm.below hbl (by intro k h;omega))
  have hpr:=hp.mod hm (by omega)
  have p0:wr.cell? ⟨p,0,none⟩=some (.slice (some ⟨g,0,none⟩) n c):=hpr.cell 0
  have p1:wr.cell? ⟨p,1,none⟩=some iM:=hpr.cell 1
  have HP:=KO hperm
  have HO:=KO hokH
  have HN:=KO hHn
  clear hperm hokH hok hHn hpr
  by_cases hlt:2*k+1< n
  ·obtain⟨q,hq⟩:∃q,q=2*k+1:=⟨_,rfl⟩
   have hqi:2*(k:Int)+1=(q:Int):=by omega
   have hqn:q< n:=by omega
   have q0:(0:Int)<=(q:Int):=by omega
   have q1:(q:Int)< (n:Int):=by omega
   have k0:(0:Int)<=(k:Int):=by omega
   have k1:(k:Int)< (n:Int):=by omega
   have hqH:q< H.length:=by rw[HN.out];exact hqn
   have hkH:k< H.length:=by rw[HN.out];omega
   have HH:=KO hH
   have HB:=KO hBr
   have HQ:=KO hq
   have gl:=hH.lt
   have pl:p< wr.heap.size:=Nat.lt_of_not_le fun hle=>by rw[World.cell?,Array.getElem?_eq_none hle]at p0;cases p0
   clear hH hBr hq hlt
   have hnq:decide (n<=q)=false:=decide_eq_false (by omega)
   go_upto_region 2 with fail
   go_cut [44]from 15 to 44 (fun v wx=>∃E:Bool,v= .bool E/\Hid (∀(hr:q+1< H.length),hlt (H[q+1]'hr).h (H[q]'hqH).h=E)/\Hid (E=true->q+1< H.length)/\Below wr.heap.size wr wx)
   case first=>
    obtain⟨a1,a2⟩:=HH.out.cells q hqH
    obtain⟨mq,hmq⟩:∃m,H[q]'hqH=m:=⟨_,rfl⟩
    rw[hmq]at a1 a2
    have HMQ:=KO hmq
    have OQ:=KO (HO.out _ (hmq ▸ Lh hqH))
    clear hmq
    by_cases h2:q+1< n
    ·obtain⟨r,hr⟩:∃r,r=q+1:=⟨_,rfl⟩
     have hri:(q:Int)+1=(r:Int):=by omega
     have hwr:IntKind.i64.wrap (r:Int)=(r:Int):=KU _ (by omega)
     have r0:(0:Int)<=(r:Int):=by omega
     have r1:(r:Int)< (n:Int):=by omega
     have hrH:r< H.length:=by rw[HN.out];omega
     obtain⟨c1,c2⟩:=HH.out.cells r hrH
     obtain⟨mr,hmr⟩:∃m,H[r]'hrH=m:=⟨_,rfl⟩
     rw[hmr]at c1 c2
     have HMR:=KO hmr
     have HR:=KO hr
     have OR:=KO (HO.out _ (hmr ▸ Lh hrH))
     have hrl:decide ((r:Int)< (n:Int))=true:=decide_eq_true r1
     obtain⟨E,hE⟩:∃E,hlt mr.h mq.h=E:=⟨_,rfl⟩
     have HE:=KO hE
     have HEE:Hid (∀(hr:q+1< H.length),hlt (H[q+1]'hr).h (H[q]'hqH).h=E):=by
      show∀_,_
      intro hr2
      subst hr
      rw[hmr,HMQ.out];exact hE
     clear hE hmr hr h2
     go_region_held3 (fun w'=>(∀bq jq,bq< wr.heap.size->w'.cell? ⟨bq,jq,none⟩=wr.cell? ⟨bq,jq,none⟩)/\(∀bq jq,bq< wr.heap.size->w'.frozen? ⟨bq,jq,none⟩=wr.frozen? ⟨bq,jq,none⟩)/\wr.heap.size<=w'.heap.size/\Below wr.heap.size wr w') ((with_reducible first|exact SB.init|exact SB.init0|exact SB.below (by assumption) (by assumption)|assumption))
      (first
        |(go_at_call 276;refine(sM w0 _ mr mq OR.out OQ.out (aa HB.out (SB.bel (by assumption)))).mono ?_;rw[HE.out];rintro e21 v21 ⟨rfl,hv21⟩;have hl21:=SB.le hv21 (by assumption);obtain⟨hc21,hz21,hs21⟩:=dE hv21)
        |fail "no arm")
     all_goals
      go_wp2_with fail
      go_meet
      exact⟨E,by simp,HEE,fun _=>by have:=HR.out;omega,SB.bel (by assumption)⟩
    ·have hwr:IntKind.i64.wrap ((q:Int)+1)=(n:Int):=(KU _ (by omega)).trans (by omega)
     have hrl:decide ((n:Int)< (n:Int))=false:=decide_eq_false (by omega)
     go_quiet (fail)
     go_wp2_with fail
     go_meet
     exact⟨false,by simp,fun hr=>absurd hr (by have:=HN.out;omega),fun h=>(by cases h),ay (KR _ _) _⟩
   case rest=>
   obtain⟨E,rfl,hE1,hE2,hbz⟩:=hcut
   go_upto_if 44 with fail
   go_cut [4]from 45 to 46 (fun v wx=>∃z:Nat,v= .int .i64 z/\Hid (∃hz:z< H.length,(z=2*k+1∨z=2*k+2)/\∀ci (hc:ci< H.length),(ci=2*k+1∨ci=2*k+2)->hle (H[z]'hz).h (H[ci]'hc).h)/\Below wr.heap.size wr wx)
   case first=>
    cases E
    ·go_wp2_with fail
     go_meet
     refine⟨q,by simp,⟨hqH,.inl HQ.out,fun ci hc hcc=>?_⟩,hbz⟩
     have e1:=HQ.out
     rcases(show ci=q∨ci=q+1 by omega)with rfl|rfl
     ·exact rf _
     ·exact sZ (hE1.out hc)
    ·have hr:=hE2.out rfl
     have hri:IntKind.i64.wrap ((q:Int)+1)=(q:Int)+1:=KU _ (by omega)
     go_wp2_with fail
     go_meet
     refine⟨q+1,by simp,⟨hr,.inr (by have:=HQ.out;omega),fun ci hc hcc=>?_⟩,hbz⟩
     have e1:=HQ.out
     rcases(show ci=q∨ci=q+1 by omega)with rfl|rfl
     ·exact uL (hE1.out hr)
     ·exact rf _
   case rest=>
    clear hbz hE1 hE2
    obtain⟨z,rfl,hz,hbz⟩:=hcut
    obtain⟨hzH,hzk,hzm⟩:=hz.out
    have hHc:=HH.out.below hbz gl
    have p0':wc.cell? ⟨p,0,none⟩=some (.slice (some ⟨g,0,none⟩) n c):=((aO hbz).1 p _ pl).trans p0
    have p1':wc.cell? ⟨p,1,none⟩=some iM:=((aO hbz).1 p _ pl).trans p1
    obtain⟨a1,a2⟩:=hHc.cells z hzH
    obtain⟨b1,b2⟩:=hHc.cells k hkH
    obtain⟨mz,hmz⟩:∃m,H[z]'hzH=m:=⟨_,rfl⟩
    obtain⟨mk,hmk⟩:∃m,H[k]'hkH=m:=⟨_,rfl⟩
    rw[hmz]at a1 a2
    rw[hmk]at b1 b2
    have HMZ:=KO hmz
    have HMK:=KO hmk
    have OZ:=KO (HO.out _ (hmz ▸ Lh hzH))
    have OK:=KO (HO.out _ (hmk ▸ Lh hkH))
    have z0:(0:Int)<=(z:Int):=by omega
    have z1:(z:Int)< (n:Int):=by have:=HN.out;omega
    have HB2:=KO (aa HB.out hbz)
    have HZK:=KO hzk
    have HZM:=KO hzm
    have HHC:=KO hHc
    have gl2:=hHc.lt
    have pl2:p< wc.heap.size:=Nat.lt_of_lt_of_le pl hbz.size
    have HM:=KO (hm.ext hbz)
    obtain⟨E,hE⟩:∃E,hlt mz.h mk.h=E:=⟨_,rfl⟩
    have HE:=KO hE
    clear hE hmz hmk hzk hzm hHc p0 p1 hbz hz
    go_upto_region 4 with fail
    cases E
    ·go_region_held3 (fun w'=>(∀bq jq,bq< wc.heap.size->w'.cell? ⟨bq,jq,none⟩=wc.cell? ⟨bq,jq,none⟩)/\(∀bq jq,bq< wc.heap.size->w'.frozen? ⟨bq,jq,none⟩=wc.frozen? ⟨bq,jq,none⟩)/\wc.heap.size<=w'.heap.size/\Below wc.heap.size wc w') ((with_reducible first|exact SB.init|exact SB.init0|exact SB.below (by assumption) (by assumption)|assumption))
      (first
       |(go_at_call 276;refine(sM w0 _ mz mk OZ.out OK.out (aa HB2.out (SB.bel (by assumption)))).mono ?_;rw[HE.out];rintro e31 v31 ⟨rfl,hv31⟩;have hl31:=SB.le hv31 (by assumption);obtain⟨hc31,hz31,hs31⟩:=dE hv31)
       |fail "no arm")
     all_goals
      go_wp2_with fail
      refine KV (L6 rfl _ _ _) rfl ?_
      refine⟨⟨_,rfl⟩,H,HP.out,hsk.out.done fun ci hc hi' hcc=>?_,HHC.out.below (SB.bel (by assumption)) gl2,HM.out.ext (SB.bel (by assumption))⟩
      simp at hc
      have h1:hle mk.h mz.h:=sZ HE.out
      have h2:=HZM.out ci hc hcc
      rw[HMZ.out]at h2
      rw[MQ,MQ,HMK.out]
      exact uY h1 h2
    ·go_region_held3 (fun w'=>(∀bq jq,bq< wc.heap.size->w'.cell? ⟨bq,jq,none⟩=wc.cell? ⟨bq,jq,none⟩)/\(∀bq jq,bq< wc.heap.size->w'.frozen? ⟨bq,jq,none⟩=wc.frozen? ⟨bq,jq,none⟩)/\wc.heap.size<=w'.heap.size/\Below wc.heap.size wc w') ((with_reducible first|exact SB.init|exact SB.init0|exact SB.below (by assumption) (by assumption)|assumption))
      (first
       |(go_at_call 276;refine(sM w0 _ mz mk OZ.out OK.out (aa HB2.out (SB.bel (by assumption)))).mono ?_;rw[HE.out];rintro e31 v31 ⟨rfl,hv31⟩;have hl31:=SB.le hv31 (by assumption);obtain⟨hc31,hz31,hs31⟩:=dE hv31)
       |fail "no arm")
     all_goals
      have hbv:Below wc.heap.size wc v31:=SB.bel (by assumption)
      have P0:v31.cell? ⟨p,0,none⟩=some (.slice (some ⟨g,0,none⟩) n c):=((aO hbv).1 p _ pl2).trans p0'
      have A1:=((aO hbv).1 g _ gl2).trans a1
      have A2:=((aO hbv).1 g _ gl2).trans a2
      have B1:=((aO hbv).1 g _ gl2).trans b1
      have B2:=((aO hbv).1 g _ gl2).trans b2
      have hHv:=HHC.out.below hbv gl2
      have F1:=hHv.frozen (z*2)
      have F2:=hHv.frozen (z*2+1)
      have F3:=hHv.frozen (k*2)
      have F4:=hHv.frozen (k*2+1)
      have HHV:=KO hHv
      have HMV:=KO (HM.out.ext hbv)
      have n1:¬z=k:=by have:=HZK.out;omega
      have n2:¬k=z:=by have:=HZK.out;omega
      have n3:¬z*2=k*2+1:=by omega
      have n4:¬z*2+1=k*2:=by omega
      have n5:¬k*2=z*2+1:=by omega
      have n6:¬k*2+1=z*2:=by omega
      rename_i hHd
      clear hHd p0' p1' a1 a2 b1 b2 hc31 hz31 hs31 hl31 hv31 hbv hHv
      go_upto_region 5 with fail
      go_region
      all_goals
       go_wp2_with fail
       refine⟨⟨z,(H.set k mz).set z mk,by omega,by have:=HZK.out;omega,rfl,?_,?_,?_,?_⟩,by simp[intOf];have:=HZK.out;omega⟩
       ·refine List.Perm.trans ?_ HP.out
        rw[<-HMZ.out,<-HMK.out]
        exact List.set_set_perm hkH hzH
       ·exact((((HMV.out.setCell (p:=⟨g,k*2,none⟩) rfl _).setCell (p:=⟨g,k*2+1,none⟩) rfl _).setCell (p:=⟨g,z*2,none⟩) rfl _).setCell (p:=⟨g,z*2+1,none⟩) rfl _).drew
       ·exact(HHV.out.put k hkH mz).put z (by simpa using hzH) mk
       ·have hk':k< (H.map Hm.h).length:=by simpa using hkH
        have hz':z< (H.map Hm.h).length:=by simpa using hzH
        have h1:=hsk.out.step h0k hk' hz' HZK.out (by rw[MQ,MQ,HMZ.out,HMK.out];exact HE.out) (fun ci hc hcc=>by
         rw[MQ,MQ]
         exact HZM.out ci (by simpa using hc) hcc)
        have h2:qR (H.map Hm.h) k z hk' hz'=((H.set k mz).set z mk).map Hm.h:=by
         unfold qR
         rw[List.map_set,List.map_set,MQ,MQ,HMZ.out,HMK.out]
        rw[h2]at h1
        exact h1
  ·go_wp2
   refine KV (L6 rfl _ _ _) rfl ?_
   refine⟨⟨_,rfl⟩,H,HP.out,hsk.out.done fun c hc hi' hcc=>?_,hH,hm⟩
   simp[HN.out]at hc
   omega
end Go.Proofs.YtpbmbjjfdpkhbaaGreat
