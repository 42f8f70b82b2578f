/- part of the proof -/
import Derived.Test.YtpbmbjjfdpkhbaaGreatZw2
import Derived.Test.YtpbmbjjfdpkhbaaGreatZw4
import Derived.WalkSmall
import Derived.Deep.RegionWith
import Derived.Deep.Cut
import Derived.Deep.MidRow
import Derived.Test.YtpbmbjjfdpkhbaaGreatZw1
import Derived.BigQuiet
import Derived.Deep.CutRange
import Derived.Deep.RegionHeld3
import Derived.Deep.QuietTactic
import Derived.Test.YtpbmbjjfdpkhbaaGreatZw3
namespace Go.Proofs.YtpbmbjjfdpkhbaaGreat
open Go Go.RowKit
set_option linter.all false
set_option maxRecDepth 100000
set_option maxHeartbeats 32000000
open Go.Proofs.Tryz
open Below renaming refl->KR
open Bool renaming and_eq_true->Lm,false_ne_true->KP
open Go renaming wpOp_step->KT
open Go.Calls renaming quiet_of_same->LJ
open Go.IntWalk renaming wrap64_in->Ml
open Go.Lib renaming hid->KO
open Go.Region renaming binds->Nh,wanted->L8
open Int renaming natCast_ediv->M3,toNat_natCast->Mk
open List renaming all_eq_true->MC,getD_eq_getElem?_getD->Lf,getElem?_cons_succ->La,getElem?_cons_zero->Lb,getElem?_eq_getElem->K7,getElem?_take->MB,map_map->Nj,mem_cons_of_mem->K4,mem_cons_self->LY,range->Lt,range'->MK
open Nat renaming add_mul->ML,le_refl->KS,le_trans->KY,one_mul->Mo,zero_le->K8
open Option.some renaming inj->KQ
def eT (seg:Int) (n:Nat):Bool:=decide (4<=seg)&&decide (seg<=64)&&pow2 seg.toNat&&decide (1<=n)&&decide (n %seg.toNat=0)&&pow2 (n/seg.toNat)
theorem sJ {seg:Int} {n:Nat} (h:eT seg n=true):4<=seg/\seg<=64/\1<=n/\n %seg.toNat=0/\n=seg.toNat*(n/seg.toNat):=by
 unfold eT at h
 simp only[Lm,decide_eq_true_eq]at h
 obtain⟨⟨⟨⟨⟨h1,h2⟩,_⟩,h4⟩,h5⟩,_⟩:=h
 have:=Nat.div_add_mod n seg.toNat
 exact⟨h1,h2,h4,h5,by omega⟩
theorem EG (seg:Int) (n:Nat) (w:World) (hn:n<=300):Calls prog 210 #[.int .i64 seg,.int .i64 (n:Nat)] w fun r w'=>r= .returned (.bool (eT seg n))/\w'=w:=by
 by_cases h1:4<=seg
 case neg=>
  have hf:eT seg n=false:=by unfold eT;simp[h1]
  rw[hf]
  clear hf
  go_enter func210,ntmps210
  go_wp2_with fail
  go_ret
  exact⟨rfl,rfl⟩
 case pos=>
 by_cases h2:seg<=64
 case neg=>
  have hf:eT seg n=false:=by unfold eT;simp[h2]
  rw[hf]
  clear hf
  go_enter func210,ntmps210
  go_wp2_with fail
  go_ret
  exact⟨rfl,rfl⟩
 case pos=>
 obtain⟨s,rfl⟩:∃s:Nat,seg=(s:Int):=⟨seg.toNat,by omega⟩
 have hp1:=fun w=>iG (s:Int) w (by omega)
 rw[Mk]at hp1
 have hfs:eT (s:Int) n=(pow2 s&&decide (1<=n)&&decide (n %s=0)&&pow2 (n/s)):=by unfold eT;rw[Mk,decide_eq_true h1,decide_eq_true h2];simp
 rw[hfs]
 clear hfs
 obtain⟨P,hP⟩:∃P,pow2 s=P:=⟨_,rfl⟩
 rw[hP]at hp1 ⊢
 have HP1:=KO hp1
 clear hp1 hP
 cases P with
 |false=>
  rw[show(false&&decide (1<=n)&&decide (n %s=0)&&pow2 (n/s))=false from by simp]
  go_enter func210,ntmps210
  go_wp2_with fail
  refine(HP1.out _).mono ?_
  rintro e w1 ⟨rfl,rfl⟩
  go_wp2_with fail
  go_ret
  exact⟨rfl,rfl⟩
 |true=>
 by_cases h3:(s:Int)<=(n:Int)
 case neg=>
  rw[show(true&&decide (1<=n)&&decide (n %s=0)&&pow2 (n/s))=false from by
   by_cases h:n=0
   ·simp[h]
   ·have:n %s=n:=Nat.mod_eq_of_lt (by omega)
    simp[this,h]]
  go_enter func210,ntmps210
  go_wp2_with fail
  refine(HP1.out _).mono ?_
  rintro e w1 ⟨rfl,rfl⟩
  go_wp2_with fail
  go_ret
  exact⟨rfl,rfl⟩
 case pos=>
 have hn1:1<=n:=by omega
 rw[show(true&&decide (1<=n)&&decide (n %s=0)&&pow2 (n/s))=(decide (n %s=0)&&pow2 (n/s))from by simp[hn1]]
 obtain⟨M,hM⟩:∃M,n %s=M:=⟨_,rfl⟩
 obtain⟨D,hD⟩:∃D,n/s=D:=⟨_,rfl⟩
 have hMi:(n:Int) %(s:Int)=(M:Int):=by rw[<-hM,Int.natCast_emod]
 have hDi:(n:Int)/(s:Int)=(D:Int):=by rw[<-hD,M3]
 have hD75:D<=75:=by rw[<-hD];exact KY (Nat.div_le_div_left (by omega:4<=s) (by omega)) (by omega)
 have hs0:¬(s:Int)=0:=by omega
 have hs1:(0:Int)< (s:Int):=by omega
 have hwk:wrap64 (D:Int)=(D:Int):=Ml _ (by omega)
 have hb9:(n:Int)<=65536:=by omega
 have hp2:=fun w=>iG (D:Int) w (by omega)
 rw[Mk]at hp2
 have HP2:=KO hp2
 rw[hM,hD]
 clear hM hD hp2 hn1
 by_cases hm:M=0
 case neg=>
  have hmi:¬(M:Int)=0:=by omega
  rw[show(decide (M=0)&&pow2 D)=false from by simp[hm]]
  go_enter func210,ntmps210
  go_wp2_with fail
  refine(HP1.out _).mono ?_
  rintro e w1 ⟨rfl,rfl⟩
  go_wp2_with fail
  go_ret
  exact⟨rfl,rfl⟩
 case pos=>
  subst hm
  rw[show(decide (0=0)&&pow2 D)=pow2 D from by simp]
  go_enter func210,ntmps210
  go_wp2_with fail
  refine(HP1.out _).mono ?_
  rintro e w1 ⟨rfl,rfl⟩
  go_wp2_with fail
  refine(HP2.out _).mono ?_
  rintro e w1 ⟨rfl,rfl⟩
  go_wp2_with fail
  go_ret
  exact⟨rfl,rfl⟩
theorem zz (seg:Int) (n:Nat) (w:World) (hn:n<=300):Calls prog 152 #[.int .i64 seg,.int .i64 (n:Nat)] w fun r w'=>r= .returned (.bool (eT seg n))/\w'=w:=by
 by_cases h1:4<=seg
 case neg=>
  have hf:eT seg n=false:=by unfold eT;simp[h1]
  rw[hf]
  clear hf
  go_enter func152,ntmps152
  go_wp2_with fail
  go_ret
  exact⟨rfl,rfl⟩
 case pos=>
 by_cases h2:seg<=64
 case neg=>
  have hf:eT seg n=false:=by unfold eT;simp[h2]
  rw[hf]
  clear hf
  go_enter func152,ntmps152
  go_wp2_with fail
  go_ret
  exact⟨rfl,rfl⟩
 case pos=>
 obtain⟨s,rfl⟩:∃s:Nat,seg=(s:Int):=⟨seg.toNat,by omega⟩
 have hp1:=fun w=>kH (s:Int) w (by omega)
 rw[Mk]at hp1
 have hfs:eT (s:Int) n=(pow2 s&&decide (1<=n)&&decide (n %s=0)&&pow2 (n/s)):=by unfold eT;rw[Mk,decide_eq_true h1,decide_eq_true h2];simp
 rw[hfs]
 clear hfs
 obtain⟨P,hP⟩:∃P,pow2 s=P:=⟨_,rfl⟩
 rw[hP]at hp1 ⊢
 have HP1:=KO hp1
 clear hp1 hP
 cases P with
 |false=>
  rw[show(false&&decide (1<=n)&&decide (n %s=0)&&pow2 (n/s))=false from by simp]
  go_enter func152,ntmps152
  go_wp2_with fail
  refine(HP1.out _).mono ?_
  rintro e w1 ⟨rfl,rfl⟩
  go_wp2_with fail
  go_ret
  exact⟨rfl,rfl⟩
 |true=>
 by_cases h3:(n:Int)< 1
 case pos=>
  rw[show(true&&decide (1<=n)&&decide (n %s=0)&&pow2 (n/s))=false from by
    have:n=0:=by omega
    simp[this]]
  go_enter func152,ntmps152
  go_wp2_with fail
  refine(HP1.out _).mono ?_
  rintro e w1 ⟨rfl,rfl⟩
  go_wp2_with fail
  go_ret
  exact⟨rfl,rfl⟩
 case neg=>
 have hn1:1<=n:=by omega
 rw[show(true&&decide (1<=n)&&decide (n %s=0)&&pow2 (n/s))=(decide (n %s=0)&&pow2 (n/s))from by simp[hn1]]
 obtain⟨M,hM⟩:∃M,n %s=M:=⟨_,rfl⟩
 obtain⟨D,hD⟩:∃D,n/s=D:=⟨_,rfl⟩
 have hMi:(n:Int) %(s:Int)=(M:Int):=by rw[<-hM,Int.natCast_emod]
 have hDi:(n:Int)/(s:Int)=(D:Int):=by rw[<-hD,M3]
 have hD75:D<=75:=by rw[<-hD];exact KY (Nat.div_le_div_left (by omega:4<=s) (by omega)) (by omega)
 have hs0:¬(s:Int)=0:=by omega
 have hs1:(0:Int)< (s:Int):=by omega
 have hwk:wrap64 (D:Int)=(D:Int):=Ml _ (by omega)
 have hb9:(n:Int)<=65536:=by omega
 have hp2:=fun w=>kH (D:Int) w (by omega)
 rw[Mk]at hp2
 have HP2:=KO hp2
 rw[hM,hD]
 clear hM hD hp2 hn1
 by_cases hm:M=0
 case neg=>
  have hmi:¬(M:Int)=0:=by omega
  rw[show(decide (M=0)&&pow2 D)=false from by simp[hm]]
  go_enter func152,ntmps152
  go_wp2_with fail
  refine(HP1.out _).mono ?_
  rintro e w1 ⟨rfl,rfl⟩
  go_wp2_with fail
  go_ret
  exact⟨rfl,rfl⟩
 case pos=>
  subst hm
  rw[show(decide (0=0)&&pow2 D)=pow2 D from by simp]
  go_enter func152,ntmps152
  go_wp2_with fail
  refine(HP1.out _).mono ?_
  rintro e w1 ⟨rfl,rfl⟩
  go_wp2_with fail
  refine(HP2.out _).mono ?_
  rintro e w1 ⟨rfl,rfl⟩
  go_wp2_with fail
  go_ret
  exact⟨rfl,rfl⟩
structure Ss where
 seg:Int
 ws:List Nat
 ks:List Int
 vs:List Int
 cs:List Int
 laid:Int
 wA:Option Addr
 kA:Option Addr
 vA:Option Addr
 cA:Option Addr
 wc:Nat
 kc:Nat
 vc:Nat
 cc:Nat
abbrev Ss.row (s:Ss):Array Value:=#[.int .i64 s.seg,.slice s.wA s.ws.length s.wc,.slice s.kA s.ks.length s.kc,.slice s.vA s.vs.length s.vc,.slice s.cA s.cs.length s.cc,.int .u64 s.laid]
structure SsAt (w:World) (s:Ss):Prop where
 words:Sl w s.wA (s.ws.map uw)
 keys:Sl w s.kA (s.ks.map iv)
 vals:Sl w s.vA (s.vs.map iv)
 cnts:Sl w s.cA (s.cs.map iv)
theorem SsAt.below {w w':World} {s:Ss} (h:SsAt w s) (hb:Below w.heap.size w w'):SsAt w' s:=⟨h.words.below hb,h.keys.below hb,h.vals.below hb,h.cnts.below hb⟩
structure SsOk (s:Ss):Prop where
 w64:∀x∈s.ws,x< 18446744073709551616
 wl:s.ws.length<=300
 kl:s.ks.length<=300
 vl:s.vs.length<=300
 cl:s.cs.length<=300
def fJ (s:Ss) (i:Nat):Bool:=decide (fF s.ws i=1)||(decide (s.ks.getD i 0=0)&&decide (s.vs.getD i 0=0))
def countB (s:Ss) (k:Nat):Bool:=decide (s.cs.getD k 0=(bf s.ws (k*s.seg.toNat) s.seg.toNat:Nat))
def lY (s:Ss):Bool:=eT s.seg s.ks.length&&decide (s.vs.length=s.ks.length)&&decide (fZ s.ws s.ks.length=0)&&decide (s.cs.length=s.ks.length/s.seg.toNat)
def bF (s:Ss):Bool:=lY s&&(Lt s.ks.length).all (fJ s)&&(Lt s.cs.length).all (countB s)
theorem jy {p:Nat->Bool} {n i:Nat} (h:i< n) (hp:p i=false):(Lt n).all p=false:=by
 rw[List.all_eq_false]
 exact⟨i,List.mem_range.2 h,by simp[hp]⟩
theorem iW {p:Nat->Bool} {n:Nat} (h:∀i,i< n->p i=true):(Lt n).all p=true:=by
 rw[MC]
 exact fun i hi=>h i (List.mem_range.1 hi)
theorem vY (y:Nat) (hy:y< 18446744073709551616):bits BinOp.and IntKind.u64 (y:Int) 1=((y %2:Nat):Int):=by
 rw[Go.and_one_u64 _ (by omega) (by omega)]
 omega
theorem Ih (x m:Nat) (hm:m< 64) (w:World):(binOp .shr 22 (.int .u64 (x:Nat)) (.int .i64 (m:Nat))).run prog w= .ok (.int .u64 ((x/2 ^ m:Nat):Int)) w:=by
 have i5:(0:Int)<=(m:Int):=by omega
 have i6:(m:Int)<=64:=by omega
 have h:(x:Int)/2 ^ m=((x/2 ^ m:Nat):Int):=by rw[M3,Int.natCast_pow];rfl
 obtain⟨Y,hY⟩:∃Y,x/2 ^ m=Y:=⟨_,rfl⟩
 rw[hY]at h ⊢
 rw[<-h]
 clear h hY
 go_simp
theorem iK {ops:Array Oper} {rest:List Oper} {o:Oper} {a:Act} {w:World} {Q:Exit->Act->World->Prop} (hgd:o.guard=none) (s x:Operand) (ty:TypeId)
  (ho:o.op= .binOp .shr 22 s x ty) (X m Y:Nat) (hm:m< 64) (hs:a.eval s= .int .u64 (X:Nat)) (hx:a.eval x= .int .i64 (m:Nat)) (hY:X/2 ^ m=Y)
  (h:wpList prog ops Q rest (a.put o.dst (.int .u64 (Y:Nat))) w):wpList prog ops Q (o::rest) a w:=by
 refine wpList_plain hgd fun K hK=>?_
 have hrun:=Ih X m hm w
 rw[hY]at hrun
 unfold Oper.wp execOp
 have hg:(eqGuard .shr 22 s x (.int .u64 (X:Nat)) (.int .i64 (m:Nat))).run prog w= .ok () w:=rfl
 simp only[ho,hs,hx,Sem.run_bind,Sem.run_pure,Result.andThen_ok,hg,hrun]
 exact hK _ _ h
theorem JW (y:Nat) (hy:y< 18446744073709551616) (h:y %2=1):bits BinOp.and IntKind.u64 (y:Int) 1=1:=(vY y hy).trans (by omega)
theorem Ir (y:Nat) (hy:y< 18446744073709551616) (h:¬y %2=1):bits BinOp.and IntKind.u64 (y:Int) 1=0:=(vY y hy).trans (by omega)
theorem Hl (y:Nat) (hy:y< 18446744073709551616) (h:y %2=1):(bits BinOp.and IntKind.u64 (y:Int) 1==0)=false/\decide (bits BinOp.and IntKind.u64 (y:Int) 1=0)=false:=by rw[JW y hy h];decide
theorem Fg (y:Nat) (hy:y< 18446744073709551616) (h:¬y %2=1):(bits BinOp.and IntKind.u64 (y:Int) 1==0)=true/\decide (bits BinOp.and IntKind.u64 (y:Int) 1=0)=true:=by rw[Ir y hy h];decide
theorem tC (k K:Nat) (h:k/64=K) (hk:k<=1000000):wrap64 ((k:Int)/64)=(K:Int):=by
 rw[show(k:Int)/64=(K:Int)from by omega]
 exact Ml _ (by omega)
theorem BR (k m n:Nat) (h:k %n=m):(k:Int) %(n:Int)=(m:Int):=by rw[<-h,Int.natCast_emod]
theorem aU (k:Nat) (hk:k<=1000000):wrap64 ((k:Int)+1)=((k+1:Nat):Int):=by
 rw[Ml _ (by omega)]
 omega
theorem bT (n k:Nat) (h:k< n) (hw:wrap64 ((k:Int)+1)=((k+1:Nat):Int)):n-(intOf (.int .i64 (wrap64 ((k:Int)+1)))).toNat< n-(intOf (.int .i64 (k:Int))).toNat:=by
 rw[hw]
 show n-((k+1:Nat):Int).toNat< n-((k:Nat):Int).toNat
 rw[Mk,Mk]
 omega
theorem jF (k G F:Nat) (h:k*G=F) (hF:F<=1000000):IntKind.i64.wrap ((k:Int)*(G:Int))=(F:Int)/\wrap64 ((k:Int)*(G:Int))=(F:Int):=by
 have h1:(k:Int)*(G:Int)=(F:Int):=by rw[<-h,Int.natCast_mul]
 rw[h1]
 exact⟨IntWalk.i64_in _ (by omega),Ml _ (by omega)⟩
theorem tF (k G F:Nat) (h:(k+1)*G=F) (hF:F<=1000000):IntKind.i64.wrap (((k:Int)+1)*(G:Int))=(F:Int)/\wrap64 (((k:Int)+1)*(G:Int))=(F:Int):=jF (k+1) G F h hF
theorem BZ (k D G n:Nat) (hk:k< D) (h:G*D<=n):(k+1)*G<=n:=KY (by rw[Nat.mul_comm];exact Nat.mul_le_mul_left _ hk) h
theorem CP (k G:Nat):(k+1)*G-k*G=G:=by rw[ML,Mo];omega
theorem nT (k:Nat) (hk:k<=1000000000):wrap64 (k:Int)=(k:Int):=Ml _ (by omega)
theorem gL (w:World) (T:TypeId) (row:Array Value):∃W,w.alloc (.cells row T)=W/\Below w.heap.size w W/\Blk W w.heap.size T row:=⟨_,rfl,(KR _ _).alloc (KS _) _,Blk.new _ _ _⟩
theorem yN (w:World) (T:TypeId) (r:Array Value) (T2:TypeId) (r2:Array Value):∃W,(w.alloc (.cells r T)).alloc (.cells r2 T2)=W/\Below w.heap.size w W/\Blk W w.heap.size T r/\Blk W (w.heap.size+1) T2 r2:=
 ⟨_,rfl,((KR _ _).alloc (KS _) _).alloc (by simp) _,(Blk.new _ _ _).alloc _,by
  have:=Blk.new (w.alloc (.cells r T)) T2 r2
  rwa [World.size_alloc]at this⟩
theorem Blk.all {U:World} {g:Nat} {T:TypeId} {r:Array Value} (b:Blk U g T r):∀W,Below U.heap.size U W->∀i,W.cell? ⟨g,i,none⟩=r[i]?:=fun _ h i=>(b.below h b.lt).cell i
theorem bx1 (w:World) (T:TypeId) (r:Array Value):∃U,Hid (w.alloc (.cells r T)=U)/\Hid (Below w.heap.size w U)/\Below U.heap.size U U/\(∀W,Below U.heap.size U W->∀i,W.cell? ⟨w.heap.size,i,none⟩=r[i]?):=by
 obtain⟨U,h,h0,b⟩:=gL w T r
 exact⟨U,h,h0,KR _ _,b.all⟩
theorem Kv (w:World) (T:TypeId) (r:Array Value) (T2:TypeId) (r2:Array Value):∃U,Hid ((w.alloc (.cells r T)).alloc (.cells r2 T2)=U)/\Hid (Below w.heap.size w U)/\Below U.heap.size U U/\(∀W,Below U.heap.size U W->∀i,W.cell? ⟨w.heap.size,i,none⟩=r[i]?)/\(∀W,Below U.heap.size U W->∀i,W.cell? ⟨w.heap.size+1,i,none⟩=r2[i]?):=by
 obtain⟨U,h,h0,b,b2⟩:=yN w T r T2 r2
 exact⟨U,h,h0,KR _ _,b.all,b2.all⟩
def ES (P:Program) (T:TypeId) (n:Nat):Prop:=∃d,P.underlying T=some d/\d.isRow=true/\(P.info? T).map (·.size)=some n
def Rg (P:Program) (U:World) (T:TypeId) (g o:Nat) (row:Array Value):Prop:=ES P T row.size/\∀W,Below U.heap.size U W->W.rangeAt g o row.toList
theorem JY {P:Program} {U:World} {T:TypeId} {g:Nat} {r:Array Value} (q:∀W,Below U.heap.size U W->∀i,W.cell? ⟨g,i,none⟩=r[i]?) (o:Nat) (row:Array Value) (ht:ES P T row.size) (h:(r.toList.drop o).take row.size=row.toList):Rg P U T g o row:=
 ⟨ht,fun W hb j v hv=>by
  have hj:j< row.size:=by have:=(List.getElem?_eq_some_iff.1 hv).1;simpa using this
  rw[q W hb,<-hv,<-h,MB,if_pos hj,List.getElem?_drop,Array.getElem?_toList]⟩
theorem JZ {P:Program} {a:Act} {w U:World} {ops:Array Oper} {rest:List Oper} {op:Oper} {Q:Exit->Act->World->Prop} {T:TypeId} {g o:Nat} {row:Array Value} {x:Operand} (p:Rg P U T g o row)
  (ho:op.op= .load T x) (hx:a.eval x= .pointer (some ⟨g,o,none⟩)) (hgd:L8 op (yielded ops a.tmps)=true) (hb:Below U.heap.size U w)
  (h:wpList P ops Q rest (a.put op.dst (.agg row)) w):wpList P ops Q (op::rest) a w:=by
 obtain⟨⟨d,hu,hd,hi⟩,q⟩:=p
 refine wpList_step fun K hK=>?_
 rw[if_pos hgd]
 exact wp_load_mid T x ho g o hx row.toList d (q w hb) hu hd (by simpa using hi) (hK _ _ (by simpa using h))
theorem eX {P:Program} {a:Act} {w:World} {ops:Array Oper} {rest:List Oper} {op:Oper} {Q:Exit->Act->World->Prop} {T T':TypeId} {g n:Nat} {r:Array Value} {d:TypeDesc} {x:Operand} (h:Blk w g T' r) (o:Nat)
  (hu:P.underlying T=some d) (hi:(P.info? T).map (·.size)=some n) (ho:op.op= .load T x) (hx:a.eval x= .pointer (some ⟨g,o,none⟩)) (hd:d.isRow=true) (hgd:L8 op (yielded ops a.tmps)=true)
  (k:wpList P ops Q rest (a.put op.dst (.agg ((r.toList.drop o).take n).toArray)) w) (hn:((r.toList.drop o).take n).length=n:=by rfl):wpList P ops Q (op::rest) a w:=by
 refine wpList_step fun K hK=>?_
 rw[if_pos hgd]
 refine wp_load_mid T x ho g o hx ((r.toList.drop o).take n) d (fun j v hv=>?_) hu hd (by rw[hn];exact hi) (hK _ _ k)
 have hj:j< n:=by have:=(List.getElem?_eq_some_iff.1 hv).1;omega
 rw[h.cell,<-hv,MB,if_pos hj,List.getElem?_drop,Array.getElem?_toList]
theorem KF (k n:Nat):decide ((k:Int)< (n:Int))=decide (k< n):=by rw[decide_eq_decide];omega
theorem Kh (n:Nat):decide ((300:Int)< (n:Int))=decide (300< n):=KF 300 n
theorem Ki (n:Nat):decide ((600:Int)< (n:Int))=decide (600< n):=KF 600 n
theorem wl {P:Program} {ops:Array Oper} {Q:Exit->Act->World->Prop} {l:List Oper} {a:Act} {w:World} (h:wpList P ops Q l a w):wpList P ops Q l a w:=h
theorem jd {P:Prop} (h:P:=by
 go_upto_region 1 with fail
 rw[HU.out]
 clear HU
 go_wp2_with (first
  |(with_reducible refine wl ?_;first
   |refine JZ p1 rfl rfl rfl (by assumption) ?_
   |refine JZ p2 rfl rfl rfl (by assumption) ?_
   |refine JZ p3 rfl rfl rfl (by assumption) ?_
   |refine JZ p4 rfl rfl rfl (by assumption) ?_
   |refine JZ p5 rfl rfl rfl (by assumption) ?_
   |refine JZ p6 rfl rfl rfl (by assumption) ?_)
  |((first
  |with_reducible refine(K0.out _ (by assumption)).mono ?_
  |with_reducible refine(K1.out _ (by assumption)).mono ?_
  |with_reducible refine(K2.out _ (by assumption)).mono ?_
  |with_reducible refine(K3.out _ (by assumption)).mono ?_
  |with_reducible refine(J0.out _ (by assumption)).mono ?_
  |with_reducible refine(J1.out _ (by assumption)).mono ?_
  |with_reducible refine(J2.out _ (by assumption)).mono ?_
  |with_reducible refine(J3.out _ (by assumption)).mono ?_);rintro e W ⟨rfl,hd⟩;have hw:Below U.heap.size U W:=(by first|exact aa (by assumption) hd|exact aa (by assumption) hd.below);clear hd;(first|cases E0|cases E1|cases E2|cases E3|skip)))
 all_goals
  go_ret
  refine⟨?_,aa HB0.out (by assumption)⟩
  rw[<-HR.out]
  first|(simp[*];done)|(simp;omega)|(simp only[Kh,Ki];simp)):P:=h
section
def nC (v:Nat->Value) (i:Nat) (x:Value):Nat->Value:=fun j=>if j=i then x else v j
def gT:List Nat->(Nat->Value)->Nat->Value
 |[],_,_=>undef
 |k::S,v,j=>if j=k then v j else gT S v j
def ou:List Oper->Nat->(Nat->Value)->Act->Act
 |[],_,_,a=>a
 |o::os,i,v,a=>ou os (i+1) v (a.put o.dst (v i))
structure TEnt (R:Bool->World->World->Prop) where
 d:List Nat
 p:(Nat->Value)->World->Prop
 u:Bool
 s:∀v w w',R false w w'->p v w->p v w'
 s':u=true->∀v w w',R true w w'->p v w->p v w'
variable {R:Bool->World->World->Prop}
def TEnt.v (d:List Nat) (q:(Nat->Value)->Prop):TEnt R:=⟨d,fun v _=>q v,true,fun _ _ _ _ h=>h,fun _ _ _ _ _ h=>h⟩
def RB:Bool->World->World->Prop
 |false,w,w'=>Below w.heap.size w w'
 |true,_,_=>False
def TEnt.w (d:List Nat) (p:(Nat->Value)->World->Prop) (s:∀v w w',Below w.heap.size w w'->p v w->p v w'):TEnt RB:=⟨d,p,true,s,fun _ _ _ _ h=>h.elim⟩
def dV (es:List (TEnt R)) (v:Nat->Value) (w:World) (j:Nat):Prop:=
 match es[j]? with
 |some e=>e.p (gT (j::e.d) v) w
 |none=>True
def dO (es:List (TEnt R)) (v:Nat->Value) (w:World):List Nat->Prop->Prop
 |[],G=>G
 |j::js,G=>dV es v w j->dO es v w js G
def iQ (P:Program) (ops:Array Oper) (Q:Exit->Act->World->Prop) (fr:(Nat->Value)->Act) (c:Nat) (G1:Nat->World->Prop) (es:List (TEnt R)) (G:Prop):List Oper->List (TEnt R)->Nat->Prop
 |_,[],_=>G
 |[],_::_,_=>False
 |o::os,e::r,i=>(∀v w (K:Act->World->Prop),G1 i w->(∀x w',R (i==c) w w'->dV es (nC v i x) w' i->K (fr (nC v i x)) w')->dO es v w e.d
   (if L8 o (yielded ops (fr v).tmps)=true then o.wp P (fr v) w K Q else K ((fr v).put o.dst undef) w))/\iQ P ops Q fr c G1 es G os r (i+1)
def oZ (P:Program) (ops:Array Oper) (Q:Exit->Act->World->Prop):List Nat->Act->World->Prop
 |[],a,w=>Q .normal a w
 |i::r,a,w=>wpOp P ops Q i (oZ P ops Q r) a w
def tK (ops:Array Oper):Nat->Nat->Nat->Bool
 |0,_,_=>false
 |f+1,i,j=>match ops[i]? with
  |some o=>o.after.any fun e=>Nh .any e&&(e.on==j||tK ops f e.on j)
  |none=>false
def Hu (ops:Array Oper) (es:List (TEnt R)) (m c:Nat):Bool:=
 decide (m<=ops.size)&&(Lt ops.size).all (fun i=>match ops[i]? with
  |some o=>o.after.all fun e=>!Nh .any e||decide (e.on< i)
  |none=>true)
 &&(Lt m).all (fun i=>match es[i]? with
  |some e=>e.d.all fun j=>decide (j< m)&&tK ops ops.size i j
  |none=>false)
 &&(Lt m).all (fun j=>match es[j]? with
  |some e=>e.u||(c==j||tK ops ops.size j c)
  |none=>true)
 &&(Lt ops.size).all (fun i=>decide (i< m)||(Lt i).all fun j=>tK ops ops.size i j)
def Gb (ops:List Oper) (n:Nat):Bool:=
 match ops with
 |[]=>true
 |o::os=>(match o.dst with
  |none=>true
  |some d=>decide (d< n)&&os.all fun o'=>o'.dst !=some d)&&Gb os n
section
variable {P:Program} {ops:Array Oper} {Q:Exit->Act->World->Prop}
theorem dX {d:Option Tmp} {op:Op} {t:TypeId} {p:String} {a:Array Edge} {y:Nat->Option Bool}:L8 ⟨d,op,t,p,a,none⟩ y=true:=rfl
theorem rX {v v':Nat->Value}:∀{S:List Nat},(∀j∈S,v j=v' j)->gT S v=gT S v'
 |[],_=>rfl
 |k::S,h=>by
  funext j
  simp only[gT]
  by_cases hj:j=k
  ·rw[if_pos hj,if_pos hj];exact h j (hj ▸ LY)
  ·rw[if_neg hj,if_neg hj,rX (fun x hx=>h x (K4 _ hx))]
theorem CJ:∀(os:List Oper) (i j:Nat) (v:Nat->Value) (a:Act) (x:Value),j< i->ou os i (nC v j x) a=ou os i v a
 |[],_,_,_,_,_,_=>rfl
 |o::os,i,j,v,a,x,h=>by
  simp only[ou]
  rw[CJ os (i+1) j v _ x (by omega)]
  simp[nC,show¬i=j by omega]
theorem rJ:∀(os:List Oper) (i:Nat) (a:Act),Gb os a.tmps.size=true->∃v,ou os i v a=a
 |[],_,_,_=>⟨fun _=>undef,rfl⟩
 |o::os,i,a,hd=>by
  simp only[Gb,Lm]at hd
  obtain⟨v,hv⟩:=rJ os (i+1) a hd.2
  cases hk:o.dst with
  |none=>exact⟨v,by simp only[ou,hk,Act.put];exact hv⟩
  |some k=>
   have h1:=hd.1
   rw[hk]at h1
   simp only[Lm,decide_eq_true_eq]at h1
   refine⟨nC v i (a.tmps[k]'h1.1),?_⟩
   simp only[ou,hk]
   rw[CJ os (i+1) i v _ _ (by omega)]
   have:a.put (some k) (nC v i (a.tmps[k]'h1.1) i)=a:=by
    simp[Act.put,nC,Array.setIfInBounds,h1.1]
   rw[this,hv]
theorem xP {fr:(Nat->Value)->Act} {c:Nat} {G1:Nat->World->Prop} {es:List (TEnt R)} {G:Prop}:∀(os:List Oper) (r:List (TEnt R)) (i:Nat),iQ P ops Q fr c G1 es G os r i->
  G/\∀k e o,r[k]?=some e->os[k]?=some o->∀v w (K:Act->World->Prop),G1 (i+k) w->(∀x w',R (i+k==c) w w'->dV es (nC v (i+k) x) w' (i+k)->K (fr (nC v (i+k) x)) w')->dO es v w e.d
   (if L8 o (yielded ops (fr v).tmps)=true then o.wp P (fr v) w K Q else K ((fr v).put o.dst undef) w)
 |[],[],_,h=>⟨h,fun k e o he=>by simp at he⟩
 |_::_,[],_,h=>⟨h,fun k e o he=>by simp at he⟩
 |[],_::_,_,h=>h.elim
 |o::os,e::r,i,h=>by
  obtain⟨h1,h2⟩:=xP os r (i+1) h.2
  refine⟨h1,fun k e' o' he ho=>?_⟩
  cases k with
  |zero=>
   simp only[Lb,Option.some.injEq]at he ho
   subst he;subst ho;exact h.1
  |succ k=>
   simp only[La]at he ho
   have:=h2 k e' o' he ho
   rw[show i+1+k=i+(k+1)by omega]at this
   exact this
theorem lL {es:List (TEnt R)} {v:Nat->Value} {w:World} {G:Prop}:∀(js:List Nat),dO es v w js G->(∀j∈js,dV es v w j)->G
 |[],h,_=>h
 |j::js,h,hf=>lL js (h (hf j LY)) (fun k hk=>hf k (K4 _ hk))
def JN (ops:Array Oper) (L:Nat->Bool):Prop:=∀i o,ops[i]?=some o->L i=true->∀e∈o.after,Nh .any e=true->L e.on=true
theorem jP {L:Nat->Bool} (h:JN ops L):∀(f i j:Nat),tK ops f i j=true->L i=true->L j=true
 |0,_,_,ha,_=>by simp[tK]at ha
 |f+1,i,j,ha,hi=>by
  simp only[tK]at ha
  split at ha
  ·rename_i o ho
   rw[Array.any_eq_true]at ha
   obtain⟨k,hk,hb⟩:=ha
   simp only[Lm,Bool.or_eq_true,beq_iff_eq]at hb
   have hon:=h i o ho hi _ (Array.getElem_mem hk) hb.1
   rcases hb.2 with he|he
   ·rw[<-he];exact hon
   ·exact jP h f _ j he hon
  ·simp at ha
theorem qf {id:Nat} {a0:Act} {w0:World} (c:Nat) (G0:Bool->World->Prop) (G1:Nat->World->Prop) (hg0:G0 false w0.drew) (hgs:∀i b w w',(i=c->b=false)->G0 b w->R (i==c) w w'->G0 (b||i==c) w') (hg1:∀i b w,(i=c->b=false)->G0 b w->G1 i w) (hm:P.follows .mixedOrders=true) (m:Nat) (es:List (TEnt R)) (ed:List Nat) (hes:es.length=m) (hed:ed.all (fun j=>decide (j< m))=true)
  (hc:Hu ops es m c=true)
  (H:∃fr:(Nat->Value)->Act,(∃v,fr v=a0)/\
   iQ P ops Q fr c G1 es (∀v w,G0 (decide (c< m)) w->dO es v w ed (oZ P ops Q (MK m (ops.size-m)) (fr v) w)) ops.toList es 0):
  (Code.region id ops true).wp P Q a0 w0:=by
 obtain⟨fr,hfr,H⟩:=H
 obtain⟨HG,HO⟩:=xP _ es 0 H
 rw[MC]at hed
 have hed:∀j∈ed,j< m:=fun j hj=>by simpa using hed j hj
 simp only[Hu,Lm,MC,List.mem_range]at hc
 obtain⟨⟨⟨⟨hc0,hc1⟩,hc2⟩,hcu⟩,hc3⟩:=hc
 have hc0:m<=ops.size:=by simpa using hc0
 refine aH hm (by
  rw[MC]
  intro i hi
  have:=hc1 i (by simpa using hi)
  split at this
  ·rename_i o ho;rw[ho];simpa using this
  ·rename_i ho;rw[ho];rfl)
  (fun L a w=>JN ops L/\((∃v,a=fr v/\G0 (decide (c< m)&&L c) w/\(∀j,j< m->L j=true->dV es v w j)/\∀j,m<=j->j< ops.size->L j=false)∨
   ∃k,m<=k/\k< ops.size/\(∀j,j<=k->L j=true)/\(∀j,k< j->j< ops.size->L j=false)/\oZ P ops Q (MK (k+1) (ops.size-(k+1))) a w)) ?_ ?_ ?_
 ·obtain⟨v,hv⟩:=hfr
  refine⟨fun _ _ _ h=>absurd h KP,.inl ⟨v,hv.symm,by simpa using hg0,fun _ _ h=>absurd h KP,fun _ _ _=>rfl⟩⟩
 ·rintro L a w i o ho hLi hdep ⟨hcl,hI⟩
  have hisz:i< ops.size:=(Array.getElem?_eq_some_iff.1 ho).1
  have hcl':JN ops (fun j=>if j=i then true else L j):=by
   intro k o' ho' hk e he hb
   by_cases hki:k=i
   ·subst hki
    rw[ho]at ho'
    obtain rfl:=KQ ho'
    have:=hdep e he hb
    simp[this]
   ·have:=hcl k o' ho' (by simpa[hki]using hk) e he hb
    simp[this]
  rcases hI with⟨v,rfl,hb,hf,ht⟩|⟨k,hk1,hk2,hkl,hkr,ht⟩
  ·by_cases him:i< m
   ·obtain⟨e,he⟩:∃e,es[i]?=some e:=⟨es[i],K7 (by omega)⟩
    have hci:=hc2 i him
    rw[he]at hci
    simp only[MC,Lm,decide_eq_true_eq]at hci
    have hancL:∀j,tK ops ops.size i j=true->L j=true:=by
     intro j hj
     have hf1:=jP hcl' ops.size i j hj (by simp)
     by_cases hji:j=i
     ·subst hji
      exfalso
      have hlt:∀f a b,tK ops f a b=true->a< ops.size->b< a:=by
       intro f
       induction f with
       |zero=>intro a b h;simp[tK]at h
       |succ f ih=>
        intro a b h ha
        simp only[tK]at h
        split at h
        ·rename_i oa hoa
         rw[Array.any_eq_true]at h
         obtain⟨x,hx,hb⟩:=h
         simp only[Lm,Bool.or_eq_true,beq_iff_eq]at hb
         have h1:=hc1 a ha
         rw[hoa]at h1
         simp only[Array.all_eq_true]at h1
         have h2:=h1 x hx
         simp only[hb.1,Bool.not_true,Bool.false_or,decide_eq_true_eq]at h2
         rcases hb.2 with h3|h3
         ·omega
         ·have:=ih _ _ h3 (by omega);omega
        ·simp at h
      have:=hlt _ _ _ hj hisz
      omega
     ·simpa[hji]using hf1
    have hbc:i=c->(decide (c< m)&&L c)=false:=fun h=>by rw[<-h,hLi,Bool.and_false]
    have hw:=fun K h=>lL e.d (HO i e o he (by simpa using ho) v w K (by simpa using hg1 i _ w hbc hb) h) (fun j hj=>hf j (hci j hj).1 (hancL j (hci j hj).2))
    simp only[Nat.zero_add]at hw
    refine KT ho (fun K' hK'=>hw K' (fun x w' hb1 hfi=>hK' _ _ ⟨hcl',.inl ?_⟩))
    refine⟨nC v i x,rfl,by
     have h:=hgs i _ _ _ hbc hb hb1
     by_cases hic:i=c
     ·subst hic;simpa[him]using h
     ·have h1:¬c=i:=fun e=>hic e.symm
      have h2:(i==c)=false:=by simpa using hic
      rw[h2,Bool.or_false]at h
      simpa[h1]using h,fun j hj hLj=>?_,fun j h1 h2=>by simp[show¬j=i by omega,ht j h1 h2]⟩
    by_cases hji:j=i
    ·subst hji;exact hfi
    ·have hLk:L j=true:=by simpa[hji]using hLj
     clear hLj
     have hfj:=hf j hj hLk
     unfold dV at hfj ⊢
     cases hej:es[j]? with
     |none=>trivial
     |some ej=>
      rw[hej]at hfj
      have hcj:=hc2 j hj
      rw[hej]at hcj
      simp only[MC,Lm,decide_eq_true_eq]at hcj
      have hsee:gT (j::ej.d) v=gT (j::ej.d) (nC v i x):=rX fun q hq=>by
       have:q≠i:=by
        rintro rfl
        rcases List.mem_cons.1 hq with h|h
        ·exact hji h.symm
        ·have:=jP hcl ops.size j q (hcj q h).2 hLk
         rw[hLi]at this;cases this
       simp[nC,this]
      show ej.p (gT (j::ej.d) (nC v i x)) w'
      rw[<-hsee]
      by_cases hic:i=c
      ·subst hic
       simp only[beq_self_eq_true]at hb1
       cases huj:ej.u with
       |true=>exact ej.s' huj _ _ _ hb1 hfj
       |false=>
        have h1:=hcu j hj
        rw[hej]at h1
        simp only[huj,Bool.false_or,Bool.or_eq_true,beq_iff_eq]at h1
        rcases h1 with h2|h2
        ·exact absurd h2.symm hji
        ·have:=jP hcl ops.size j i h2 hLk
         rw[hLi]at this;cases this
      ·rw[show(i==c)=false by simpa using hic]at hb1
       exact ej.s _ _ _ hb1 hfj
   ·have hall:∀j,j< i->L j=true:=by
     intro j hj
     have h3:=hc3 i hisz
     simp only[Bool.or_eq_true,decide_eq_true_eq,MC,List.mem_range]at h3
     rcases h3 with h3|h3
     ·exact absurd h3 him
     ·have:=jP hcl' ops.size i j (h3 j hj) (by simp)
      simpa[show¬j=i by omega]using this
    have him':i=m:=by
     rcases Nat.lt_or_ge m i with h|h
     ·have:=hall m h
      rw[ht m (KS _) (by omega)]at this;cases this
     ·omega
    have hcm:(decide (c< m)&&L c)=decide (c< m):=by
     by_cases h:c< m
     ·rw[hall c (by omega),Bool.and_true]
     ·simp[h]
    rw[hcm]at hb
    have hG:=lL ed (HG v w hb) (fun j hj=>hf j (hed j hj) (hall j (by rw[him'];exact hed j hj)))
    have hn:ops.size-m=(ops.size-(m+1))+1:=by omega
    rw[hn,List.range'_succ]at hG
    rw[him']
    refine wpOp_mono (fun a' w' h=>⟨?_,.inr ⟨m,KS _,by omega,fun j hj=>?_,fun j h1 h2=>?_,h⟩⟩) hG
    ·rw[<-him'];exact hcl'
    ·by_cases hjm:j=m
     ·simp[hjm]
     ·simp[hjm,hall j (by omega)]
    ·simp[show¬j=m by omega,ht j (by omega) h2]
  ·have hik:i=k+1:=by
    rcases Nat.lt_or_ge k i with h|h
    ·rcases Nat.lt_or_ge (k+1) i with h'|h'
     ·have h3:=hc3 i hisz
      simp only[Bool.or_eq_true,decide_eq_true_eq,MC,List.mem_range]at h3
      rcases h3 with h3|h3
      ·omega
      ·have:=jP hcl' ops.size i (k+1) (h3 _ h') (by simp)
       have h4:L (k+1)=true:=by simpa[show¬k+1=i by omega]using this
       rw[hkr (k+1) (by omega) (by omega)]at h4;cases h4
     ·omega
    ·have:=hkl i h
     rw[hLi]at this;cases this
   have hn:ops.size-(k+1)=(ops.size-(k+1+1))+1:=by omega
   rw[hn,List.range'_succ]at ht
   rw[hik]
   refine wpOp_mono (fun a' w' h=>⟨?_,.inr ⟨k+1,by omega,by omega,fun j hj=>?_,fun j h1 h2=>?_,h⟩⟩) ht
   ·rw[<-hik];exact hcl'
   ·by_cases hjm:j=k+1
    ·simp[hjm]
    ·simp[hjm,hkl j (by omega)]
   ·simp[show¬j=k+1 by omega,hkr j (by omega) h2]
 ·rintro L a w hall ⟨hcl,hI⟩
  rcases hI with⟨v,rfl,hb,hf,ht⟩|⟨k,hk1,hk2,hkl,hkr,ht⟩
  ·have hms:ops.size<=m:=by
    rcases Nat.lt_or_ge m ops.size with h|h
    ·have:=ht m (KS _) h
     rw[hall m h]at this;cases this
    ·exact h
   have hcm:(decide (c< m)&&L c)=decide (c< m):=by
    by_cases h:c< m
    ·rw[hall c (by omega),Bool.and_true]
    ·simp[h]
   rw[hcm]at hb
   have hG:=lL ed (HG v w hb) (fun j hj=>hf j (hed j hj) (hall j (Nat.lt_of_lt_of_le (hed j hj) hc0)))
   rw[show ops.size-m=0 by omega]at hG
   exact hG
  ·have hks:ops.size-(k+1)=0:=by
    rcases Nat.lt_or_ge (k+1) ops.size with h|h
    ·have:=hkr (k+1) (by omega) h
     rw[hall _ h]at this;cases this
    ·omega
   rw[hks]at ht
   exact ht
theorem aK {id:Nat} {a0:Act} {w0:World} (hm:P.follows .mixedOrders=true) (m:Nat) (es:List (TEnt RB)) (ed:List Nat) (hes:es.length=m) (hed:ed.all (fun j=>decide (j< m))=true)
  (hc:Hu ops es m m=true) (hd:Gb ops.toList a0.tmps.size=true)
  (H:∃fr:(Nat->Value)->Act,(∀v,ou ops.toList 0 v a0=fr v)/\
   iQ P ops Q fr m (fun _ w=>Below w0.heap.size w0 w) es (∀v w,Below w0.heap.size w0 w->dO es v w ed (oZ P ops Q (MK m (ops.size-m)) (fr v) w)) ops.toList es 0):
  (Code.region id ops true).wp P Q a0 w0:=
 qf m (fun _ w=>Below w0.heap.size w0 w) (fun _ w=>Below w0.heap.size w0 w) (KR _ _).drew (fun i b w w' _ h k=>by
  cases hb:(i==m)with
  |false=>rw[hb]at k;exact h.trans (Below.mono k h.size)
  |true=>rw[hb]at k;exact k.elim) (fun _ _ _ _ h=>h) hm m es ed hes hed hc (by
  obtain⟨fr,hfr,H⟩:=H
  obtain⟨v,hv⟩:=rJ ops.toList 0 a0 hd
  exact⟨fr,⟨v,by rw[<-hfr,hv]⟩,H⟩)
def RM (X:Nat->Prop):Bool->World->World->Prop
 |false,w,w'=>Below w.heap.size w w'
 |true,w,w'=>Mod X w w'
theorem xH {id:Nat} {a0:Act} {w0:World} (X:Nat->Prop) (c:Nat) (hm:P.follows .mixedOrders=true) (m:Nat) (es:List (TEnt (RM X))) (ed:List Nat) (hes:es.length=m) (hed:ed.all (fun j=>decide (j< m))=true)
  (hc:Hu ops es m c=true) (hd:Gb ops.toList a0.tmps.size=true)
  (H:∃fr:(Nat->Value)->Act,(∀v,ou ops.toList 0 v a0=fr v)/\
   iQ P ops Q fr c (fun i w=>if i=c then Below w0.heap.size w0 w else Mod X w0 w) es (∀v w,(if decide (c< m)=true then Mod X w0 w else Below w0.heap.size w0 w)->dO es v w ed (oZ P ops Q (MK m (ops.size-m)) (fr v) w)) ops.toList es 0):
  (Code.region id ops true).wp P Q a0 w0:=by
 refine qf c (fun b w=>if b=true then Mod X w0 w else Below w0.heap.size w0 w) (fun i w=>if i=c then Below w0.heap.size w0 w else Mod X w0 w) (KR _ _).drew (fun i b w w' hb h k=>?_) (fun i b w hb h=>?_) hm m es ed hes hed hc (by
  obtain⟨fr,hfr,H⟩:=H
  obtain⟨v,hv⟩:=rJ ops.toList 0 a0 hd
  exact⟨fr,⟨v,by rw[<-hfr,hv]⟩,H⟩)
 ·by_cases hi:i=c
  ·rw[hb hi]at h ⊢
   rw[show(i==c)=true by simpa using hi]at k ⊢
   exact(Mod.of_ext h).trans k
  ·rw[show(i==c)=false by simpa using hi]at k ⊢
   cases b with
   |false=>exact Below.trans h (Below.mono k (Below.size h))
   |true=>exact Mod.ext h k
 ·by_cases hi:i=c
  ·rw[hb hi]at h
   rw[if_pos hi];exact h
  ·rw[if_neg hi]
   cases b with
   |false=>exact Mod.of_ext h
   |true=>exact h
end
end
theorem uA (s:Ss) (w:World) (hs:SsAt w s) (ho:SsOk s):
  Calls prog 131 #[.agg s.row] w fun r w'=>r= .returned (.bool (bF s))/\Below w.heap.size w w':=by
 obtain⟨W0,hW0⟩:∃W0,w.alloc (.cells s.row 29)=W0:=⟨_,rfl⟩
 have hb0:Below w.heap.size w W0:=by rw[<-hW0];exact(KR _ _).alloc (KS _) _
 have b0:Blk W0 w.heap.size 29 s.row:=by rw[<-hW0];exact Blk.new _ _ _
 have hs0:=hs.below hb0
 have HW0:=KO hW0
 have HB0:=KO hb0
 have HS:=KO hs0
 have HO:=KO ho
 have hf:=fun w=>zz s.seg s.ks.length w ho.kl
 have hoc:=fun w' (hb:Below W0.heap.size W0 w')=>CW s.wA s.ws s.wc s.ks.length w' (hs0.words.below hb) ho.w64 (by have:=ho.kl;omega) (by have:=ho.wl;omega)
 obtain⟨FB,hFB⟩:∃b,eT s.seg s.ks.length=b:=⟨_,rfl⟩
 obtain⟨OE,hOE⟩:∃b,decide (fZ s.ws s.ks.length=0)=b:=⟨_,rfl⟩
 have hhead:lY s=(FB&&decide (s.vs.length=s.ks.length)&&OE&&decide (s.cs.length=s.ks.length/s.seg.toNat)):=by rw[<-hFB,<-hOE];rfl
 have hfo:FB=true->4<=s.seg/\s.seg<=64:=fun h=>by have:=sJ (hFB.trans h);exact⟨this.1,this.2.1⟩
 rw[hFB]at hf
 rw[hOE]at hoc
 have hOEq:=KO hOE
 have HF:=KO hf
 have HOC:=KO hoc
 have HHD:=KO hhead
 have c0:W0.cell? ⟨w.heap.size,0,none⟩=some (.int .i64 s.seg):=b0.cell 0
 have c1:W0.cell? ⟨w.heap.size,1,none⟩=some (.slice s.wA s.ws.length s.wc):=b0.cell 1
 have c2:W0.cell? ⟨w.heap.size,2,none⟩=some (.slice s.kA s.ks.length s.kc):=b0.cell 2
 have c3:W0.cell? ⟨w.heap.size,3,none⟩=some (.slice s.vA s.vs.length s.vc):=b0.cell 3
 have c4:W0.cell? ⟨w.heap.size,4,none⟩=some (.slice s.cA s.cs.length s.cc):=b0.cell 4
 obtain⟨R,hR⟩:∃R:Bool,bF s=R:=⟨_,rfl⟩
 have hno:lY s=false->R=false:=fun h=>by rw[<-hR];unfold bF;rw[h];simp
 have hyes:lY s=true->((Lt s.ks.length).all (fJ s)&&(Lt s.cs.length).all (countB s))=R:=fun h=>by rw[<-hR];unfold bF;rw[h];simp
 rw[hR]
 have HNO:=KO hno
 have HYES:=KO hyes
 clear hW0 hb0 hs0 hf hoc hhead hFB hOE ho hs hR hno hyes
 go_enter func131,ntmps131
 go_upto_region 2 with fail
 rw[HW0.out]
 have hw0:wrap64 (8:Int)=8:=Ml _ (by omega)
 cases FB with
 |false=>
  obtain rfl:R=false:=HNO.out (by rw[HHD.out];simp)
  go_big_quiet (first|(go_at_call 152;exact LJ (HF.out _))|(go_at_call 153;exact LJ (HOC.out _ (by first|exact KR _ _|exact ay (KR _ _) _))))
  go_wp2_with fail
  go_ret
  exact⟨rfl,aa HB0.out (ay (KR _ _) _)⟩
 |true=>
  obtain⟨h4,h64⟩:=hfo rfl
  have g0:¬s.seg=0:=by omega
  have g1:(0:Int)< s.seg:=by omega
  obtain⟨D,hD⟩:∃D,s.ks.length/s.seg.toNat=D:=⟨_,rfl⟩
  have hDi:(s.ks.length:Int)/s.seg=(D:Int):=by rw[<-hD,M3,Int.toNat_of_nonneg (by omega)]
  have hD75:D<=75:=by rw[<-hD];exact KY (Nat.div_le_div_left (by omega:4<=s.seg.toNat) (by omega)) (by have:=HO.out.kl;omega)
  have hwk:wrap64 (D:Int)=(D:Int):=Ml _ (by omega)
  rw[hD]at HHD
  have hDd:=hD
  clear hfo hD
  by_cases hv:s.vs.length=s.ks.length
  case neg=>
   obtain rfl:R=false:=HNO.out (by rw[HHD.out];simp[hv])
   have hvi:((s.vs.length:Int)!=(s.ks.length:Int))=true:=by simp;omega
   clear hv
   go_big_quiet (first|(go_at_call 152;exact LJ (HF.out _))|(go_at_call 153;exact LJ (HOC.out _ (by first|exact KR _ _|exact ay (KR _ _) _))))
   go_wp2_with fail
   go_ret
   exact⟨rfl,aa HB0.out (ay (KR _ _) _)⟩
  case pos=>
  have hvi:(s.vs.length:Int)=(s.ks.length:Int):=by omega
  have HV:=KO hv
  clear hv
  cases OE with
  |false=>
   obtain rfl:R=false:=HNO.out (by rw[HHD.out];simp)
   go_big_quiet (first|(go_at_call 152;exact LJ (HF.out _))|(go_at_call 153;exact LJ (HOC.out _ (by first|exact KR _ _|exact ay (KR _ _) _))))
   go_wp2_with fail
   go_ret
   exact⟨rfl,aa HB0.out (ay (KR _ _) _)⟩
  |true=>
  have hOE0:=of_decide_eq_true hOEq.out
  by_cases hc:s.cs.length=D
  case neg=>
   obtain rfl:R=false:=HNO.out (by rw[HHD.out];simp[hc])
   have hci:((s.cs.length:Int)!=(D:Int))=true:=by simp;omega
   clear hc
   go_big_quiet (first|(go_at_call 152;exact LJ (HF.out _))|(go_at_call 153;exact LJ (HOC.out _ (by first|exact KR _ _|exact ay (KR _ _) _))))
   go_wp2_with fail
   go_ret
   exact⟨rfl,aa HB0.out (ay (KR _ _) _)⟩
  case pos=>
  have hci:(s.cs.length:Int)=(D:Int):=by omega
  have HC:=KO hc
  clear hc
  have hh:lY s=true:=by rw[HHD.out];simp[HV.out,HC.out]
  have HYE:=KO (HYES.out hh)
  clear hh HYES HNO
  go_big_quiet (first|(go_at_call 152;exact LJ (HF.out _))|(go_at_call 153;exact LJ (HOC.out _ (by first|exact KR _ _|exact ay (KR _ _) _))))
  go_wp2_with fail
  obtain⟨G,hG⟩:∃G:Nat,s.seg.toNat=G:=⟨_,rfl⟩
  have hsg:s.seg=(G:Int):=by omega
  have HSG:=KO hsg
  have HGG:=KO hG
  have HDG:=KO (show G*D<=s.ks.length by rw[<-hG,<-hDd];exact Nat.mul_div_le _ _)
  have HLW:=KO (show s.ws.length=(s.ks.length+63)/64 by
   have h:=hOE0
   unfold fZ at h
   by_cases h2:s.ws.length=(s.ks.length+63)/64/\(s.ks.length %64=0∨s.ws.getD (s.ws.length-1) 0/2 ^ (s.ks.length %64)=0)
   ·exact h2.1
   ·rw[if_neg h2]at h;cases h)
  have HVC:=KO hvi
  have HG4:=KO (show 4<=G/\G<=64 by omega)
  clear hsg hG h4 h64 g0 g1 hvi hDi hwk hDd hOE0 hci hD75
  go_loopw [4] (fun i wr=>∃k:Nat,k<=s.ks.length/\i= .int .i64 k/\wr=W0.drewN nq/\Hid (∀j,j< k->fJ s j=true)) (fun i _=>s.ks.length-(intOf i).toNat)
  case atStart=>exact⟨0,K8 _,rfl,rfl,fun j hj=>absurd hj (Nat.not_lt_zero j)⟩
  case round=>
   obtain⟨k,hk,rfl,hww,hn⟩:=hrel
   subst hww
   by_cases hlt:k< s.ks.length
   ·have hlt2:k< s.vs.length:=by have:=HV.out;omega
    have hlt3:k< 64*s.ws.length:=by have:=HLW.out;omega
    obtain⟨b2,o2,e2,hbl2,d2⟩:=HS.out.keys.one k hlt
    obtain⟨b3,o3,e3,hbl3,d3⟩:=HS.out.vals.one k hlt2
    obtain⟨y,hy⟩:∃x,s.ks[k]'hlt=x:=⟨_,rfl⟩
    obtain⟨z,hz⟩:∃x,s.vs[k]'hlt2=x:=⟨_,rfl⟩
    have hyb:s.ks.getD k 0=y:=by rw[Lf,K7 hlt,<-hy];rfl
    have hzb:s.vs.getD k 0=z:=by rw[Lf,K7 hlt2,<-hz];rfl
    have his:=qW s.wA s.ws s.wc k (W0.drewN nq) (HS.out.words.below (ay (KR _ _) _)) (KY HO.out.wl (by decide)) hlt3
    have hbr:fJ s k=(decide (fF s.ws k=1)||(decide (y=0)&&decide (z=0))):=by unfold fJ;rw[hyb,hzb]
    obtain⟨B,hB⟩:∃B,decide (fF s.ws k=1)=B:=⟨_,rfl⟩
    rw[hB]at his hbr
    have HIS:=KO his
    have HBR:=KO hbr
    rw[hy]at d2
    rw[hz]at d3
    rw[e2]at c2
    rw[e3]at c3
    clear e2 e3
    have f2:W0.cell? ⟨b2,o2+k,none⟩=some (.int .i64 y):=d2
    have f3:W0.cell? ⟨b3,o3+k,none⟩=some (.int .i64 z):=d3
    have i4:(0:Int)<=(k:Int):=by omega
    have i5:(k:Int)< (s.ks.length:Int):=by omega
    have i6:(k:Int)< (s.vs.length:Int):=by omega
    have HLT:=KO hlt
    have HW9:=KO (aU k (KY hk (KY HO.out.kl (by decide))))
    clear hy hz hyb hzb d2 d3 hlt2 hlt3 hlt his hbr hB
    cases B with
    |true=>
     have HT:=KO (show fJ s k=true by rw[HBR.out];simp)
     go_wp2_with fail
     refine HIS.out.mono ?_
     rintro e w1 ⟨rfl,rfl⟩
     go_wp2_with fail
     go_roundw
     case rel=>exact⟨k+1,HLT.out,by rw[HW9.out],trivial,fun j hj=>by
      rcases Nat.lt_succ_iff_lt_or_eq.1 hj with h|h
      ·exact hn.out j h
      ·rw[h];exact HT.out⟩
     case measure=>exact bT _ k HLT.out HW9.out
    |false=>
     by_cases hy0:y=0
     ·subst hy0
      by_cases hz0:z=0
      ·subst hz0
       have HT:=KO (show fJ s k=true by rw[HBR.out];simp)
       go_wp2_with fail
       refine HIS.out.mono ?_
       rintro e w1 ⟨rfl,rfl⟩
       go_wp2_with fail
       go_roundw
       case rel=>exact⟨k+1,HLT.out,by rw[HW9.out],trivial,fun j hj=>by
        rcases Nat.lt_succ_iff_lt_or_eq.1 hj with h|h
        ·exact hn.out j h
        ·rw[h];exact HT.out⟩
       case measure=>exact bT _ k HLT.out HW9.out
      ·have hzi:(z !=0)=true:=by simpa using hz0
       obtain rfl:R=false:=by rw[<-HYE.out,jy HLT.out (show fJ s k=false by rw[HBR.out];simp[hz0])];simp
       go_wp2_with fail
       refine HIS.out.mono ?_
       rintro e w1 ⟨rfl,rfl⟩
       go_wp2_with fail
       go_ret
       exact⟨rfl,aa HB0.out (ay (KR _ _) _)⟩
     ·have hyi:(y !=0)=true:=by simpa using hy0
      obtain rfl:R=false:=by rw[<-HYE.out,jy HLT.out (show fJ s k=false by rw[HBR.out];simp[hy0])];simp
      go_wp2_with fail
      refine HIS.out.mono ?_
      rintro e w1 ⟨rfl,rfl⟩
      go_wp2_with fail
      go_ret
      exact⟨rfl,aa HB0.out (ay (KR _ _) _)⟩
   ·have i1:¬(k:Int)< (s.ks.length:Int):=by omega
    have HALL:=KO (iW (p:=fJ s) (n:=s.ks.length) fun i hi=>hn.out i (by omega))
    clear hlt hk hn
    go_upto_region 10 with fail
    have HB0b:=KO b0
    have HW:=KO (ay (KR W0.heap.size W0) nq)
    clear b0 c0 c1 c2 c3 c4 i1
    obtain⟨WL,hWL⟩:∃W,W0.drewN nq=W:=⟨_,rfl⟩
    have HWB:=HW.out
    rw[hWL]at HWB ⊢
    have HWBH:=KO HWB
    clear hWL HWB HW
    go_loopw [5] (fun i wr=>∃kk:Nat,kk<=s.cs.length/\i= .int .i64 kk/\Below W0.heap.size W0 wr/\Hid (∀j,j< kk->countB s j=true)) (fun i _=>s.cs.length-(intOf i).toNat)
    case atStart=>exact⟨0,K8 _,rfl,HWBH.out,fun j hj=>absurd hj (Nat.not_lt_zero j)⟩
    case round=>
     obtain⟨kk,hk,rfl,hb,hn⟩:=hrel
     have HBW:=KO hb
     have hbb:=HB0b.out.below hb HB0b.out.lt
     have c0:wr.cell? ⟨w.heap.size,0,none⟩=some (.int .i64 (G:Int)):=by rw[<-HSG.out];exact hbb.cell 0
     have c1:wr.cell? ⟨w.heap.size,1,none⟩=some (.slice s.wA s.ws.length s.wc):=hbb.cell 1
     have c4:wr.cell? ⟨w.heap.size,4,none⟩=some (.slice s.cA s.cs.length s.cc):=hbb.cell 4
     have lg:=hbb.lt
     clear hbb
     by_cases hlt:kk< s.cs.length
     ·obtain⟨b1,o1,e1,hbl1,d1⟩:=HS.out.cnts.oneB hb kk hlt
      rw[e1]at c4
      have lb1:b1< wr.heap.size:=Nat.lt_of_lt_of_le hbl1 hb.size
      obtain⟨y,hy⟩:∃x,s.cs[kk]'hlt=x:=⟨_,rfl⟩
      have hyb:s.cs.getD kk 0=y:=by rw[Lf,K7 hlt,<-hy];rfl
      rw[hy]at d1
      have f1:wr.cell? ⟨b1,o1+kk,none⟩=some (.int .i64 y):=d1
      have hse:=BZ kk D G s.ks.length (by rw[<-HC.out];exact hlt) HDG.out
      have hsl:=CP kk G
      have HBR:=KO (show countB s kk=decide (y=(bf s.ws (kk*G) G:Nat))by unfold countB;rw[hyb,HGG.out])
      obtain⟨F,hF⟩:∃F,kk*G=F:=⟨_,rfl⟩
      obtain⟨T,hT⟩:∃T,(kk+1)*G=T:=⟨_,rfl⟩
      rw[hT]at hse
      have hFT:F+G=T:=by rw[<-hF,<-hT,ML,Mo]
      have hFl:F<=T:=by omega
      have mm:=jF kk G F hF (KY hFl (KY hse (KY HO.out.kl (by decide))))
      have mn:=tF kk G T hT (KY hse (KY HO.out.kl (by decide)))
      have MM:=KO mm
      have MN:=KO mn
      clear mm mn
      rw[hF]at HBR
      have hpl:=dU s.ws G F
      have hco:=fun W (h:Sl W s.wA (s.ws.map uw))=>nH s.wA s.ws s.wc F G W h (KY HO.out.wl (by decide)) (by have:=HLW.out;omega)
      rw[hpl,hFT]at hco
      obtain⟨C,hC⟩:∃C,bf s.ws F G=C:=⟨_,rfl⟩
      rw[hC]at hco HBR
      have HCO:=KO (fun W (h:SB wr W)=>hco W (HS.out.words.below (hb.trans (h.bel.mono hb.size))))
      have hw9:=aU kk (by have:=HO.out.cl;omega)
      have HW9:=KO hw9
      clear hw9
      have HLT:=KO hlt
      have j0:(0:Int)<=(kk:Int):=by omega
      have j1:(kk:Int)< (s.cs.length:Int):=by omega
      clear hy hyb hF hT hC hco hpl hse hsl hFT hFl d1 hb hlt e1
      have m1:∀[Inhabited Nat],IntKind.i64.wrap ((kk:Int)*(G:Int))=(F:Int):=MM.out.1
      have m2:∀[Inhabited Nat],wrap64 ((kk:Int)*(G:Int))=(F:Int):=MM.out.2
      have m3:∀[Inhabited Nat],IntKind.i64.wrap (((kk:Int)+1)*(G:Int))=(T:Int):=MN.out.1
      have m4:∀[Inhabited Nat],wrap64 (((kk:Int)+1)*(G:Int))=(T:Int):=MN.out.2
      have m5:∀[Inhabited Nat],wrap64 ((kk:Int)+1)=(kk:Int)+1:=HW9.out
      go_upto_region 12 with fail
      go_cut [89]from 71 to 89 (fun v wx=>v= .bool ((y !=(C:Int)))/\Below wr.heap.size wr wx)
      case first=>
       refine aK (by kernel_rfl) 19 [.v [] fun v=>v 0= .pointer (some ⟨w.heap.size,4,none⟩),.v [0] fun v=>v 1= .slice (some ⟨b1,o1,none⟩) s.cs.length s.cc,.v [] fun v=>v 2= .int .i64 (kk:Int),.v [1,2] fun v=>v 3= .pointer (some ⟨b1,o1+kk,none⟩),.v [3] fun v=>v 4= .int .i64 y,.v [] fun v=>v 5= .pointer (some ⟨w.heap.size,1,none⟩),.v [5] fun v=>v 6= .slice s.wA s.ws.length s.wc,.v [] fun v=>v 7= .int .i64 (kk:Int),.v [] fun v=>v 8= .pointer (some ⟨w.heap.size,0,none⟩),.v [8] fun v=>v 9= .int .i64 (G:Int),.v [7,9] fun v=>v 10= .int .i64 (F:Int),.v [] fun v=>v 11= .int .i64 (kk:Int),.v [11] fun v=>v 12= .int .i64 ((kk:Int)+1),.v [] fun v=>v 13= .pointer (some ⟨w.heap.size,0,none⟩),.v [13] fun v=>v 14= .int .i64 (G:Int),.v [12,14] fun v=>v 15= .int .i64 (T:Int),.v [6,10,15] fun v=>∃A c,v 16= .slice A C c,.v [16] fun v=>v 17= .int .i64 (C:Int),.v [4,17] fun v=>v 18= .bool (y !=(C:Int))] [18] rfl rfl (by kernel_rfl) (by kernel_rfl) ⟨_,fun v=>by simp only[ou,Act.put,List.setIfInBounds_toArray,List.set_cons_zero,List.set_cons_succ];rfl,?_⟩
       simp only[iQ,oZ,dO,dV,gT,nC,L8,Lt,List.range.loop,MK,Lb,La,TEnt.v,TEnt.w,RB,Nat.reduceEqDiff,Nat.reduceAdd,Nat.reduceSub,if_true,if_false,↓reduceIte,List.size_toArray,List.length_cons,List.length_nil]
       refine⟨?_,?_,?_,?_,?_,?_,?_,?_,?_,?_,?_,?_,?_,?_,?_,?_,?_,?_,?_,fun v W hb=>?_⟩
       all_goals try intro v W K hb hK
       all_goals have hc:=(aO hb).1
       all_goals try (intros;go_wp2_with fail;exact hK _ _ (KR _ _) rfl)
       ·intro h11
        go_wp2_with fail
        exact hK _ _ (KR _ _) (by rw[m5])
       ·intro h6 h10 h15
        rw[h6,h10,h15]at hK ⊢
        go_wp2_with (go_at_call 118;refine(HCO.out _ (SB.of hb)).mono ?_;rintro e1 W1 ⟨A2,c2,rfl,ho2,hb1⟩)
        exact hK _ _ hb1 ⟨_,_,rfl⟩
       ·intro h16
        obtain⟨A,c,h⟩:=h16
        rw[h]at hK ⊢
        go_wp2_with fail
        exact hK _ _ (KR _ _) rfl
       intro h18
       rw[h18]
       go_wp2_with fail
       go_meet
       exact⟨rfl,hb⟩
      case rest=>
      obtain⟨rfl,hb1⟩:=hcut
      have HB1:=KO hb1
      clear m1 m2 m3 m4 m5 hb1 c0 c1 c4 f1 j0
      by_cases hCy:y=(C:Int)
      ·have hne:(y !=(C:Int))=false:=by simpa using hCy
       have HT:=KO (show countB s kk=true by rw[HBR.out];exact decide_eq_true hCy)
       clear hCy
       go_wp2_with fail
       go_roundw
       case rel=>exact⟨kk+1,HLT.out,by rw[HW9.out],aa HBW.out HB1.out,fun j hj=>by
        rcases Nat.lt_succ_iff_lt_or_eq.1 hj with h|h
        ·exact hn.out j h
        ·rw[h];exact HT.out⟩
       case measure=>exact bT _ kk HLT.out HW9.out
      ·have hne:(y !=(C:Int))=true:=by simpa using hCy
       obtain rfl:R=false:=by rw[<-HYE.out,jy (p:=countB s) HLT.out (by rw[HBR.out];exact decide_eq_false hCy)];simp
       clear hCy
       go_wp2_with fail
       go_ret
       exact⟨rfl,aa HB0.out (aa HBW.out HB1.out)⟩
     ·have j1:¬(kk:Int)< (s.cs.length:Int):=by omega
      have hall2:=iW (p:=countB s) (n:=s.cs.length) fun i hi=>hn.out i (by omega)
      obtain rfl:R=true:=by rw[<-HYE.out,HALL.out,hall2];rfl
      clear hall2
      go_wp2_with fail
      go_ret
      exact⟨rfl,aa HB0.out HBW.out⟩
theorem nk (ws:List Nat):ws.map uw=(ws.map (fun n:Nat=>(n:Int))).map uv:=by rw[Nj];rfl
theorem Cm (l m:List Nat):decide (l.map (fun n:Nat=>(n:Int))=m.map (fun n:Nat=>(n:Int)))=decide (l=m):=by
 rw[decide_eq_decide]
 refine⟨fun h=>?_,fun h=>by rw[h]⟩
 have h2:=congrArg (List.map Int.toNat) h
 rw[Nj,Nj]at h2
 have h3:(Int.toNat ∘ fun n:Nat=>(n:Int))=id:=by funext n;simp
 rw[h3,List.map_id,List.map_id]at h2
 exact h2
theorem Ho (A B:Option Addr) (l m:List Nat) (c d:Nat) (w:World) (hA:Sl w A (l.map uw)) (hB:Sl w B (m.map uw)) (hl:l.length<=300) (hm:m.length<=300):
  Calls prog 146 #[.slice A l.length c,.slice B m.length d] w fun r w'=>r= .returned (.bool (decide (l=m)))/\Dr w w':=by
 have h:=He A B (l.map (fun n:Nat=>(n:Int))) (m.map (fun n:Nat=>(n:Int))) c d w (by rw[<-nk];exact hA) (by rw[<-nk];exact hB) (by simp;omega) (by simp;omega)
 rw[List.length_map,List.length_map,Cm]at h
 exact h
theorem vK (A B:Option Addr) (l m:List Nat) (c d:Nat) (w:World) (hA:Sl w A (l.map uw)) (hB:Sl w B (m.map uw)) (hl:l.length<=300) (hm:m.length<=300):
  Calls prog 74 #[.slice A l.length c,.slice B m.length d] w fun r w'=>r= .returned (.bool (decide (l=m)))/\Dr w w':=by
 have h:=vM A B (l.map (fun n:Nat=>(n:Int))) (m.map (fun n:Nat=>(n:Int))) c d w (by rw[<-nk];exact hA) (by rw[<-nk];exact hB) (by simp;omega) (by simp;omega)
 rw[List.length_map,List.length_map,Cm]at h
 exact h
theorem yB (A B:Option Addr) (l m:List Nat) (c d:Nat) (w:World) (hA:Sl w A (l.map uw)) (hB:Sl w B (m.map uw)) (hl:l.length<=300) (hm:m.length<=300):
  Calls prog 121 #[.slice A l.length c,.slice B m.length d] w fun r w'=>r= .returned (.bool (decide (l=m)))/\Dr w w':=by
 have h:=Ho A B l m c d w hA hB hl hm
 obtain⟨E,hE⟩:∃E,decide (l=m)=E:=⟨_,rfl⟩
 rw[hE]at h ⊢
 have H:=KO h
 clear h hE hA hB hl hm
 go_enter func121,ntmps121
 go_wp2_with fail
 refine H.out.mono ?_
 rintro e w1 ⟨rfl,hd⟩
 go_wp2_with fail
 go_ret
 exact⟨rfl,hd⟩
def iR (s t:Ss):Bool:=decide (s.seg=t.seg)&&decide (s.laid=t.laid)&&decide (s.ws=t.ws)&&decide (s.ks=t.ks)&&decide (s.vs=t.vs)&&decide (s.cs=t.cs)
def Kr (f:FuncId):Prop:=f=106∨f=59
theorem Fw {f:FuncId} (hf:Kr f) (s t:Ss) (w:World) (hs:SsAt w s) (ht:SsAt w t) (ho:SsOk s) (hp:SsOk t):
  Calls prog f #[.agg s.row,.agg t.row] w fun r w'=>r= .returned (.bool (iR s t))/\Below w.heap.size w w':=by
 obtain⟨U,hU,hb0,b1,b2⟩:=yN w 29 s.row 29 t.row
 have K0:=KO (fun W (h:Below U.heap.size U W)=>yB s.wA t.wA s.ws t.ws s.wc t.wc W ((hs.below hb0).below h).words ((ht.below hb0).below h).words ho.wl hp.wl)
 have J0:=KO (fun W (h:Below U.heap.size U W)=>vK s.wA t.wA s.ws t.ws s.wc t.wc W ((hs.below hb0).below h).words ((ht.below hb0).below h).words ho.wl hp.wl)
 have K1:=KO (fun W (h:Below U.heap.size U W)=>vG s.kA t.kA s.ks t.ks s.kc t.kc W ((hs.below hb0).below h).keys ((ht.below hb0).below h).keys (by have:=ho.kl;omega) (by have:=hp.kl;omega))
 have J1:=KO (fun W (h:Below U.heap.size U W)=>jY s.kA t.kA s.ks t.ks s.kc t.kc W ((hs.below hb0).below h).keys ((ht.below hb0).below h).keys (by have:=ho.kl;omega) (by have:=hp.kl;omega))
 have K2:=KO (fun W (h:Below U.heap.size U W)=>vG s.vA t.vA s.vs t.vs s.vc t.vc W ((hs.below hb0).below h).vals ((ht.below hb0).below h).vals (by have:=ho.vl;omega) (by have:=hp.vl;omega))
 have J2:=KO (fun W (h:Below U.heap.size U W)=>jY s.vA t.vA s.vs t.vs s.vc t.vc W ((hs.below hb0).below h).vals ((ht.below hb0).below h).vals (by have:=ho.vl;omega) (by have:=hp.vl;omega))
 have K3:=KO (fun W (h:Below U.heap.size U W)=>CQ s.cA t.cA s.cs t.cs s.cc t.cc W ((hs.below hb0).below h).cnts ((ht.below hb0).below h).cnts (by have:=ho.cl;omega) (by have:=hp.cl;omega))
 have J3:=KO (fun W (h:Below U.heap.size U W)=>nQ s.cA t.cA s.cs t.cs s.cc t.cc W ((hs.below hb0).below h).cnts ((ht.below hb0).below h).cnts (by have:=ho.cl;omega) (by have:=hp.cl;omega))
 have q1:=b1.all
 have q2:=b2.all
 obtain⟨R,hR⟩:∃R,iR s t=R:=⟨_,rfl⟩
 rw[hR]
 unfold iR at hR
 obtain⟨E0,hE⟩:∃b,decide (s.ws=t.ws)=b:=⟨_,rfl⟩
 rw[hE]at K0 J0 hR
 clear hE
 obtain⟨E1,hE⟩:∃b,decide (s.ks=t.ks)=b:=⟨_,rfl⟩
 rw[hE]at K1 J1 hR
 clear hE
 obtain⟨E2,hE⟩:∃b,decide (s.vs=t.vs)=b:=⟨_,rfl⟩
 rw[hE]at K2 J2 hR
 clear hE
 obtain⟨E3,hE⟩:∃b,decide (s.cs=t.cs)=b:=⟨_,rfl⟩
 rw[hE]at K3 J3 hR
 clear hE
 have HR:=KO hR
 have hh:=KR U.heap.size U
 have HU:=KO hU
 have HB0:=KO hb0
 clear hU hR hs ht ho hp b1 b2 hb0
 rcases hf with rfl|rfl
 ·go_enter func106,ntmps106
  exact jd
 ·go_enter func59,ntmps59
  exact jd
def gq (s:Ss):Bool:=decide (300< s.ks.length)||decide (300< s.vs.length)||decide (300< s.ws.length)||decide (300< s.cs.length)
theorem yg (s:Ss) (w:World):Calls prog 47 #[.agg s.row,.int .i64 300] w fun r w'=>r= .returned (.bool (gq s))/\Below w.heap.size w w':=by
 obtain⟨U,hU,hb0,b1⟩:=gL w 29 s.row
 have q1:=b1.all
 obtain⟨R,hR⟩:∃R,gq s=R:=⟨_,rfl⟩
 rw[hR]
 unfold gq at hR
 have HR:=KO hR
 have hh:=KR U.heap.size U
 have HU:=KO hU
 have HB0:=KO hb0
 clear hU hR b1 hb0
 go_enter func47,ntmps47
 exact jd
section
def Held (X:Nat->Prop) (P:World->Prop) (w:World):Prop:=∀w',Mod X w w'->P w'
section
variable {X Y:Nat->Prop} {P:World->Prop} {w w':World}
theorem Held.now (h:Held X P w):P w:=h w (Mod.refl _ _)
theorem Held.step (h:Held X P w) (hm:Mod X w w'):Held X P w':=fun w2 h2=>h w2 (hm.trans h2)
theorem Held.ext (h:Held X P w) (hb:Below w.heap.size w w'):Held X P w':=h.step (Mod.of_ext hb)
theorem Held.join (h:Held X P w) (hm:Mod X w w') (hy:∀k,k< w.heap.size->Y k->X k):Held Y P w':=fun w2 h2=>h w2 (by
 refine⟨h2.os.trans hm.os,h2.tape.trans hm.tape,h2.output.trans hm.output,KY hm.size h2.size,fun k hk hn=>?_⟩
 rw[h2.block k (Nat.lt_of_lt_of_le hk hm.size) (fun hz=>hn (hy k hk hz)),hm.block k hk hn])
theorem Held.mono (h:Held X P w) {Q:World->Prop} (hq:∀w',P w'->Q w'):Held X Q w:=fun w2 h2=>hq _ (h w2 h2)
theorem aT {Q:World->Prop} (h:Held X P w) (hq:∀w',P w'->Q w'):Held X Q w:=h.mono hq
theorem kX {g:Nat} {t:TypeId} {cs:Array Value} (h:Blk w g t cs) (hg:¬X g):Held X (fun W=>Blk W g t cs) w:=fun _ hm=>h.mod hm hg
theorem eY {B s n:Nat} {e:TypeId} {v:Value} {xs:List Value} (h:w.ownsRow B e s v n xs) (hx:∀k,B<=k->¬X k):Held X (fun W=>W.ownsRow B e s v n xs) w:=fun _ hm=>di h hm hx
theorem dw {g i:Nat} {u:Value} (hg:X g):Mod X w (w.setCell ⟨g,i,none⟩ u):=(Mod.refl _ _).setCell hg u
end
end
structure SsLike (s t:Ss):Prop where
 seg:t.seg=s.seg
 ws:t.ws=s.ws
 ks:t.ks=s.ks
 vs:t.vs=s.vs
 cs:t.cs=s.cs
 laid:t.laid=s.laid
 cap:t.cs.length<=t.cc
theorem wz {w:World} {B:Nat} {e:TypeId} {s:Nat} {A:Option Addr} {n c:Nat} {xs:List Value} (h:w.ownsRow B e s (.slice A n c) n xs):n<=c:=by
 obtain⟨A2,c2,h1,h2,-⟩:=ak h
 cases h1
 exact h2
def CF (s:Ss) (w:World) (r:Ending) (w':World):Prop:=∃s2:Ss,r= .returned (.agg s2.row)/\SsLike s s2/\Held (fun k=>k< w.heap.size) (fun W=>SsAt W s2) w'/\Below w.heap.size w w'
theorem zF (A:Option Addr) (l:List Nat) (c:Nat) (w:World) (hA:Sl w A (l.map uw)) (hl:l.length<=300):
  Calls prog 126 #[.slice A l.length c] w (iX 22 (l.map uw) l.length w):=by
 have h:=AP A (l.map (fun n:Nat=>(n:Int))) c w (by rw[<-nk];exact hA) (by simp;omega)
 rw[List.length_map,<-nk]at h
 exact h
theorem Km {w:World} {g:Nat} {S:Nat->Prop} (h:S g) (a b c d e f:Value):Mod S w ((((((w.setCell ⟨g,0,none⟩ a).setCell ⟨g,1,none⟩ b).setCell ⟨g,2,none⟩ c).setCell ⟨g,3,none⟩ d).setCell ⟨g,4,none⟩ e).setCell ⟨g,5,none⟩ f):=((((((Mod.refl S w).setCell (p:=⟨g,0,none⟩) h _).setCell (p:=⟨g,1,none⟩) h _).setCell (p:=⟨g,2,none⟩) h _).setCell (p:=⟨g,3,none⟩) h _).setCell (p:=⟨g,4,none⟩) h _).setCell (p:=⟨g,5,none⟩) h _
theorem Kc {B g:Nat} {a w:World} (h:Below B a w) (hg:B<=g) (x0 x1 x2 x3 x4 x5:Value):Below B a ((((((w.setCell ⟨g,0,none⟩ x0).setCell ⟨g,1,none⟩ x1).setCell ⟨g,2,none⟩ x2).setCell ⟨g,3,none⟩ x3).setCell ⟨g,4,none⟩ x4).setCell ⟨g,5,none⟩ x5):=(((((h.setCell (p:=⟨g,0,none⟩) hg _).setCell (p:=⟨g,1,none⟩) hg _).setCell (p:=⟨g,2,none⟩) hg _).setCell (p:=⟨g,3,none⟩) hg _).setCell (p:=⟨g,4,none⟩) hg _).setCell (p:=⟨g,5,none⟩) hg _
theorem dC {P:Prop} (h:P:=by
  iterate 28 apply Exists.intro
  refine⟨rfl,?_,?_,?_,?_,?_,?_,?_,?_,?_,?_,?_,?_,?_,?_,?_,?_,?_,?_,?_,?_,?_,?_,?_,?_,?_,?_,?_⟩
  ·first|exact HB.out|exact aa HB.out hb1|exact HB.out.setCell (p:=⟨w.heap.size,1,none⟩) (KS _) _|exact HB.out.setCell (p:=⟨w.heap.size,2,none⟩) (KS _) _|exact HB.out.setCell (p:=⟨w.heap.size,3,none⟩) (KS _) _|exact HB.out.setCell (p:=⟨w.heap.size,4,none⟩) (KS _) _
  ·first|exact HBK.out|exact HBK.out.below hb1 HBK.out.lt|exact(by simpa using HBK.out.set_ 1 (.slice A0 s.ws.length c0))|exact(by simpa using HBK.out.set_ 2 (.slice A1 s.ks.length c1))|exact(by simpa using HBK.out.set_ 3 (.slice A2 s.vs.length c2))|exact(by simpa using HBK.out.set_ 4 (.slice A3 s.cs.length c3))
  ·first|exact HRS.out|exact HRS.out.below hb1 HRS.out.lt|exact(HRS.out.far (p:=⟨w.heap.size,1,none⟩) (by simp;done) _)|exact(HRS.out.far (p:=⟨w.heap.size,2,none⟩) (by simp;done) _)|exact(HRS.out.far (p:=⟨w.heap.size,3,none⟩) (by simp;done) _)|exact(HRS.out.far (p:=⟨w.heap.size,4,none⟩) (by simp;done) _)
  ·first|exact F0.out|exact fun _=>rfl
  ·first|exact F1.out|exact fun _=>rfl
  ·first|exact(fun h=>⟨(F2.out (by simpa using h)).1,(F2.out (by simpa using h)).2.step (dw (X:=(fun k=>k< w.heap.size+2)) (by show w.heap.size< w.heap.size+2;omega))⟩)|exact F2.out|exact fun _=>⟨rfl,hsl⟩|exact(fun h=>⟨(F2.out (by simpa using h)).1,(F2.out (by simpa using h)).2.ext hb1⟩)|exact(fun h=>⟨rfl,zz2.out.step (dw (X:=(fun k=>k< w.heap.size+2)) (by show w.heap.size< w.heap.size+2;omega))⟩)
  ·first|exact F3.out|exact fun _=>rfl
  ·first|exact F4.out|exact fun _=>rfl
  ·first|exact(fun h=>⟨(F5.out (by simpa using h)).1,(F5.out (by simpa using h)).2.step (dw (X:=(fun k=>k< w.heap.size+2)) (by show w.heap.size< w.heap.size+2;omega))⟩)|exact F5.out|exact fun _=>⟨rfl,hsl⟩|exact(fun h=>⟨(F5.out (by simpa using h)).1,(F5.out (by simpa using h)).2.ext hb1⟩)|exact(fun h=>⟨rfl,zz5.out.step (dw (X:=(fun k=>k< w.heap.size+2)) (by show w.heap.size< w.heap.size+2;omega))⟩)
  ·first|exact F6.out|exact fun _=>rfl
  ·first|exact F7.out|exact fun _=>rfl
  ·first|exact(fun h=>⟨(F8.out (by simpa using h)).1,(F8.out (by simpa using h)).2.step (dw (X:=(fun k=>k< w.heap.size+2)) (by show w.heap.size< w.heap.size+2;omega))⟩)|exact F8.out|exact fun _=>⟨rfl,hsl⟩|exact(fun h=>⟨(F8.out (by simpa using h)).1,(F8.out (by simpa using h)).2.ext hb1⟩)|exact(fun h=>⟨rfl,zz8.out.step (dw (X:=(fun k=>k< w.heap.size+2)) (by show w.heap.size< w.heap.size+2;omega))⟩)
  ·first|exact F9.out|exact fun _=>rfl
  ·first|exact F10.out|exact fun _=>rfl
  ·first|exact(fun h=>⟨(F11.out (by simpa using h)).1,(F11.out (by simpa using h)).2.step (dw (X:=(fun k=>k< w.heap.size+2)) (by show w.heap.size< w.heap.size+2;omega))⟩)|exact F11.out|exact fun _=>⟨rfl,hsl⟩|exact(fun h=>⟨(F11.out (by simpa using h)).1,(F11.out (by simpa using h)).2.ext hb1⟩)|exact(fun h=>⟨rfl,zz11.out.step (dw (X:=(fun k=>k< w.heap.size+2)) (by show w.heap.size< w.heap.size+2;omega))⟩)
  ·first|exact F12.out|exact fun _=>rfl
  ·first|(intro h;have hh:=F13.out (by simpa using h);exact⟨hh.1,by simp[hh.2.1],by simp[hh.2.2]⟩;done)|exact(fun h=>absurd (by simpa using h) (by rw[hs0];exact KP))|exact(fun _=>⟨rfl,by simp[hl2],by simp[hlld]⟩)
  ·first|exact F14.out|exact fun _=>rfl
  ·first|(intro h;have hh:=F15.out (by simpa using h);exact⟨hh.1,by simp[hh.2.1],by simp[hh.2.2]⟩;done)|exact(fun h=>absurd (by simpa using h) (by rw[hs1];exact KP))|exact(fun _=>⟨rfl,by simp[hl5],by simp[hlld]⟩)
  ·first|exact F16.out|exact fun _=>rfl
  ·first|(intro h;have hh:=F17.out (by simpa using h);exact⟨hh.1,by simp[hh.2.1],by simp[hh.2.2]⟩;done)|exact(fun h=>absurd (by simpa using h) (by rw[hs2];exact KP))|exact(fun _=>⟨rfl,by simp[hl8],by simp[hlld]⟩)
  ·first|exact F18.out|exact fun _=>rfl
  ·first|(intro h;have hh:=F19.out (by simpa using h);exact⟨hh.1,by simp[hh.2.1],by simp[hh.2.2]⟩;done)|exact(fun h=>absurd (by simpa using h) (by rw[hs3];exact KP))|exact(fun _=>⟨rfl,by simp[hl11],by simp[hlld]⟩)
  ·first|exact O0.out|exact fun _=>rfl|(intro h;refine absurd h ?_;simp;done;done)
  ·first|exact O1.out|exact fun _=>rfl|(intro h;refine absurd h ?_;simp;done;done)
  ·first|exact O2.out|exact fun _=>rfl|(intro h;refine absurd h ?_;simp;done;done)
  ·first|exact O3.out|exact fun _=>rfl|(intro h;refine absurd h ?_;simp;done;done)):P:=h
theorem um (s:Ss) (w:World) (hs:SsAt w s) (ho:SsOk s):Calls prog 109 #[.agg s.row] w (CF s w):=by
 have HS:=KO hs
 have HO:=KO ho
 clear hs ho
 obtain⟨W0,hW0⟩:∃W0,(w.alloc (.cells s.row 29)).alloc (.cells #[.int .i64 0,.slice none 0 0,.slice none 0 0,.slice none 0 0,.slice none 0 0,.int .u64 0] 29)=W0:=⟨_,rfl⟩
 have hb0:Below w.heap.size w W0:=by rw[<-hW0];exact((KR _ _).alloc (KS _) _).alloc (by simp) _
 have b0:Blk W0 w.heap.size 29 #[.int .i64 s.seg,.slice s.wA s.ws.length s.wc,.slice s.kA s.ks.length s.kc,.slice s.vA s.vs.length s.vc,.slice s.cA s.cs.length s.cc,.int .u64 s.laid]:=by rw[<-hW0];exact(Blk.new _ _ _).alloc _
 have br0:Blk W0 (w.heap.size+1) 29 #[.int .i64 0,.slice none 0 0,.slice none 0 0,.slice none 0 0,.slice none 0 0,.int .u64 0]:=by
  rw[<-hW0]
  have:=Blk.new (w.alloc (.cells s.row 29)) 29 #[.int .i64 0,.slice none 0 0,.slice none 0 0,.slice none 0 0,.slice none 0 0,.int .u64 0]
  rwa [World.size_alloc]at this
 have HW0:=KO hW0
 have HB0:=KO hb0
 have HC0:=KO b0
 have HR0:=KO br0
 clear hW0 hb0 b0 br0
 go_enter func109,ntmps109
 go_upto_region 1 with fail
 rw[HW0.out]
 refine aH (by kernel_rfl) (by kernel_rfl) (fun L a W=>∃(t3 t4 t5 t6 t7 t8 t9 t10 t11 t12 t13 t14 t15 t16 t17 t18:Value) (A0 A1 A2 A3:Option Addr) (c0 c1 c2 c3:Nat) (x0 x1 x2 x3:Value),a=⟨#[(.agg s.row),(.pointer (some ⟨w.heap.size,0,none⟩)),(.pointer (some ⟨w.heap.size+1,0,none⟩)),t3,t4,t5,t6,t7,t8,t9,t10,t11,t12,t13,t14,t15,t16,t17,t18,undef],[]⟩/\Below w.heap.size w W/\Blk W w.heap.size 29 #[.int .i64 s.seg,x0,x1,x2,x3,.int .u64 s.laid]/\Blk W (w.heap.size+1) 29 #[.int .i64 0,.slice none 0 0,.slice none 0 0,.slice none 0 0,.slice none 0 0,.int .u64 0]/\(L 0=true->t3= .pointer (some ⟨w.heap.size,1,none⟩))/\(L 1=true->t4= .slice s.wA s.ws.length s.wc)/\(L 2=true->t5= .slice A0 s.ws.length c0/\Held (fun k=>k< w.heap.size+2) (fun W=>Sl W A0 (s.ws.map uw)) W)/\(L 3=true->t6= .pointer (some ⟨w.heap.size,2,none⟩))/\(L 4=true->t7= .slice s.kA s.ks.length s.kc)/\(L 5=true->t8= .slice A1 s.ks.length c1/\Held (fun k=>k< w.heap.size+2) (fun W=>Sl W A1 (s.ks.map iv)) W)/\(L 6=true->t9= .pointer (some ⟨w.heap.size,3,none⟩))/\(L 7=true->t10= .slice s.vA s.vs.length s.vc)/\(L 8=true->t11= .slice A2 s.vs.length c2/\Held (fun k=>k< w.heap.size+2) (fun W=>Sl W A2 (s.vs.map iv)) W)/\(L 9=true->t12= .pointer (some ⟨w.heap.size,4,none⟩))/\(L 10=true->t13= .slice s.cA s.cs.length s.cc)/\(L 11=true->t14= .slice A3 s.cs.length c3/\Held (fun k=>k< w.heap.size+2) (fun W=>Sl W A3 (s.cs.map iv)/\s.cs.length<=c3) W)/\(L 12=true->t15= .pointer (some ⟨w.heap.size,1,none⟩))/\(L 13=true->x0= .slice A0 s.ws.length c0/\L 2=true/\L 1=true)/\(L 14=true->t16= .pointer (some ⟨w.heap.size,2,none⟩))/\(L 15=true->x1= .slice A1 s.ks.length c1/\L 5=true/\L 4=true)/\(L 16=true->t17= .pointer (some ⟨w.heap.size,3,none⟩))/\(L 17=true->x2= .slice A2 s.vs.length c2/\L 8=true/\L 7=true)/\(L 18=true->t18= .pointer (some ⟨w.heap.size,4,none⟩))/\(L 19=true->x3= .slice A3 s.cs.length c3/\L 11=true/\L 10=true)/\(L 13=false->x0= .slice s.wA s.ws.length s.wc)/\(L 15=false->x1= .slice s.kA s.ks.length s.kc)/\(L 17=false->x2= .slice s.vA s.vs.length s.vc)/\(L 19=false->x3= .slice s.cA s.cs.length s.cc)) ?h0 ?hstep ?hend
 case h0=>exact⟨undef,undef,undef,undef,undef,undef,undef,undef,undef,undef,undef,undef,undef,undef,undef,undef,none,none,none,none,0,0,0,0,.slice s.wA s.ws.length s.wc,.slice s.kA s.ks.length s.kc,.slice s.vA s.vs.length s.vc,.slice s.cA s.cs.length s.cc,rfl,HB0.out.drew,HC0.out,HR0.out,fun h=>absurd h KP,fun h=>absurd h KP,fun h=>absurd h KP,fun h=>absurd h KP,fun h=>absurd h KP,fun h=>absurd h KP,fun h=>absurd h KP,fun h=>absurd h KP,fun h=>absurd h KP,fun h=>absurd h KP,fun h=>absurd h KP,fun h=>absurd h KP,fun h=>absurd h KP,fun h=>absurd h KP,fun h=>absurd h KP,fun h=>absurd h KP,fun h=>absurd h KP,fun h=>absurd h KP,fun h=>absurd h KP,fun h=>absurd h KP,fun _=>rfl,fun _=>rfl,fun _=>rfl,fun _=>rfl⟩
 case hend=>
  rintro L a W hall ⟨t3,t4,t5,t6,t7,t8,t9,t10,t11,t12,t13,t14,t15,t16,t17,t18,A0,A1,A2,A3,c0,c1,c2,c3,x0,x1,x2,x3,rfl,hb,hbk,hrs,f0,f1,f2,f3,f4,f5,f6,f7,f8,f9,f10,f11,f12,f13,f14,f15,f16,f17,f18,f19,o0,o1,o2,o3⟩
  have z0:=f0 (hall 0 (by decide))
  have z1:=f1 (hall 1 (by decide))
  have z2:=f2 (hall 2 (by decide))
  have z3:=f3 (hall 3 (by decide))
  have z4:=f4 (hall 4 (by decide))
  have z5:=f5 (hall 5 (by decide))
  have z6:=f6 (hall 6 (by decide))
  have z7:=f7 (hall 7 (by decide))
  have z8:=f8 (hall 8 (by decide))
  have z9:=f9 (hall 9 (by decide))
  have z10:=f10 (hall 10 (by decide))
  have z11:=f11 (hall 11 (by decide))
  have z12:=f12 (hall 12 (by decide))
  have z13:=f13 (hall 13 (by decide))
  have z14:=f14 (hall 14 (by decide))
  have z15:=f15 (hall 15 (by decide))
  have z16:=f16 (hall 16 (by decide))
  have z17:=f17 (hall 17 (by decide))
  have z18:=f18 (hall 18 (by decide))
  have z19:=f19 (hall 19 (by decide))
  clear hall f0 f1 f2 f3 f4 f5 f6 f7 f8 f9 f10 f11 f12 f13 f14 f15 f16 f17 f18 f19 o0 o1 o2 o3
  obtain rfl:=z13.1
  obtain rfl:=z15.1
  obtain rfl:=z17.1
  obtain rfl:=z19.1
  have HE0:=KO z2.2
  have HE1:=KO z5.2
  have HE2:=KO z8.2
  have HE3:=KO z11.2
  have HBB:=KO hb
  clear z0 z1 z2 z3 z4 z5 z6 z7 z8 z9 z10 z11 z12 z13 z14 z15 z16 z17 z18 z19 hb
  have q0:W.cell? ⟨w.heap.size,0,none⟩=some (.int .i64 s.seg):=hbk.cell 0
  have q1:W.cell? ⟨w.heap.size,1,none⟩=some (.slice A0 s.ws.length c0):=hbk.cell 1
  have q2:W.cell? ⟨w.heap.size,2,none⟩=some (.slice A1 s.ks.length c1):=hbk.cell 2
  have q3:W.cell? ⟨w.heap.size,3,none⟩=some (.slice A2 s.vs.length c2):=hbk.cell 3
  have q4:W.cell? ⟨w.heap.size,4,none⟩=some (.slice A3 s.cs.length c3):=hbk.cell 4
  have q5:W.cell? ⟨w.heap.size,5,none⟩=some (.int .u64 s.laid):=hbk.cell 5
  have p0:W.cell? ⟨w.heap.size+1,0,none⟩=some (.int .i64 0):=hrs.cell 0
  have r0:=hrs.frozen 0
  have p1:W.cell? ⟨w.heap.size+1,1,none⟩=some (.slice none 0 0):=hrs.cell 1
  have r1:=hrs.frozen 1
  have p2:W.cell? ⟨w.heap.size+1,2,none⟩=some (.slice none 0 0):=hrs.cell 2
  have r2:=hrs.frozen 2
  have p3:W.cell? ⟨w.heap.size+1,3,none⟩=some (.slice none 0 0):=hrs.cell 3
  have r3:=hrs.frozen 3
  have p4:W.cell? ⟨w.heap.size+1,4,none⟩=some (.slice none 0 0):=hrs.cell 4
  have r4:=hrs.frozen 4
  have p5:W.cell? ⟨w.heap.size+1,5,none⟩=some (.int .u64 0):=hrs.cell 5
  have r5:=hrs.frozen 5
  have lg:=hrs.lt
  have lg0:=hbk.lt
  clear hbk hrs
  go_wp2_with fail
  refine bodyPost_ret (v:= .agg #[.int .i64 s.seg,.slice A0 s.ws.length c0,.slice A1 s.ks.length c1,.slice A2 s.vs.length c2,.slice A3 s.cs.length c3,.int .u64 s.laid]) (by simp[results,results109,go_sem,p0,p1,p2,p3,p4,p5,q0,q1,q2,q3,q4,q5]) rfl ?_
  refine⟨⟨s.seg,s.ws,s.ks,s.vs,s.cs,s.laid,A0,A1,A2,A3,c0,c1,c2,c3⟩,rfl,⟨rfl,rfl,rfl,rfl,rfl,rfl,HE3.out.now.2⟩,?_,Kc HBB.out (Nat.le_succ _) _ _ _ _ _ _⟩
  exact Held.join (X:=(fun k=>k< w.heap.size+2)) (fun W2 h2=>⟨HE0.out W2 h2,HE1.out W2 h2,HE2.out W2 h2,(HE3.out W2 h2).1⟩) (Km (g:=w.heap.size+1) (S:=(fun k=>k< w.heap.size+2)) (by show w.heap.size+1< w.heap.size+2;omega) _ _ _ _ _ _) (fun k hk hx=>by show k< w.heap.size+2;have:k< w.heap.size:=hx;omega)
 case hstep=>
  rintro L a W i o ho hLi hdep ⟨t3,t4,t5,t6,t7,t8,t9,t10,t11,t12,t13,t14,t15,t16,t17,t18,A0,A1,A2,A3,c0,c1,c2,c3,x0,x1,x2,x3,rfl,hb,hbk,hrs,f0,f1,f2,f3,f4,f5,f6,f7,f8,f9,f10,f11,f12,f13,f14,f15,f16,f17,f18,f19,o0,o1,o2,o3⟩
  have F0:=KO f0
  have F1:=KO f1
  have F2:=KO f2
  have F3:=KO f3
  have F4:=KO f4
  have F5:=KO f5
  have F6:=KO f6
  have F7:=KO f7
  have F8:=KO f8
  have F9:=KO f9
  have F10:=KO f10
  have F11:=KO f11
  have F12:=KO f12
  have F13:=KO f13
  have F14:=KO f14
  have F15:=KO f15
  have F16:=KO f16
  have F17:=KO f17
  have F18:=KO f18
  have F19:=KO f19
  have O0:=KO o0
  have O1:=KO o1
  have O2:=KO o2
  have O3:=KO o3
  clear f0 f1 f2 f3 f4 f5 f6 f7 f8 f9 f10 f11 f12 f13 f14 f15 f16 f17 f18 f19 o0 o1 o2 o3
  have HLi:=KO hLi
  clear hLi
  have HB:=KO hb
  have HBK:=KO hbk
  have HRS:=KO hrs
  clear hb hbk hrs
  match i,ho with
  |0,ho=>
   obtain rfl:=KQ ho
   clear hdep
   refine KT rfl (fun K1 hK1=>?_)
   have hK:=KO hK1
   clear hK1
   go_wp2_with fail
   refine hK.out _ _ ?_;exact dC
  |1,ho=>
   obtain rfl:=KQ ho
   have hl0:=hdep ⟨0,.data⟩ (by simp) rfl
   have z0:=F0.out hl0
   obtain rfl:=z0
   have hs0:L 13=false:=by
    cases h:L 13 with
    |false=>rfl
    |true=>exact absurd ((F13.out h).2.2) (by rw[HLi.out];exact KP)
   clear hdep
   obtain rfl:=O0.out hs0
   have q0:W.cell? ⟨w.heap.size,1,none⟩=some (.slice s.wA s.ws.length s.wc):=HBK.out.cell 1
   refine KT rfl (fun K1 hK1=>?_)
   have hK:=KO hK1
   clear hK1
   go_wp2_with fail
   refine hK.out _ _ ?_;exact dC
  |2,ho=>
   obtain rfl:=KQ ho
   have hl1:=hdep ⟨1,.data⟩ (by simp) rfl
   have z1:=F1.out hl1
   obtain rfl:=z1
   have hs0:L 13=false:=by
    cases h:L 13 with
    |false=>rfl
    |true=>exact absurd ((F13.out h).2.1) (by rw[HLi.out];exact KP)
   clear hdep
   refine KT rfl (fun K1 hK1=>?_)
   have hK:=KO hK1
   clear hK1
   go_wp2_with (go_at_call 126;refine(zF s.wA s.ws s.wc W (HS.out.words.below HB.out) HO.out.wl).mono ?_;rintro e1 W1 ⟨A',c',rfl,ho',hb1⟩)
   have hsl:=aT (eY (X:=(fun k=>k< w.heap.size+2)) ho' (fun k hk hx=>by have:=HBK.out.lt;have:=HRS.out.lt;omega)) (fun W2 h2=>aA h2)
   refine hK.out _ _ ?_;exact dC
  |3,ho=>
   obtain rfl:=KQ ho
   clear hdep
   refine KT rfl (fun K1 hK1=>?_)
   have hK:=KO hK1
   clear hK1
   go_wp2_with fail
   refine hK.out _ _ ?_;exact dC
  |4,ho=>
   obtain rfl:=KQ ho
   have hl3:=hdep ⟨3,.data⟩ (by simp) rfl
   have z3:=F3.out hl3
   obtain rfl:=z3
   have hs1:L 15=false:=by
    cases h:L 15 with
    |false=>rfl
    |true=>exact absurd ((F15.out h).2.2) (by rw[HLi.out];exact KP)
   clear hdep
   obtain rfl:=O1.out hs1
   have q0:W.cell? ⟨w.heap.size,2,none⟩=some (.slice s.kA s.ks.length s.kc):=HBK.out.cell 2
   refine KT rfl (fun K1 hK1=>?_)
   have hK:=KO hK1
   clear hK1
   go_wp2_with fail
   refine hK.out _ _ ?_;exact dC
  |5,ho=>
   obtain rfl:=KQ ho
   have hl4:=hdep ⟨4,.data⟩ (by simp) rfl
   have z4:=F4.out hl4
   obtain rfl:=z4
   have hs1:L 15=false:=by
    cases h:L 15 with
    |false=>rfl
    |true=>exact absurd ((F15.out h).2.1) (by rw[HLi.out];exact KP)
   clear hdep
   refine KT rfl (fun K1 hK1=>?_)
   have hK:=KO hK1
   clear hK1
   go_wp2_with (go_at_call 127;refine(mX s.kA s.ks s.kc W (HS.out.keys.below HB.out) (KY HO.out.kl (by decide))).mono ?_;rintro e1 W1 ⟨A',c',rfl,ho',hb1⟩)
   have hsl:=aT (eY (X:=(fun k=>k< w.heap.size+2)) ho' (fun k hk hx=>by have:=HBK.out.lt;have:=HRS.out.lt;omega)) (fun W2 h2=>aA h2)
   refine hK.out _ _ ?_;exact dC
  |6,ho=>
   obtain rfl:=KQ ho
   clear hdep
   refine KT rfl (fun K1 hK1=>?_)
   have hK:=KO hK1
   clear hK1
   go_wp2_with fail
   refine hK.out _ _ ?_;exact dC
  |7,ho=>
   obtain rfl:=KQ ho
   have hl6:=hdep ⟨6,.data⟩ (by simp) rfl
   have z6:=F6.out hl6
   obtain rfl:=z6
   have hs2:L 17=false:=by
    cases h:L 17 with
    |false=>rfl
    |true=>exact absurd ((F17.out h).2.2) (by rw[HLi.out];exact KP)
   clear hdep
   obtain rfl:=O2.out hs2
   have q0:W.cell? ⟨w.heap.size,3,none⟩=some (.slice s.vA s.vs.length s.vc):=HBK.out.cell 3
   refine KT rfl (fun K1 hK1=>?_)
   have hK:=KO hK1
   clear hK1
   go_wp2_with fail
   refine hK.out _ _ ?_;exact dC
  |8,ho=>
   obtain rfl:=KQ ho
   have hl7:=hdep ⟨7,.data⟩ (by simp) rfl
   have z7:=F7.out hl7
   obtain rfl:=z7
   have hs2:L 17=false:=by
    cases h:L 17 with
    |false=>rfl
    |true=>exact absurd ((F17.out h).2.1) (by rw[HLi.out];exact KP)
   clear hdep
   refine KT rfl (fun K1 hK1=>?_)
   have hK:=KO hK1
   clear hK1
   go_wp2_with (go_at_call 127;refine(mX s.vA s.vs s.vc W (HS.out.vals.below HB.out) (KY HO.out.vl (by decide))).mono ?_;rintro e1 W1 ⟨A',c',rfl,ho',hb1⟩)
   have hsl:=aT (eY (X:=(fun k=>k< w.heap.size+2)) ho' (fun k hk hx=>by have:=HBK.out.lt;have:=HRS.out.lt;omega)) (fun W2 h2=>aA h2)
   refine hK.out _ _ ?_;exact dC
  |9,ho=>
   obtain rfl:=KQ ho
   clear hdep
   refine KT rfl (fun K1 hK1=>?_)
   have hK:=KO hK1
   clear hK1
   go_wp2_with fail
   refine hK.out _ _ ?_;exact dC
  |10,ho=>
   obtain rfl:=KQ ho
   have hl9:=hdep ⟨9,.data⟩ (by simp) rfl
   have z9:=F9.out hl9
   obtain rfl:=z9
   have hs3:L 19=false:=by
    cases h:L 19 with
    |false=>rfl
    |true=>exact absurd ((F19.out h).2.2) (by rw[HLi.out];exact KP)
   clear hdep
   obtain rfl:=O3.out hs3
   have q0:W.cell? ⟨w.heap.size,4,none⟩=some (.slice s.cA s.cs.length s.cc):=HBK.out.cell 4
   refine KT rfl (fun K1 hK1=>?_)
   have hK:=KO hK1
   clear hK1
   go_wp2_with fail
   refine hK.out _ _ ?_;exact dC
  |11,ho=>
   obtain rfl:=KQ ho
   have hl10:=hdep ⟨10,.data⟩ (by simp) rfl
   have z10:=F10.out hl10
   obtain rfl:=z10
   have hs3:L 19=false:=by
    cases h:L 19 with
    |false=>rfl
    |true=>exact absurd ((F19.out h).2.1) (by rw[HLi.out];exact KP)
   clear hdep
   refine KT rfl (fun K1 hK1=>?_)
   have hK:=KO hK1
   clear hK1
   go_wp2_with (go_at_call 128;refine(sU s.cA s.cs s.cc W (HS.out.cnts.below HB.out) (KY HO.out.cl (by decide))).mono ?_;rintro e1 W1 ⟨A',c',rfl,ho',hb1⟩)
   have hsl:=aT (eY (X:=(fun k=>k< w.heap.size+2)) ho' (fun k hk hx=>by have:=HBK.out.lt;have:=HRS.out.lt;omega)) (fun W2 h2=>And.intro (aA h2) (wz h2))
   refine hK.out _ _ ?_;exact dC
  |12,ho=>
   obtain rfl:=KQ ho
   clear hdep
   refine KT rfl (fun K1 hK1=>?_)
   have hK:=KO hK1
   clear hK1
   go_wp2_with fail
   refine hK.out _ _ ?_;exact dC
  |13,ho=>
   obtain rfl:=KQ ho
   have hl12:=hdep ⟨12,.data⟩ (by simp) rfl
   have z12:=F12.out hl12
   obtain rfl:=z12
   have hl2:=hdep ⟨2,.data⟩ (by simp) rfl
   have z2:=F2.out hl2
   have zz2:=KO z2.2
   obtain rfl:=z2.1
   clear z2
   have hlld:=hdep ⟨1,.phase⟩ (by simp) rfl
   clear hdep
   have q0:W.cell? ⟨w.heap.size,1,none⟩=some x0:=HBK.out.cell 1
   have r0:=HBK.out.frozen 1
   have lg:=HBK.out.lt
   refine KT rfl (fun K1 hK1=>?_)
   have hK:=KO hK1
   clear hK1
   go_wp2_with fail
   refine hK.out _ _ ?_;exact dC
  |14,ho=>
   obtain rfl:=KQ ho
   clear hdep
   refine KT rfl (fun K1 hK1=>?_)
   have hK:=KO hK1
   clear hK1
   go_wp2_with fail
   refine hK.out _ _ ?_;exact dC
  |15,ho=>
   obtain rfl:=KQ ho
   have hl14:=hdep ⟨14,.data⟩ (by simp) rfl
   have z14:=F14.out hl14
   obtain rfl:=z14
   have hl5:=hdep ⟨5,.data⟩ (by simp) rfl
   have z5:=F5.out hl5
   have zz5:=KO z5.2
   obtain rfl:=z5.1
   clear z5
   have hlld:=hdep ⟨4,.phase⟩ (by simp) rfl
   clear hdep
   have q0:W.cell? ⟨w.heap.size,2,none⟩=some x1:=HBK.out.cell 2
   have r0:=HBK.out.frozen 2
   have lg:=HBK.out.lt
   refine KT rfl (fun K1 hK1=>?_)
   have hK:=KO hK1
   clear hK1
   go_wp2_with fail
   refine hK.out _ _ ?_;exact dC
  |16,ho=>
   obtain rfl:=KQ ho
   clear hdep
   refine KT rfl (fun K1 hK1=>?_)
   have hK:=KO hK1
   clear hK1
   go_wp2_with fail
   refine hK.out _ _ ?_;exact dC
  |17,ho=>
   obtain rfl:=KQ ho
   have hl16:=hdep ⟨16,.data⟩ (by simp) rfl
   have z16:=F16.out hl16
   obtain rfl:=z16
   have hl8:=hdep ⟨8,.data⟩ (by simp) rfl
   have z8:=F8.out hl8
   have zz8:=KO z8.2
   obtain rfl:=z8.1
   clear z8
   have hlld:=hdep ⟨7,.phase⟩ (by simp) rfl
   clear hdep
   have q0:W.cell? ⟨w.heap.size,3,none⟩=some x2:=HBK.out.cell 3
   have r0:=HBK.out.frozen 3
   have lg:=HBK.out.lt
   refine KT rfl (fun K1 hK1=>?_)
   have hK:=KO hK1
   clear hK1
   go_wp2_with fail
   refine hK.out _ _ ?_;exact dC
  |18,ho=>
   obtain rfl:=KQ ho
   clear hdep
   refine KT rfl (fun K1 hK1=>?_)
   have hK:=KO hK1
   clear hK1
   go_wp2_with fail
   refine hK.out _ _ ?_;exact dC
  |19,ho=>
   obtain rfl:=KQ ho
   have hl18:=hdep ⟨18,.data⟩ (by simp) rfl
   have z18:=F18.out hl18
   obtain rfl:=z18
   have hl11:=hdep ⟨11,.data⟩ (by simp) rfl
   have z11:=F11.out hl11
   have zz11:=KO z11.2
   obtain rfl:=z11.1
   clear z11
   have hlld:=hdep ⟨10,.phase⟩ (by simp) rfl
   clear hdep
   have q0:W.cell? ⟨w.heap.size,4,none⟩=some x3:=HBK.out.cell 4
   have r0:=HBK.out.frozen 4
   have lg:=HBK.out.lt
   refine KT rfl (fun K1 hK1=>?_)
   have hK:=KO hK1
   clear hK1
   go_wp2_with fail
   refine hK.out _ _ ?_;exact dC
end Go.Proofs.YtpbmbjjfdpkhbaaGreat
