/- part of the proof -/
import Derived.WalkKit
import Derived.WalkSpells
import Derived.Deep.QuietTactic
import Derived.BigQuiet
import Derived.Lib.Hide
import Derived.Laws.OwnMore
import Derived.Laws.MakeOwn
import Derived.Laws.Entries
import Derived.OwnWalk
import Derived.RangeFuncOwn
import Derived.RangeFuncLeaves
import Derived.OwnWalkIn
import Derived.TacticsInMore
import Derived.LoopIn
import Derived.LoopNIn
import Derived.Shelf.Abstract
import Derived.Shelf.RegionOpen
import Derived.ScopeJumps
import Derived.WalkMore
import Derived.Laws.ComplexArith
import Derived.Test.YtpbmbjjfdpkhbaaGreatProg
namespace Go.Proofs.YtpbmbjjfdpkhbaaGreat
open Go Go.RowKit
set_option linter.all false
set_option maxRecDepth 100000
set_option maxHeartbeats 32000000
open Go.Proofs.Tryz
open Below renaming refl->KR
open Go.Lib renaming hid->KO,run_eql_slice_nil->Nb
open Go.World renaming cell?_of_block->Mf,ownsRow_made->MS,ownsRow_nil->Li,putObj_heap_other->K9,size_alloc->KX
open Int renaming natCast_mul->MI
open List renaming eq_nil_of_length_eq_zero->LM,flatMap_cons->Nk,getElem?_append_left->Nf,getElem?_append_right->Ma,getElem?_set_ne->M6,getElem?_take->MB,getElem_mem->Lh,nil_append->LA,take_of_length_le->KZ,take_succ_eq_append_getElem->Lc
open Nat renaming div_div_eq_div_mul->Md,le_refl->KS,le_trans->KY,mul_assoc->Mc,mul_comm->LQ,mul_le_mul_right->LH,pow_add->Mt,pow_succ->MO,zero_add->Mx,zero_le->K8
section
structure Ent where
 key:Int
 val:Int
 dead:Bool
 deriving DecidableEq
structure Pr where
 key:Int
 val:Int
 deriving DecidableEq
def Ent.cells (e:Ent):List Value:=[.int .i64 e.key,.int .i64 e.val,.bool e.dead]
def Pr.cells (e:Pr):List Value:=[.int .i64 e.key,.int .i64 e.val]
def Sl (w:World) (A:Option Addr) (xs:List Value):Prop:=
 xs=[]∨∃b off,A=some ⟨b,off,none⟩/\b< w.heap.size/\∀j u,xs[j]?=some u->w.cell? ⟨b,off+j,none⟩=some u
theorem Sl.below {w w':World} {A:Option Addr} {xs:List Value} (h:Sl w A xs) (hb:Below w.heap.size w w'):Sl w' A xs:=by
 rcases h with h|⟨b,off,hA,hlt,hc⟩
 ·exact .inl h
 ·exact .inr ⟨b,off,hA,Nat.lt_of_lt_of_le hlt hb.size,fun j u hu=>(hb.cell (p:=⟨b,off+j,none⟩) hlt).trans (hc j u hu)⟩
theorem flat_get {α:Type} (enc:α->List Value) (s:Nat) (hs:∀x,(enc x).length=s) (l:List α) (i j:Nat) (hi:i< l.length) (hj:j< s):
  (l.flatMap enc)[i*s+j]?=(enc (l[i]'hi))[j]?:=by
 induction l generalizing i with
 |nil=>simp at hi
 |cons x l ih=>
  rw[Nk]
  cases i with
  |zero=>rw[Nf (by rw[hs];omega)];simp
  |succ i=>
   have:(i+1)*s+j=s+(i*s+j):=by rw[Nat.succ_mul];omega
   rw[this,Ma (by rw[hs];omega),hs]
   have:s+(i*s+j)-s=i*s+j:=by omega
   rw[this,ih i (by simpa using hi)]
   rfl
theorem aQ {α:Type} (enc:α->List Value) (s:Nat) (hs:∀x,(enc x).length=s) (l:List α):(l.flatMap enc).length=l.length*s:=by
 induction l with
 |nil=>simp
 |cons x l ih=>rw[Nk,List.length_append,hs,ih,List.length_cons,Nat.succ_mul];omega
theorem Ent.cells_length (e:Ent):e.cells.length=3:=rfl
theorem Pr.cells_length (e:Pr):e.cells.length=2:=rfl
theorem Sl.ent {w:World} {A:Option Addr} {l:List Ent} (h:Sl w A (l.flatMap Ent.cells)) (i:Nat) (hi:i< l.length):
  ∃b off,A=some ⟨b,off,none⟩/\b< w.heap.size/\w.cell? ⟨b,off+i*3,none⟩=some (.int .i64 (l[i]'hi).key)/\
   w.cell? ⟨b,off+i*3+1,none⟩=some (.int .i64 (l[i]'hi).val)/\w.cell? ⟨b,off+i*3+2,none⟩=some (.bool (l[i]'hi).dead):=by
 rcases h with h|⟨b,off,hA,hlt,hc⟩
 ·have:=aQ Ent.cells 3 Ent.cells_length l
  rw[h]at this
  simp at this
  omega
 ·refine⟨b,off,hA,hlt,?_,?_,?_⟩
  ·exact hc _ _ ((flat_get Ent.cells 3 Ent.cells_length l i 0 hi (by omega)).trans rfl)
  ·exact hc _ _ ((flat_get Ent.cells 3 Ent.cells_length l i 1 hi (by omega)).trans rfl)
  ·exact hc _ _ ((flat_get Ent.cells 3 Ent.cells_length l i 2 hi (by omega)).trans rfl)
theorem Sl.pr {w:World} {A:Option Addr} {l:List Pr} (h:Sl w A (l.flatMap Pr.cells)) (i:Nat) (hi:i< l.length):
  ∃b off,A=some ⟨b,off,none⟩/\b< w.heap.size/\w.cell? ⟨b,off+i*2,none⟩=some (.int .i64 (l[i]'hi).key)/\
   w.cell? ⟨b,off+i*2+1,none⟩=some (.int .i64 (l[i]'hi).val):=by
 rcases h with h|⟨b,off,hA,hlt,hc⟩
 ·have:=aQ Pr.cells 2 Pr.cells_length l
  rw[h]at this
  simp at this
  omega
 ·refine⟨b,off,hA,hlt,?_,?_⟩
  ·exact hc _ _ ((flat_get Pr.cells 2 Pr.cells_length l i 0 hi (by omega)).trans rfl)
  ·exact hc _ _ ((flat_get Pr.cells 2 Pr.cells_length l i 1 hi (by omega)).trans rfl)
def DL (n:Nat):Value:= .int .i64 (n:Int)
theorem Sl.one {α:Type} {w:World} {A:Option Addr} {f:α->Value} {l:List α} (h:Sl w A (l.map f)) (i:Nat) (hi:i< l.length):
  ∃b off,A=some ⟨b,off,none⟩/\b< w.heap.size/\w.cell? ⟨b,off+i,none⟩=some (f (l[i]'hi)):=by
 rcases h with h|⟨b,off,hA,hlt,hc⟩
 ·have:(l.map f).length=0:=by rw[h];rfl
  simp at this
  subst this
  simp at hi
 ·exact⟨b,off,hA,hlt,hc i _ (by rw[List.getElem?_map,List.getElem?_eq_getElem hi];rfl)⟩
theorem Sl.entB {w w':World} {A:Option Addr} {l:List Ent} (h:Sl w A (l.flatMap Ent.cells)) (hb:Below w.heap.size w w') (i:Nat) (hi:i< l.length):
  ∃b off,A=some ⟨b,off,none⟩/\b< w.heap.size/\w'.cell? ⟨b,off+i*3,none⟩=some (.int .i64 (l[i]'hi).key)/\
   w'.cell? ⟨b,off+i*3+1,none⟩=some (.int .i64 (l[i]'hi).val)/\w'.cell? ⟨b,off+i*3+2,none⟩=some (.bool (l[i]'hi).dead):=by
 obtain⟨b,off,hA,hlt,c1,c2,c3⟩:=h.ent i hi
 exact⟨b,off,hA,hlt,(hb.cell (p:=⟨b,_,none⟩) hlt).trans c1,(hb.cell (p:=⟨b,_,none⟩) hlt).trans c2,(hb.cell (p:=⟨b,_,none⟩) hlt).trans c3⟩
theorem Sl.prB {w w':World} {A:Option Addr} {l:List Pr} (h:Sl w A (l.flatMap Pr.cells)) (hb:Below w.heap.size w w') (i:Nat) (hi:i< l.length):
  ∃b off,A=some ⟨b,off,none⟩/\b< w.heap.size/\w'.cell? ⟨b,off+i*2,none⟩=some (.int .i64 (l[i]'hi).key)/\
   w'.cell? ⟨b,off+i*2+1,none⟩=some (.int .i64 (l[i]'hi).val):=by
 obtain⟨b,off,hA,hlt,c1,c2⟩:=h.pr i hi
 exact⟨b,off,hA,hlt,(hb.cell (p:=⟨b,_,none⟩) hlt).trans c1,(hb.cell (p:=⟨b,_,none⟩) hlt).trans c2⟩
theorem Sl.oneB {α:Type} {w w':World} {A:Option Addr} {f:α->Value} {l:List α} (h:Sl w A (l.map f)) (hb:Below w.heap.size w w') (i:Nat) (hi:i< l.length):
  ∃b off,A=some ⟨b,off,none⟩/\b< w.heap.size/\w'.cell? ⟨b,off+i,none⟩=some (f (l[i]'hi)):=by
 obtain⟨b,off,hA,hlt,c1⟩:=h.one i hi
 exact⟨b,off,hA,hlt,(hb.cell (p:=⟨b,_,none⟩) hlt).trans c1⟩
def Blk (w:World) (g:Nat) (t:TypeId) (cs:Array Value):Prop:=w.heap[g]?=some (.cells cs t (0,0))
section
variable {w w':World} {g:Nat} {t:TypeId} {cs:Array Value}
theorem Blk.lt (h:Blk w g t cs):g< w.heap.size:=by
 rcases Nat.lt_or_ge g w.heap.size with hlt|hge
 ·exact hlt
 ·unfold Blk at h;rw[Array.getElem?_eq_none hge]at h;cases h
theorem Blk.cell (h:Blk w g t cs) (i:Nat):w.cell? ⟨g,i,none⟩=cs[i]?:=cell_of_row w g i cs t (0,0) h
theorem Blk.frozen (h:Blk w g t cs) (i:Nat):w.frozen? ⟨g,i,none⟩=false:=by
 unfold Blk at h
 simp[World.frozen?,h]
theorem Blk.new (w:World) (t:TypeId) (cs:Array Value):Blk (w.alloc (.cells cs t)) w.heap.size t cs:=heap_alloc_new w _
theorem Blk.drewN (h:Blk w g t cs) (n:Nat):Blk (w.drewN n) g t cs:=h
theorem Blk.alloc (h:Blk w g t cs) (o:Obj):Blk (w.alloc o) g t cs:=(Below.heap_alloc w o g h.lt).trans h
theorem Blk.set_ (h:Blk w g t cs) (i:Nat) (u:Value):Blk (w.setCell ⟨g,i,none⟩ u) g t (cs.setIfInBounds i u):=by
 unfold Blk at h ⊢
 simp[World.setCell,Array.getElem?_modify,h]
theorem Blk.far (h:Blk w g t cs) {p:Addr} (hp:g≠p.block) (u:Value):Blk (w.setCell p u) g t cs:=(Below.heap_setCell w p u g hp).trans h
theorem Blk.of (h:Blk w g t cs) (he:w'.heap[g]?=w.heap[g]?):Blk w' g t cs:=he.trans h
theorem Blk.below {B:Nat} (h:Blk w g t cs) (hb:Below B w w') (hg:g< B):Blk w' g t cs:=(hb.block g hg).trans h
theorem Blk.sl (h:Blk w g t cs) (o:Nat) (xs:List Value) (hx:∀j u,xs[j]?=some u->cs[o+j]?=some u):Sl w (some ⟨g,o,none⟩) xs:=
 .inr ⟨g,o,rfl,h.lt,fun j u hu=>(h.cell _).trans (hx j u hu)⟩
end
section
variable {w:World} {B B' s n c:Nat} {e:TypeId} {A:Option Addr} {v:Value} {xs:List Value}
theorem ak (h:w.ownsRow B e s v n xs):∃A c,v= .slice A n c/\n<=c/\c<=maxLen:=by
 rcases h.2 with⟨rfl,rfl⟩|⟨g,cap,cur,rfl,_,_,hn,hm,_⟩
 ·exact⟨none,0,rfl,KS _,K8 _⟩
 ·exact⟨_,cap,rfl,hn,hm⟩
theorem aA (h:w.ownsRow B e s (.slice A n c) n xs):Sl w A xs:=by
 rcases h.2 with⟨hv,hn⟩|⟨g,cap,cur,hv,_,hg,_,_,_,ht⟩
 ·left;have:=h.1;rw[hn]at this;exact LM (by simpa using this)
 ·obtain⟨rfl,rfl⟩:A=some ⟨g,0,none⟩/\c=cap:=by simpa using hv
  refine .inr ⟨g,0,rfl,(Array.getElem?_eq_some_iff.1 hg).1,fun j u hu=>?_⟩
  rw[Mx,cell_of_row w g j cur e (0,0) hg]
  rw[<-ht,MB]at hu
  split at hu
  ·simpa using hu
  ·cases hu
theorem kU (h:w.ownsRow B e s (.slice A n c) n xs):∀a,A=some a->B<=a.block:=by
 intro a ha
 exact(h.lt a.block (by simp[Value.ownBlock,ha])).1
theorem av (h:w.ownsRow B e s v n xs) (hB:B'<=B):w.ownsRow B' e s v n xs:=by
 refine⟨h.1,?_⟩
 rcases h.2 with h2|⟨g,cap,cur,hv,hg,r⟩
 ·exact .inl h2
 ·exact .inr ⟨g,cap,cur,hv,by omega,r⟩
theorem own_below {w':World} (h:w.ownsRow B e s v n xs) (hb:Below w.heap.size w w'):w'.ownsRow B e s v n xs:=by
 refine⟨h.1,?_⟩
 rcases h.2 with h2|⟨g,cap,cur,hv,hg,hh,r⟩
 ·exact .inl h2
 ·exact .inr ⟨g,cap,cur,hv,hg,(hb.block g (Array.getElem?_eq_some_iff.1 hh).1).trans hh,r⟩
theorem fe {p:Addr} (h:w.ownsRow B e s v n xs) (hp:v.ownBlock≠some p.block) (u:Value):(w.setCell p u).ownsRow B e s v n xs:=by
 refine⟨h.1,?_⟩
 rcases h.2 with h2|⟨g,cap,cur,rfl,hg,hh,r⟩
 ·exact .inl h2
 ·exact .inr ⟨g,cap,cur,rfl,hg,(Below.heap_setCell w p u g (fun e=>hp (by simp[Value.ownBlock,e]))).trans hh,r⟩
theorem IK (h:w.ownsRow B e s v n xs) (hn:0< n):∃g cap cur,v= .slice (some ⟨g,0,none⟩) n cap/\B<=g/\Blk w g e cur/\n<=cap/\cap<=maxLen/\cur.size=cap*s/\cur.toList.take (n*s)=xs:=by
 rcases h.2 with⟨_,rfl⟩|h2
 ·omega
 ·exact h2
end
section
variable {P:Program} (w:World)
theorem nY (base:Nat) (t ty e:TypeId) (i:TypeInfo) (size:Nat) (ht:P.underlying t=some (.slice e)) (hi:P.info? e=some i)
  (v:Value) (n:Nat) (xs:List Value) (hown:w.ownsRow base e size v n xs) (A:Option Addr) (c:Nat):(Builtin.append_ #[t,t] ty #[v,.slice A 0 c]).run P w= .ok v w:=by
 cases A with
 |none=>
  rcases hown.2 with⟨rfl,rfl⟩|⟨g,cap,cur,rfl,_,_,hnc,_⟩
  ·simp[Builtin.append_,run_underlying ht,sizeOf,typeInfo,hi,Builtin.lenOf,Builtin.firstCells]
  ·simp[Builtin.append_,run_underlying ht,sizeOf,typeInfo,hi,Builtin.lenOf,Builtin.firstCells,hnc,storeCells]
 |some a=>
  rcases hown.2 with⟨rfl,rfl⟩|⟨g,cap,cur,rfl,_,_,hnc,_⟩
  ·simp[Builtin.append_,run_underlying ht,sizeOf,typeInfo,hi,Builtin.lenOf,Builtin.firstCells,loadCells,loadCellsFrom]
  ·simp[Builtin.append_,run_underlying ht,sizeOf,typeInfo,hi,Builtin.lenOf,Builtin.firstCells,hnc,storeCells,loadCells,loadCellsFrom]
theorem ji (base:Nat) (t ty e:TypeId) (i:TypeInfo) (z:Value) (size bytes:Nat) (ht:P.underlying t=some (.slice e)) (hi:P.info? e=some i) (hz:i.zero=some z)
  (hsize:i.size=size) (hby:i.bytes=bytes) (hzs:z.cells.size=size) (hsz:0< size)
  (v:Value) (n:Nat) (xs:List Value) (hown:w.ownsRow base e size v n xs)
  (A:Option Addr) (m c:Nat) (news:List Value) (hr:Sl w A news) (hl:news.length=m*size) (h1:∀u∈news,u.oneCell'=true)
  (h63:n+m<=maxLen) (hbytes:(n+m)*bytes<=140737488355328) (hbase:base<=w.heap.size):
  ∃v' w',(Builtin.append_ #[t,t] ty #[v,.slice A m c]).run P w= .ok v' w'/\w'.ownsRow base e size v' (n+m) (xs++news)/\w.grownBy w' v.ownBlock:=by
 by_cases hm:m=0
 ·subst hm
  have hn:news=[]:=LM (by simpa using hl)
  subst hn
  exact⟨v,w,nY w base t ty e i size ht hi v n xs hown A c,by simpa using hown,World.grownBy.refl w _⟩
 ·rcases hr with hr|⟨b,off,rfl,hlt,hc⟩
  ·subst hr
   rw[List.length_nil]at hl
   have:=Nat.mul_pos (Nat.pos_of_ne_zero hm) hsz
   omega
  ·obtain⟨v',w',hrun,h2,h3,_⟩:=run_append_own (P:=P) w base t ty e i z size bytes ht hi hz hsize hby hzs hsz v n xs hown ⟨b,off,none⟩ m c news hl
    (fun j u hu=>by rw[Addr.add_lit];exact hc j u hu) h1 h63 hbytes hbase
   exact⟨v',w',hrun,h2,h3⟩
theorem ag {ops:Array Oper} {rest:List Oper} {o:Oper} {a:Act} {Q:Exit->Act->World->Prop} (hgd:o.guard=none) (s x:Operand) (t:TypeId)
  (ho:o.op= .call {callee:= .builtin .append,args:=#[s,x],argTypes:=#[t,t]})
  (base:Nat) (e:TypeId) (i:TypeInfo) (z:Value) (size bytes:Nat) (ht:P.underlying t=some (.slice e)) (hi:P.info? e=some i) (hz:i.zero=some z)
  (hsize:i.size=size) (hby:i.bytes=bytes) (hzs:z.cells.size=size) (hsz:0< size)
  (v:Value) (n:Nat) (xs:List Value) (hs:a.eval s=v) (hown:w.ownsRow base e size v n xs)
  (A:Option Addr) (m c:Nat) (news:List Value) (hx:a.eval x= .slice A m c) (hr:Sl w A news) (hl:news.length=m*size) (h1:∀u∈news,u.oneCell'=true)
  (h63:n+m<=maxLen) (hbytes:(n+m)*bytes<=140737488355328) (hbase:base<=w.heap.size)
  (h:∀v' w',w'.ownsRow base e size v' (n+m) (xs++news)->w.grownBy w' v.ownBlock->wpList P ops Q rest (a.put o.dst v') w'):wpList P ops Q (o::rest) a w:=by
 refine wpList_plain hgd fun K hK=>?_
 obtain⟨v',w',hrun,h2,h3⟩:=ji (P:=P) w base t o.type e i z size bytes ht hi hz hsize hby hzs hsz v n xs hown A m c news hr hl h1 h63 hbytes hbase
 unfold Oper.wp execOp
 simp only[ho,resolve,invoke,builtin,Sem.run_bind,Sem.run_pure,Result.andThen_ok,List.map_toArray,List.map_cons,List.map_nil,hs,hx,hrun]
 exact hK _ _ (h v' w' h2 h3)
end
theorem dS {P:Program} (w:World) {ops:Array Oper} {o:Oper} {a:Act} {K:Act->World->Prop} {Q:Exit->Act->World->Prop} {E:Prop} (hgd:o.guard=none) (s x:Operand) (t:TypeId)
  (ho:o.op= .call {callee:= .builtin .append,args:=#[s,x],argTypes:=#[t,t]})
  (base:Nat) (e:TypeId) (i:TypeInfo) (z:Value) (size bytes:Nat) (ht:P.underlying t=some (.slice e)) (hi:P.info? e=some i) (hz:i.zero=some z)
  (hsize:i.size=size) (hby:i.bytes=bytes) (hzs:z.cells.size=size) (hsz:0< size)
  (v:Value) (n:Nat) (xs:List Value) (hs:a.eval s=v) (hown:w.ownsRow base e size v n xs)
  (A:Option Addr) (m c:Nat) (news:List Value) (hx:a.eval x= .slice A m c) (hr:Sl w A news) (hl:news.length=m*size) (h1:∀u∈news,u.oneCell'=true)
  (h63:n+m<=maxLen) (hbytes:(n+m)*bytes<=140737488355328) (hbase:base<=w.heap.size)
  (h:∀v' w',w'.ownsRow base e size v' (n+m) (xs++news)->w.grownBy w' v.ownBlock->K (a.put o.dst v') w'):
  if Region.wanted o (yielded ops a.tmps)=true then Oper.wp P o a w K Q else E:=by
 have hw:Region.wanted o (yielded ops a.tmps)=true:=by simp[Region.wanted,hgd]
 rw[if_pos hw]
 obtain⟨v',w',hrun,h2,h3⟩:=ji (P:=P) w base t o.type e i z size bytes ht hi hz hsize hby hzs hsz v n xs hown A m c news hr hl h1 h63 hbytes hbase
 unfold Oper.wp execOp
 simp only[ho,resolve,invoke,builtin,Sem.run_bind,Sem.run_pure,Result.andThen_ok,List.map_toArray,List.map_cons,List.map_nil,hs,hx,hrun]
 exact h v' w' h2 h3
theorem zN {w:World} {p:Addr} {v:Value} (h:w.cell? p=some v) (o:Obj):(w.alloc o).cell? p=some v:=
 (Mf (Below.heap_alloc w o p.block (World.block_lt_of_cell? w p h))).trans h
theorem Eh {cur:Array Value} {k:Nat} {xs:List Value} (a b c:Value) (h:k*3+3<=cur.size) (hx:cur.toList.take (k*3)=xs):
  (((cur.setIfInBounds (k*3) a).setIfInBounds (k*3+1) b).setIfInBounds (k*3+2) c).toList.take ((k+1)*3)=xs++[a,b,c]:=by
 have hl:xs.length=k*3:=by rw[<-hx,List.length_take,Array.length_toList];omega
 refine List.ext_getElem? fun i=>?_
 rw[MB]
 by_cases h1:i< k*3
 ·rw[if_pos (by omega),Nf (by omega),<-hx,MB,if_pos h1]
  simp only[Array.toList_setIfInBounds]
  rw[M6 (by omega),M6 (by omega),M6 (by omega)]
 ·rw[Ma (by omega),hl]
  by_cases h2:i< (k+1)*3
  ·rw[if_pos h2]
   simp only[Array.toList_setIfInBounds]
   obtain⟨j,rfl⟩:∃j,i=k*3+j:=⟨i-k*3,by omega⟩
   have hj:j=0∨j=1∨j=2:=by omega
   rw[Nat.add_sub_cancel_left]
   rcases hj with rfl|rfl|rfl
   ·rw[M6 (by omega),M6 (by omega),Nat.add_zero,List.getElem?_set_self (by simpa using by omega)];rfl
   ·rw[M6 (by omega),List.getElem?_set_self (by simpa using by omega)];rfl
   ·rw[List.getElem?_set_self (by simpa using by omega)];rfl
  ·rw[if_neg h2,List.getElem?_eq_none (by simp;omega)]
theorem aW {P:Program} (t e:TypeId) (i:TypeInfo) (z:Value) (ht:P.underlying t=some (.slice e)) (hi:P.info? e=some i) (hz:i.zero=some z)
  (n:Nat) (hbytes:i.bytes*n<=281474976710656) (h63:n<=9223372036854775807) (w:World):
  (Instr.makeSlice t (.int .i64 (n:Int)) (.int .i64 (n:Int))).run P w= .ok (.slice (some ⟨w.heap.size,0,none⟩) n n) (w.alloc (.cells (madeCells z.cells (n*i.size)) e)):=by
 have hb:(i.bytes:Int)*(n:Int)<=281474976710656:=by
  have h:((i.bytes*n:Nat):Int)<=281474976710656:=by omega
  rwa [MI]at h
 have hr:=run_make (P:=P) w t e i z ht hi hz .i64 .i64 n n (by omega) (by omega) hb (by omega)
 simp only[Int.toNat_natCast]at hr
 exact hr
def rises (ks:List Int):Bool:=decide (ks.Pairwise (·< ·))
theorem vz (ks:List Int):rises ks=true↔∀i (h:i+1< ks.length),ks[i]'(by omega)< ks[i+1]'h:=by
 unfold rises
 rw[decide_eq_true_iff]
 constructor
 ·intro h i hi
  exact(List.pairwise_iff_getElem.1 h) i (i+1) (by omega) hi (by omega)
 ·intro h
  rw[List.pairwise_iff_getElem]
  intro i j hi hj hij
  induction j with
  |zero=>omega
  |succ j ih=>
   have hj':=h j hj
   by_cases e:i=j
   ·subst e;exact hj'
   ·exact Int.lt_trans (ih (by omega) (by omega)) hj'
theorem rC {ks:List Int} (h:∀i (h:i+1< ks.length),ks[i]'(by omega)< ks[i+1]'h):rises ks=true:=(vz ks).2 h
theorem yD {ks:List Int} {i:Nat} (hi:i+1< ks.length) (h:ks[i+1]'hi<=ks[i]'(by omega)):rises ks=false:=by
 rw[Bool.eq_false_iff]
 intro hr
 have:=(vz ks).1 hr i hi
 omega
theorem ay {B:Nat} {a w:World} (h:Below B a w) (n:Nat):Below B a (w.drewN n):=⟨h.os,h.tape,h.output,h.size,h.block⟩
theorem aa {a b c:World} (h:Below a.heap.size a b) (k:Below b.heap.size b c):Below a.heap.size a c:=h.trans (k.mono h.size)
def RiseTo (ks:List Int) (k:Nat):Prop:=∀i (h:i+1< ks.length),i+1< k->ks[i]'(by omega)< ks[i+1]'h
theorem RiseTo.start (ks:List Int):RiseTo ks 1:=fun _ _ h=>absurd h (by omega)
theorem RiseTo.step {ks:List Int} {k:Nat} (h:RiseTo ks k) (hk:1<=k) (hlt:k< ks.length) (hx:ks[k-1]'(by omega)< ks[k]'hlt):RiseTo ks (k+1):=by
 intro i hi hik
 by_cases e:i+1=k
 ·subst e;simpa using hx
 ·exact h i hi (by omega)
theorem RiseTo.all {ks:List Int} {k:Nat} (h:RiseTo ks k) (hk:ks.length<=k):rises ks=true:=rC fun i hi=>h i hi (by omega)
theorem RiseTo.no {ks:List Int} {k:Nat} (hk:1<=k) (hlt:k< ks.length) (hx:ks[k]'hlt<=ks[k-1]'(by omega)):rises ks=false:=by
 obtain⟨j,rfl⟩:∃j,k=j+1:=⟨k-1,by omega⟩
 exact yD hlt (by simpa using hx)
theorem aO {W w1:World} {B:Nat} (hb:Below B W w1):(∀b o,b< B->w1.cell? ⟨b,o,none⟩=W.cell? ⟨b,o,none⟩)/\(∀b o,b< B->w1.frozen? ⟨b,o,none⟩=W.frozen? ⟨b,o,none⟩):=
 ⟨fun b o h=>hb.cell (p:=⟨b,o,none⟩) h,fun b o h=>hb.frozen (p:=⟨b,o,none⟩) h⟩
theorem aJ {k:IntKind} {a b:Int} (h:a=b):Ending.returned (.int k a)= .returned (.int k b):=by rw[h]
theorem aC {a b:Bool} (h:a=b):Ending.returned (.bool a)= .returned (.bool b):=by rw[h]
end
section
open Go.Shelf
structure Mod (S:Nat->Prop) (w w':World):Prop where
 os:w'.os=w.os
 tape:w'.tape=w.tape
 output:w'.output=w.output
 size:w.heap.size<=w'.heap.size
 block:∀k,k< w.heap.size->¬S k->w'.heap[k]?=w.heap[k]?
section
variable {S T:Nat->Prop} {a b c w w':World}
theorem Mod.refl (S:Nat->Prop) (w:World):Mod S w w:=⟨rfl,rfl,rfl,KS _,fun _ _ _=>rfl⟩
theorem Mod.trans (h:Mod S a b) (k:Mod S b c):Mod S a c:=
 ⟨k.os.trans h.os,k.tape.trans h.tape,k.output.trans h.output,KY h.size k.size,fun i hi hn=>(k.block i (Nat.lt_of_lt_of_le hi h.size) hn).trans (h.block i hi hn)⟩
theorem Mod.mono (h:Mod S a b) (hs:∀k,k< a.heap.size->S k->T k):Mod T a b:=⟨h.os,h.tape,h.output,h.size,fun i hi hn=>h.block i hi fun hk=>hn (hs i hi hk)⟩
theorem Mod.alloc (h:Mod S a w) (o:Obj):Mod S a (w.alloc o):=
 h.trans ⟨rfl,rfl,rfl,by simp,fun k hk _=>Below.heap_alloc _ _ _ hk⟩
theorem Mod.setCell (h:Mod S a w) {p:Addr} (hp:S p.block) (u:Value):Mod S a (w.setCell p u):=
 h.trans ⟨rfl,rfl,rfl,by simp[World.setCell],fun k hk hn=>Below.heap_setCell _ _ _ _ (fun e=>hn (e ▸ hp))⟩
theorem Mod.drew (h:Mod S a w):Mod S a w.drew:=⟨h.os,h.tape,h.output,h.size,h.block⟩
theorem Mod.ext (h:Mod S a w) (hb:Below w.heap.size w w'):Mod S a w':=
 h.trans ⟨hb.os,hb.tape,hb.output,hb.size,fun k hk _=>hb.block k hk⟩
theorem Mod.of_ext (hb:Below w.heap.size w w'):Mod S w w':=(Mod.refl S w).ext hb
theorem Mod.grown {row:Option Nat} (h:Mod S a w) (hg:w.grownBy w' row) (hr:∀k,row=some k->S k∨a.heap.size<=k):Mod S a w':=
 ⟨hg.os.trans h.os,hg.tape.trans h.tape,hg.output.trans h.output,KY h.size hg.size,fun k hk hn=>(hg.block k (Nat.lt_of_lt_of_le hk h.size) (fun e=>by
  rcases hr k e.symm with hs|hs
  ·exact hn hs
  ·omega)).trans (h.block k hk hn)⟩
theorem Mod.below {B:Nat} (h:Mod S w w') (hB:B<=w.heap.size) (hs:∀k,S k->B<=k):Below B w w':=
 ⟨h.os,h.tape,h.output,h.size,fun k hk=>h.block k (by omega) fun hsk=>by have:=hs k hsk;omega⟩
theorem Mod.cell (h:Mod S w w') {p:Addr} (hp:p.block< w.heap.size) (hn:¬S p.block):w'.cell? p=w.cell? p:=Mf (h.block _ hp hn)
theorem Mod.putObj (h:Mod S a w) {l:Nat} (hl:S l) (o:Obj):Mod S a (w.putObj l o):=
 h.trans ⟨rfl,rfl,rfl,by simp[World.putObj],fun k hk hn=>K9 (fun e=>hn (e ▸ hl))⟩
end
theorem Blk.mod {S:Nat->Prop} {w w':World} {g:Nat} {t:TypeId} {cs:Array Value} (h:Blk w g t cs) (hm:Mod S w w') (hn:¬S g):Blk w' g t cs:=h.of (hm.block _ h.lt hn)
theorem Sl.mod {S:Nat->Prop} {w w':World} {A:Option Addr} {xs:List Value} (h:Sl w A xs) (hm:Mod S w w') (hn:∀a,A=some a->¬S a.block):Sl w' A xs:=by
 rcases h with h|⟨b,off,hA,hlt,hc⟩
 ·exact .inl h
 ·exact .inr ⟨b,off,hA,Nat.lt_of_lt_of_le hlt hm.size,fun j u hu=>(hm.cell (p:=⟨b,off+j,none⟩) hlt (hn ⟨b,off,none⟩ hA)).trans (hc j u hu)⟩
def Yields (F:Fence) (P:Program) (g:FuncId) (lb:Array Value) (N:Nat) (xs:Nat->Array Value) (K T:Nat->Prop) (w:World):Prop:=
 ∀(l:Nat) (I:Nat->World->Prop) (X:World->Prop) (W:World),
  w.heap.size<=W.heap.size->(∀b,K b->W.heap[b]?=w.heap[b]?)->
  (∀k A B,I k A->Mod T A B->I k B)->(∀A B,X A->Mod T A B->X B)->
  (∀k A,k< N->I k A->YieldAt F 0 P l (xs k) A fun e B=>
    (e= .returned (.bool true)/\I (k+1) B/\A.heap.size<=B.heap.size/\∀b,K b->B.heap[b]?=A.heap[b]?)∨(e= .returned (.bool false)/\X B))->
  I 0 W->
  CallsIn F 0 P g (#[.func (.yield l) #[] #[]]++lb) W fun e W'=>(∃v,e= .returned v)/\(I N W'∨X W')
def xL (B:Nat) (K:Nat->Prop) (In:World->Prop) (Ix:Code->World->Prop) (A:World):Exit->Act->World->Prop
 | .normal,_,W=>Mod (fun b=>b≠B/\b≠B+1/\¬K b) A W/\In W
 | .ret,_,W=>Mod (fun b=>b≠B/\b≠B+1) A W/\Ix .ret W
 | .exit id,_,W=>Mod (fun b=>b≠B/\b≠B+1) A W/\Ix (.exit id) W
 | .goto t,_,W=>Mod (fun b=>b≠B/\b≠B+1) A W/\Ix (.goto t) W
 | .panic _,_,_=>False
 | .outgrown,_,_=>False
theorem ng {F:Fence} {P:Program} {g:Operand} {ps:Array Tmp} {assign body:Code} {Q:Exit->Act->World->Prop} {a:Act} {w:World}
  (hd:F.depth=none) (hF:∀f,F.fn f) (hro:F.round=none)
  {gf:Nat} {lb:Array Value} (hg:a.eval g= .func (.func gf) #[] lb) (eg:∀args w,(callFunc gf args).run P w= .ok (.enter gf args) w)
  {N:Nat} {xs:Nat->Array Value} {K T:Nat->Prop} (hy:Yields F P gf lb N xs K T w) (hK:∀b,K b->b< w.heap.size) (hT:∀b,T b->b< w.heap.size)
  (hps:∀k,(xs k).size=ps.size)
  (I:Nat->World->Prop) (Ix:Code->World->Prop)
  (hI:∀k A B,I k A->Mod (fun b=>T b∨b=w.heap.size∨b=w.heap.size+1) A B->I k B)
  (hIx:∀c A B,Ix c A->Mod (fun b=>T b∨b=w.heap.size∨b=w.heap.size+1) A B->Ix c B)
  (h0:I 0 w) (Ax:Nat->Act->World->Prop)
  (hAx:∀k a' A B,Ax k a' A->Mod (fun b=>T b∨b=w.heap.size∨b=w.heap.size+1) A B->Ax k a' B)
  (hassign:∀(l k:Nat),k< N->∀(A:World) (C:Act->World->Prop),I k A->w.heap.size+2<=A.heap.size->
   (∀a' A',Mod (fun b=>b≠w.heap.size/\b≠w.heap.size+1/\¬K b) A A'->I k A'->Ax k a' A'->C a' A')->
   assign.wpIn (F.inRound l) 0 P (Exit.then C (fun _ _ _=>False)) {tmps:=(ps.zip (xs k)).foldl (fun t (p,v)=>t.setIfInBounds p v) a.tmps,defers:=[]} A)
  (hbody:∀(l k:Nat),k< N->∀(a':Act) (A:World),I k A->Ax k a' A->w.heap.size+2<=A.heap.size->
   body.wpIn (F.inRound l) 0 P (xL w.heap.size K (I (k+1)) Ix A) a' A)
  (hdone:∀(W:World),I N W->W.heap[w.heap.size]?=some (.deferred (some []))->Q .normal {a with defers:={target:= .collected w.heap.size,args:=#[]}::a.defers} W)
  (hstop:∀(c:Code) (W:World),Ix c W->W.heap[w.heap.size]?=some (.deferred (some []))->c.wpIn F 0 P Q {a with defers:={target:= .collected w.heap.size,args:=#[]}::a.defers} W):
  (Code.rangeFunc g ps assign body).wpIn F 0 P Q a w:=by
 refine wpIn_rangeFunc ?_
 intro fn hfn
 rw[hro]
 obtain⟨rec,hrec⟩:∃rec:LoopState->Option Code->Loop,rec=fun st pe=>{state:=st,pending:=pe,fn,tmps:=a.tmps,params:=ps,assign,body,defers:=w.heap.size}:=⟨_,rfl⟩
 obtain⟨W1,hW1⟩:∃W1,(w.alloc (.deferred (some []))).alloc (.loop (rec .ready none))=W1:=⟨_,rfl⟩
 have hL1:W1.heap[w.heap.size+1]?=some (.loop (rec .ready none)):=by
  rw[<-hW1];have:=World.alloc_heap_new (w.alloc (.deferred (some []))) (.loop (rec .ready none));rwa [KX]at this
 have hK1:W1.heap[w.heap.size]?=some (.deferred (some [])):=by
  rw[<-hW1];exact(Below.heap_alloc _ _ _ (by simp)).trans (World.alloc_heap_new w _)
 have hm1:∀S,Mod S w W1:=fun S=>by rw[<-hW1];exact((Mod.refl S w).alloc _).alloc _
 have hs1:W1.heap.size=w.heap.size+2:=by rw[<-hW1];simp
 refine⟨w.heap.size+1,[{target:= .collected w.heap.size,args:=#[]}],W1,{target:= .fn (.func gf) lb,args:=#[.func (.yield (w.heap.size+1)) #[] #[]]},W1,gf,
  #[.func (.yield (w.heap.size+1)) #[] #[]]++lb,W1,?_,?_,?_,?_,(fun h=>by rw[hd]at h;cases h),?_⟩
 ·rw[<-hW1,hrec];exact run_enterLoop_outer _ _ _ _ _
 ·simp only[resolve,hg]
  simp[go_sem]
 ·intro f' _;exact hF _
 ·simp[invoke,go_sem,eg]
 ·have hTne:∀b,T b->b≠w.heap.size/\b≠w.heap.size+1:=fun b hb=>by have:=hT b hb;omega
  have hKne:∀b,K b->b≠w.heap.size/\b≠w.heap.size+1:=fun b hb=>by have:=hK b hb;omega
  refine(hy (w.heap.size+1)
   (fun k W=>I k W/\W.heap[w.heap.size+1]?=some (.loop (rec .ready none))/\W.heap[w.heap.size]?=some (.deferred (some [])))
   (fun W=>∃c,Ix c W/\W.heap[w.heap.size+1]?=some (.loop (rec .done (some c)))/\W.heap[w.heap.size]?=some (.deferred (some [])))
   W1 (by omega) (fun b hb=>(hm1 (fun _=>False)).block b (hK b hb) (fun h=>h))
   ?stab ?stabx ?round ⟨hI 0 _ _ h0 (hm1 _),hL1,hK1⟩).mono ?behind
  case stab=>
   rintro k A B ⟨hi,hl,hk⟩ hm
   refine⟨hI _ _ _ hi (hm.mono fun _ _ h=> .inl h),?_,?_⟩
   ·exact(hm.block _ (Array.getElem?_eq_some_iff.1 hl).1 (fun h=>(hTne _ h).2 rfl)).trans hl
   ·exact(hm.block _ (Array.getElem?_eq_some_iff.1 hk).1 (fun h=>(hTne _ h).1 rfl)).trans hk
  case stabx=>
   rintro A B ⟨c,hi,hl,hk⟩ hm
   refine⟨c,hIx _ _ _ hi (hm.mono fun _ _ h=> .inl h),?_,?_⟩
   ·exact(hm.block _ (Array.getElem?_eq_some_iff.1 hl).1 (fun h=>(hTne _ h).2 rfl)).trans hl
   ·exact(hm.block _ (Array.getElem?_eq_some_iff.1 hk).1 (fun h=>(hTne _ h).1 rfl)).trans hk
  case round=>
   rintro k A hk ⟨hi,hl,hD⟩
   have hlt:w.heap.size+1< A.heap.size:=(Array.getElem?_eq_some_iff.1 hl).1
   have hyd:=run_yield (P:=P) (args:=xs k) hl (by rw[hrec];exact hps k)
   rw[hrec]at hyd
   refine⟨fn,_,assign,body,hyd,roundIn_of_wpIn hfn (hassign _ k hk A _ hi (by omega) ?_)⟩
   clear hyd
   intro a' A1 hm hi1 hax
   have hl1:A1.heap[w.heap.size+1]?=some (.loop (rec .ready none)):=(hm.block _ hlt (fun h=>h.2.1 rfl)).trans hl
   have hD1:A1.heap[w.heap.size]?=some (.deferred (some [])):=(hm.block _ (by omega) (fun h=>h.1 rfl)).trans hD
   have hlt1:w.heap.size+1< A1.heap.size:=(Array.getElem?_eq_some_iff.1 hl1).1
   refine⟨_,run_beginRound hl1 (by rw[hrec]),?_⟩
   obtain⟨A2,hA2⟩:∃A2,A1.putObj (w.heap.size+1) (.loop {rec .ready none with state:= .busy})=A2:=⟨_,rfl⟩
   rw[hA2]
   have hl2:A2.heap[w.heap.size+1]?=some (.loop {rec .ready none with state:= .busy}):=by rw[<-hA2];exact World.putObj_heap_same hlt1
   have hD2:A2.heap[w.heap.size]?=some (.deferred (some [])):=by rw[<-hA2];exact(K9 (by omega)).trans hD1
   have hm2:Mod (fun b=>T b∨b=w.heap.size∨b=w.heap.size+1) A1 A2:=by rw[<-hA2];exact(Mod.refl _ _).putObj (.inr (.inr rfl)) _
   have hk12:∀b,K b->A2.heap[b]?=A1.heap[b]?:=fun b hb=>by rw[<-hA2];exact K9 (hKne b hb).2
   have hs2:A2.heap.size=A1.heap.size:=by rw[<-hA2];simp[World.putObj]
   refine wpIn_mono (hbody _ k hk a' A2 (hI _ _ _ hi1 hm2) (hAx _ _ _ _ hax hm2) (by omega)) ?_
   have fin:∀(jump:Option Code) (W3:World) (S:Nat->Prop),Mod S A2 W3->¬S w.heap.size->¬S (w.heap.size+1)->
     (Instr.endRound (w.heap.size+1) jump).run P W3= .ok (.bool jump.isNone) (W3.putObj (w.heap.size+1) (.loop (rec (if jump.isNone then .ready else .done) jump)))/\
     (W3.putObj (w.heap.size+1) (.loop (rec (if jump.isNone then .ready else .done) jump))).heap[w.heap.size+1]?=some (.loop (rec (if jump.isNone then .ready else .done) jump))/\
     (W3.putObj (w.heap.size+1) (.loop (rec (if jump.isNone then .ready else .done) jump))).heap[w.heap.size]?=some (.deferred (some [])):=fun jump W3 S hm3 hn1 hn2=>by
    have hl3:=(hm3.block _ (by omega) hn2).trans hl2
    have hD3:=(hm3.block _ (by omega) hn1).trans hD2
    have:=run_endRound (P:=P) jump hl3
    rw[hrec]at this ⊢
    exact⟨this,World.putObj_heap_same (Array.getElem?_eq_some_iff.1 hl3).1,(K9 (by omega)).trans hD3⟩
   have mp:∀(W3:World) (o:Obj),Mod (fun b=>T b∨b=w.heap.size∨b=w.heap.size+1) W3 (W3.putObj (w.heap.size+1) o):=fun W3 o=>(Mod.refl _ _).putObj (.inr (.inr rfl)) o
   rintro e a3 W3 hp
   cases e with
   |normal=>
    obtain⟨hm3,hi3⟩:=hp
    obtain⟨hr,hl4,hD4⟩:=fin none W3 _ hm3 (fun h=>h.1 rfl) (fun h=>h.2.1 rfl)
    refine⟨_,_,hr,.inl ⟨rfl,⟨hI _ _ _ hi3 (mp _ _),hl4,hD4⟩,?_,fun b hb=>?_⟩⟩
    ·have:=hm.size;have:=hm3.size;simp[World.putObj];omega
    ·have h1:=hm.block b (by have:=hK b hb;omega) (fun h=>h.2.2 hb)
     have h2:=hk12 b hb
     have h3:=hm3.block b (by have:=hK b hb;omega) (fun h=>h.2.2 hb)
     exact(K9 (hKne b hb).2).trans (h3.trans (h2.trans h1))
   |ret=>
    obtain⟨hm3,hi3⟩:=hp
    obtain⟨hr,hl4,hD4⟩:=fin (some .ret) W3 _ hm3 (fun h=>h.1 rfl) (fun h=>h.2 rfl)
    exact⟨_,_,hr,.inr ⟨rfl,.ret,hIx _ _ _ hi3 (mp _ _),hl4,hD4⟩⟩
   |exit id=>
    obtain⟨hm3,hi3⟩:=hp
    obtain⟨hr,hl4,hD4⟩:=fin (some (.exit id)) W3 _ hm3 (fun h=>h.1 rfl) (fun h=>h.2 rfl)
    exact⟨_,_,hr,.inr ⟨rfl,.exit id,hIx _ _ _ hi3 (mp _ _),hl4,hD4⟩⟩
   |goto t=>
    obtain⟨hm3,hi3⟩:=hp
    obtain⟨hr,hl4,hD4⟩:=fin (some (.goto t)) W3 _ hm3 (fun h=>h.1 rfl) (fun h=>h.2 rfl)
    exact⟨_,_,hr,.inr ⟨rfl,.goto t,hIx _ _ _ hi3 (mp _ _),hl4,hD4⟩⟩
   |panic ch=>exact hp.elim
   |outgrown=>exact hp.elim
  case behind=>
   have mp:∀(W3:World) (o:Obj),Mod (fun b=>T b∨b=w.heap.size∨b=w.heap.size+1) W3 (W3.putObj (w.heap.size+1) o):=fun W3 o=>(Mod.refl _ _).putObj (.inr (.inr rfl)) o
   rintro e W2 ⟨⟨v,rfl⟩,(⟨hi,hl,hk⟩|⟨c,hi,hl,hk⟩)⟩
   ·exact⟨none,_,by have:=run_endLoop (P:=P) hl (by rw[hrec];simp);rw[hrec]at this;exact this,hdone _ (hI _ _ _ hi (mp _ _)) ((K9 (by omega)).trans hk)⟩
   ·exact⟨some c,_,by have:=run_endLoop (P:=P) hl (by rw[hrec];simp);rw[hrec]at this;exact this,hstop c _ (hIx _ _ _ hi (mp _ _)) ((K9 (by omega)).trans hk)⟩
def rt (t:Array Value) (l:List (Tmp × Value)):Array Value:=l.foldl (fun t p=>t.setIfInBounds p.1 p.2) t
theorem kG {F:Fence} {P:Program} {g:Operand} {ps:Array Tmp} {assign body:Code} {Q:Exit->Act->World->Prop} {a:Act} {w:World}
  (hd:F.depth=none) (hF:∀f,F.fn f) (hro:F.round=none)
  {gf:Nat} {lb:Array Value} (hg:a.eval g= .func (.func gf) #[] lb) (eg:∀args w,(callFunc gf args).run P w= .ok (.enter gf args) w)
  {N:Nat} {xs:Nat->Array Value} {K T:Nat->Prop} (hy:Yields F P gf lb N xs K T w) (hK:∀b,K b->b< w.heap.size) (hT:∀b,T b->b< w.heap.size)
  (hps:∀k,(xs k).size=ps.size)
  (I:Nat->World->Prop) (Ix:Code->World->Prop) (sets:Nat->List (Tmp × Value))
  (hI:∀k A B,I k A->Mod (fun b=>T b∨b=w.heap.size∨b=w.heap.size+1) A B->I k B)
  (hIx:∀c A B,Ix c A->Mod (fun b=>T b∨b=w.heap.size∨b=w.heap.size+1) A B->Ix c B)
  (h0:I 0 w)
  (hassign:∀(l k:Nat),k< N->∀(A:World) (C:Act->World->Prop),C {tmps:=rt a.tmps (sets k),defers:=[]} A->
   assign.wpIn (F.inRound l) 0 P (Exit.then C (fun _ _ _=>False)) {tmps:=(ps.zip (xs k)).foldl (fun t (p,v)=>t.setIfInBounds p v) a.tmps,defers:=[]} A)
  (hbody:∀(l k:Nat),k< N->∀(A:World),I k A->w.heap.size+2<=A.heap.size->
   body.wpIn (F.inRound l) 0 P (xL w.heap.size K (I (k+1)) Ix A) {tmps:=rt a.tmps (sets k),defers:=[]} A)
  (hdone:∀(W:World),I N W->W.heap[w.heap.size]?=some (.deferred (some []))->Q .normal {a with defers:={target:= .collected w.heap.size,args:=#[]}::a.defers} W)
  (hstop:∀(c:Code) (W:World),Ix c W->W.heap[w.heap.size]?=some (.deferred (some []))->c.wpIn F 0 P Q {a with defers:={target:= .collected w.heap.size,args:=#[]}::a.defers} W):
  (Code.rangeFunc g ps assign body).wpIn F 0 P Q a w:=
 ng hd hF hro hg eg hy hK hT hps I Ix hI hIx h0 (fun k a' _=>a'={tmps:=rt a.tmps (sets k),defers:=[]}) (fun _ _ _ _ h _=>h)
  (fun l k hk A C hi _ hC=>hassign l k hk A C (hC _ _ (Mod.refl _ _) hi rfl))
  (fun l k hk a' A hi ha hs=>by subst ha;exact hbody l k hk A hi hs) hdone hstop
section
variable {F:Fence} {P:Program} {b:Frame} {a:Act} {k:List Item} {cs:List Frame} {w:World} {Q:Exit->Act->World->Prop}
theorem fC {c:Code}:step P (lone (b.atR a (.code (.scope c)::k)) cs w)= .next (lone (b.atR a (.code c:: .inScope c::k)) cs w):=
 step_lone_go (by simp[stepG,stepG.exec,Frame.atR])
theorem tZ {c:Code}:step P (lone (b.atR a (.inScope c::k)) cs w)= .next (lone (b.atR a k) cs w):=
 step_lone_go (by simp[stepG,stepG.exec,Frame.atR])
theorem aX {c:Code} {e:Exit} {a₁:Act} {w₁:World} {m:Machine} {n:Nat} (hb:F.fn b.fn) (hr:F.room (cs.length+1+n)) (hne:∀l,e≠ .goto l)
  (harr:ArrivesIn (Machine.fenced P F) P m b (.inScope c::k) cs e a₁ w₁):ArrivesIn (Machine.fenced P F) P m b k cs e a₁ w₁:=by
 cases e with
 |normal=>exact StepsIn.trans harr (.one (fenced_calm hb hr rfl) tZ)
 |exit id=>
  have hx:exitTo id (.inScope c::k)=exitTo id k:=by simp[exitTo]
  exact⟨fun k' hk=>harr.1 k' (by rw[hx];exact hk),fun hr' hk=>let ⟨k₁,h1,h2⟩:=harr.2 hr' (by rw[hx];exact hk);⟨k₁,h1,h2⟩⟩
 |goto l=>exact absurd rfl (hne l)
 |ret=>exact harr
 |panic ch=>exact harr
 |outgrown=>exact harr
theorem oP {n:Nat} {c rest:Code} (l:Nat) (J:Act->World->Prop) (μ:Act->World->Nat) (hf:findLabel c l=some rest)
  (first:c.wpIn F n P (Exit.jump l J Q) a w)
  (pass:∀a w,J a w->rest.wpIn F n P (Exit.jump l (fun a' w'=>J a' w'/\μ a' w'< μ a w) Q) a w):(Code.scope c).wpIn F n P Q a w:=by
 intro b k cs hro hb hr
 have h0:(lone (b.atR a (.code (.scope c)::k)) cs w).fenced P F:=fenced_calm hb hr rfl
 have hg:gotoIn l (.inScope c::k)=some (.code rest:: .inScope c::k):=by simp[gotoIn,hf]
 have key:∀m a w,μ a w=m->J a w->∃e a' w',Q e a' w'/\ArrivesIn (Machine.fenced P F) P (lone (b.atR a (.code rest:: .inScope c::k)) cs w) b k cs e a' w':=by
  intro m
  induction m using Nat.strongRecOn with
  |_ m ih=>
   intro a w hn hJ
   obtain⟨e,a₁,w₁,hq,harr⟩:=pass a w hJ b (.inScope c::k) cs hro hb hr
   cases e with
   |goto l'=>
    obtain⟨rfl,hJ',hlt⟩:=hq
    obtain⟨e₂,a₂,w₂,hq₂,harr₂⟩:=ih _ (by omega) a₁ w₁ rfl hJ'
    exact⟨e₂,a₂,w₂,hq₂,.of_steps (harr.1 _ hg) harr₂⟩
   |normal=>exact⟨_,a₁,w₁,hq,aX hb hr (fun _ h=>by cases h) harr⟩
   |exit id=>exact⟨_,a₁,w₁,hq,aX hb hr (fun _ h=>by cases h) harr⟩
   |ret=>exact⟨_,a₁,w₁,hq,aX hb hr (fun _ h=>by cases h) harr⟩
   |panic ch=>exact⟨_,a₁,w₁,hq,aX hb hr (fun _ h=>by cases h) harr⟩
   |outgrown=>exact⟨_,a₁,w₁,hq,aX hb hr (fun _ h=>by cases h) harr⟩
 obtain⟨e,a₁,w₁,hq,harr⟩:=first b (.inScope c::k) cs hro hb hr
 cases e with
 |goto l'=>
  obtain⟨rfl,hJ'⟩:=hq
  obtain⟨e₂,a₂,w₂,hq₂,harr₂⟩:=key _ a₁ w₁ rfl hJ'
  exact⟨e₂,a₂,w₂,hq₂,.of_steps (.head h0 fC (harr.1 _ hg)) harr₂⟩
 |normal=>exact⟨_,a₁,w₁,hq,.of_steps (.one h0 fC) (aX hb hr (fun _ h=>by cases h) harr)⟩
 |exit id=>exact⟨_,a₁,w₁,hq,.of_steps (.one h0 fC) (aX hb hr (fun _ h=>by cases h) harr)⟩
 |ret=>exact⟨_,a₁,w₁,hq,.of_steps (.one h0 fC) (aX hb hr (fun _ h=>by cases h) harr)⟩
 |panic ch=>exact⟨_,a₁,w₁,hq,.of_steps (.one h0 fC) (aX hb hr (fun _ h=>by cases h) harr)⟩
 |outgrown=>exact⟨_,a₁,w₁,hq,.of_steps (.one h0 fC) (aX hb hr (fun _ h=>by cases h) harr)⟩
end
theorem Aj {F:Fence} {P:Program} {fn:Func} {R:Ending->World->Prop} {tmps:Array Value} {D t u:Nat} {w:World}
  (h:fn.results=#[.tmp t,.tmp u]) (hD:w.heap[D]?=some (.deferred (some []))) (hR:R (.returned (.tuple #[tmps.getD t undef,tmps.getD u undef])) (w.putObj D (.deferred none))):
  bodyPostM F 0 P fn R .ret {tmps:=tmps,defers:=[{target:= .collected D,args:=#[]}]} w:=
 ⟨by simp,.inl ⟨_,_,rfl,run_takeDeferred hD,⟨_,results_tmp2 h _ _ _,hR⟩⟩⟩
theorem bD {_F:Fence} {P:Program} {f:FuncId} {args:Array Value} {w:World} {R:Ending->World->Prop} (h:CallsIn Fence.wide 0 P f args w R):Calls P f args w R:=callsIn_wide.1 h
end
def BG (F:Fence) (P:Program) (g:FuncId) (lb:Array Value) (N:Nat) (xs:Nat->Array Value) (K:Nat->Prop) (S:Nat->World->Prop) (E:World->Prop) (T:Nat->Prop) (w:World):Prop:=
 ∀(l:Nat) (I:Nat->World->Prop) (X:World->Prop) (W:World),
  w.heap.size<=W.heap.size->(∀b,K b->W.heap[b]?=w.heap[b]?)->
  (∀k A B,I k A->Mod T A B->I k B)->(∀A B,X A->Mod (fun _=>False) A B->X B)->
  (∀k A,k< N->I k A->S k A->YieldAt F 0 P l (xs k) A fun e B=>
    (e= .returned (.bool true)/\I (k+1) B/\A.heap.size<=B.heap.size/\∀b,K b->B.heap[b]?=A.heap[b]?)∨(e= .returned (.bool false)/\X B))->
  I 0 W->
  CallsIn F 0 P g (#[.func (.yield l) #[] #[]]++lb) W fun e W'=>(∃v,e= .returned v)/\((I N W'/\E W')∨X W')
theorem xS {F:Fence} {P:Program} {g:Operand} {ps:Array Tmp} {assign body:Code} {Q:Exit->Act->World->Prop} {a:Act} {w:World}
  (hd:F.depth=none) (hF:∀f,F.fn f) (hro:F.round=none)
  {gf:Nat} {lb:Array Value} (hg:a.eval g= .func (.func gf) #[] lb) (eg:∀args w,(callFunc gf args).run P w= .ok (.enter gf args) w)
  {N:Nat} {xs:Nat->Array Value} {K T:Nat->Prop} {S:Nat->World->Prop} {E:World->Prop} (hy:BG F P gf lb N xs K S E T w)
  (hSK:∀k A B,S k A->A.heap.size<=B.heap.size->(∀b,K b->B.heap[b]?=A.heap[b]?)->S k B) (hEK:∀A B,E A->A.heap.size<=B.heap.size->(∀b,K b->B.heap[b]?=A.heap[b]?)->E B) (hK:∀b,K b->b< w.heap.size) (hT:∀b,T b->b< w.heap.size)
  (hps:∀k,(xs k).size=ps.size)
  (I:Nat->World->Prop) (Ix:Code->World->Prop)
  (hI:∀k A B,I k A->Mod (fun b=>T b∨b=w.heap.size∨b=w.heap.size+1) A B->I k B)
  (hIx:∀c A B,Ix c A->Mod (fun b=>b=w.heap.size∨b=w.heap.size+1) A B->Ix c B)
  (h0:I 0 w) (Ax:Nat->Act->World->Prop)
  (hAx:∀k a' A B,Ax k a' A->Mod (fun b=>T b∨b=w.heap.size∨b=w.heap.size+1) A B->Ax k a' B)
  (hassign:∀(l k:Nat),k< N->∀(A:World) (C:Act->World->Prop),I k A->w.heap.size+2<=A.heap.size->
   (∀a' A',Mod (fun b=>b≠w.heap.size/\b≠w.heap.size+1/\¬K b) A A'->I k A'->Ax k a' A'->C a' A')->
   assign.wpIn (F.inRound l) 0 P (Exit.then C (fun _ _ _=>False)) {tmps:=(ps.zip (xs k)).foldl (fun t (p,v)=>t.setIfInBounds p v) a.tmps,defers:=[]} A)
  (hbody:∀(l k:Nat),k< N->∀(a':Act) (A:World),I k A->S k A->Ax k a' A->w.heap.size+2<=A.heap.size->
   body.wpIn (F.inRound l) 0 P (xL w.heap.size K (I (k+1)) Ix A) a' A)
  (hdone:∀(W:World),I N W->E W->W.heap[w.heap.size]?=some (.deferred (some []))->Q .normal {a with defers:={target:= .collected w.heap.size,args:=#[]}::a.defers} W)
  (hstop:∀(c:Code) (W:World),Ix c W->W.heap[w.heap.size]?=some (.deferred (some []))->c.wpIn F 0 P Q {a with defers:={target:= .collected w.heap.size,args:=#[]}::a.defers} W):
  (Code.rangeFunc g ps assign body).wpIn F 0 P Q a w:=by
 refine wpIn_rangeFunc ?_
 intro fn hfn
 rw[hro]
 obtain⟨rec,hrec⟩:∃rec:LoopState->Option Code->Loop,rec=fun st pe=>{state:=st,pending:=pe,fn,tmps:=a.tmps,params:=ps,assign,body,defers:=w.heap.size}:=⟨_,rfl⟩
 obtain⟨W1,hW1⟩:∃W1,(w.alloc (.deferred (some []))).alloc (.loop (rec .ready none))=W1:=⟨_,rfl⟩
 have hL1:W1.heap[w.heap.size+1]?=some (.loop (rec .ready none)):=by
  rw[<-hW1];have:=World.alloc_heap_new (w.alloc (.deferred (some []))) (.loop (rec .ready none));rwa [KX]at this
 have hK1:W1.heap[w.heap.size]?=some (.deferred (some [])):=by
  rw[<-hW1];exact(Below.heap_alloc _ _ _ (by simp)).trans (World.alloc_heap_new w _)
 have hm1:∀S,Mod S w W1:=fun S=>by rw[<-hW1];exact((Mod.refl S w).alloc _).alloc _
 have hs1:W1.heap.size=w.heap.size+2:=by rw[<-hW1];simp
 refine⟨w.heap.size+1,[{target:= .collected w.heap.size,args:=#[]}],W1,{target:= .fn (.func gf) lb,args:=#[.func (.yield (w.heap.size+1)) #[] #[]]},W1,gf,
  #[.func (.yield (w.heap.size+1)) #[] #[]]++lb,W1,?_,?_,?_,?_,(fun h=>by rw[hd]at h;cases h),?_⟩
 ·rw[<-hW1,hrec];exact run_enterLoop_outer _ _ _ _ _
 ·simp only[resolve,hg]
  simp[go_sem]
 ·intro f' _;exact hF _
 ·simp[invoke,go_sem,eg]
 ·have hTne:∀b,T b->b≠w.heap.size/\b≠w.heap.size+1:=fun b hb=>by have:=hT b hb;omega
  have hKne:∀b,K b->b≠w.heap.size/\b≠w.heap.size+1:=fun b hb=>by have:=hK b hb;omega
  refine(hy (w.heap.size+1)
   (fun k W=>I k W/\W.heap[w.heap.size+1]?=some (.loop (rec .ready none))/\W.heap[w.heap.size]?=some (.deferred (some [])))
   (fun W=>∃c,Ix c W/\W.heap[w.heap.size+1]?=some (.loop (rec .done (some c)))/\W.heap[w.heap.size]?=some (.deferred (some [])))
   W1 (by omega) (fun b hb=>(hm1 (fun _=>False)).block b (hK b hb) (fun h=>h))
   ?stab ?stabx ?round ⟨hI 0 _ _ h0 (hm1 _),hL1,hK1⟩).mono ?behind
  case stab=>
   rintro k A B ⟨hi,hl,hk⟩ hm
   refine⟨hI _ _ _ hi (hm.mono fun _ _ h=> .inl h),?_,?_⟩
   ·exact(hm.block _ (Array.getElem?_eq_some_iff.1 hl).1 (fun h=>(hTne _ h).2 rfl)).trans hl
   ·exact(hm.block _ (Array.getElem?_eq_some_iff.1 hk).1 (fun h=>(hTne _ h).1 rfl)).trans hk
  case stabx=>
   rintro A B ⟨c,hi,hl,hk⟩ hm
   refine⟨c,hIx _ _ _ hi (hm.mono fun _ _ h=>h.elim),?_,?_⟩
   ·exact(hm.block _ (Array.getElem?_eq_some_iff.1 hl).1 (fun h=>h.elim)).trans hl
   ·exact(hm.block _ (Array.getElem?_eq_some_iff.1 hk).1 (fun h=>h.elim)).trans hk
  case round=>
   rintro k A hk ⟨hi,hl,hD⟩ hSA
   have hlt:w.heap.size+1< A.heap.size:=(Array.getElem?_eq_some_iff.1 hl).1
   have hyd:=run_yield (P:=P) (args:=xs k) hl (by rw[hrec];exact hps k)
   rw[hrec]at hyd
   refine⟨fn,_,assign,body,hyd,roundIn_of_wpIn hfn (hassign _ k hk A _ hi (by omega) ?_)⟩
   clear hyd
   intro a' A1 hm hi1 hax
   have hl1:A1.heap[w.heap.size+1]?=some (.loop (rec .ready none)):=(hm.block _ hlt (fun h=>h.2.1 rfl)).trans hl
   have hD1:A1.heap[w.heap.size]?=some (.deferred (some [])):=(hm.block _ (by omega) (fun h=>h.1 rfl)).trans hD
   have hlt1:w.heap.size+1< A1.heap.size:=(Array.getElem?_eq_some_iff.1 hl1).1
   refine⟨_,run_beginRound hl1 (by rw[hrec]),?_⟩
   obtain⟨A2,hA2⟩:∃A2,A1.putObj (w.heap.size+1) (.loop {rec .ready none with state:= .busy})=A2:=⟨_,rfl⟩
   rw[hA2]
   have hl2:A2.heap[w.heap.size+1]?=some (.loop {rec .ready none with state:= .busy}):=by rw[<-hA2];exact World.putObj_heap_same hlt1
   have hD2:A2.heap[w.heap.size]?=some (.deferred (some [])):=by rw[<-hA2];exact(K9 (by omega)).trans hD1
   have hm2:Mod (fun b=>T b∨b=w.heap.size∨b=w.heap.size+1) A1 A2:=by rw[<-hA2];exact(Mod.refl _ _).putObj (.inr (.inr rfl)) _
   have hk12:∀b,K b->A2.heap[b]?=A1.heap[b]?:=fun b hb=>by rw[<-hA2];exact K9 (hKne b hb).2
   have hs2:A2.heap.size=A1.heap.size:=by rw[<-hA2];simp[World.putObj]
   have hS2:S k A2:=hSK k A A2 hSA (by have:=hm.size;omega) (fun b hb=>by rw[hk12 b hb];exact hm.block b (by have:=hK b hb;omega) (fun h=>h.2.2 hb))
   refine wpIn_mono (hbody _ k hk a' A2 (hI _ _ _ hi1 hm2) hS2 (hAx _ _ _ _ hax hm2) (by omega)) ?_
   have fin:∀(jump:Option Code) (W3:World) (S:Nat->Prop),Mod S A2 W3->¬S w.heap.size->¬S (w.heap.size+1)->
     (Instr.endRound (w.heap.size+1) jump).run P W3= .ok (.bool jump.isNone) (W3.putObj (w.heap.size+1) (.loop (rec (if jump.isNone then .ready else .done) jump)))/\
     (W3.putObj (w.heap.size+1) (.loop (rec (if jump.isNone then .ready else .done) jump))).heap[w.heap.size+1]?=some (.loop (rec (if jump.isNone then .ready else .done) jump))/\
     (W3.putObj (w.heap.size+1) (.loop (rec (if jump.isNone then .ready else .done) jump))).heap[w.heap.size]?=some (.deferred (some [])):=fun jump W3 S hm3 hn1 hn2=>by
    have hl3:=(hm3.block _ (by omega) hn2).trans hl2
    have hD3:=(hm3.block _ (by omega) hn1).trans hD2
    have:=run_endRound (P:=P) jump hl3
    rw[hrec]at this ⊢
    exact⟨this,World.putObj_heap_same (Array.getElem?_eq_some_iff.1 hl3).1,(K9 (by omega)).trans hD3⟩
   have mp:∀(W3:World) (o:Obj),Mod (fun b=>T b∨b=w.heap.size∨b=w.heap.size+1) W3 (W3.putObj (w.heap.size+1) o):=fun W3 o=>(Mod.refl _ _).putObj (.inr (.inr rfl)) o
   have mq:∀(W3:World) (o:Obj),Mod (fun b=>b=w.heap.size∨b=w.heap.size+1) W3 (W3.putObj (w.heap.size+1) o):=fun W3 o=>(Mod.refl _ _).putObj (.inr rfl) o
   rintro e a3 W3 hp
   cases e with
   |normal=>
    obtain⟨hm3,hi3⟩:=hp
    obtain⟨hr,hl4,hD4⟩:=fin none W3 _ hm3 (fun h=>h.1 rfl) (fun h=>h.2.1 rfl)
    refine⟨_,_,hr,.inl ⟨rfl,⟨hI _ _ _ hi3 (mp _ _),hl4,hD4⟩,?_,fun b hb=>?_⟩⟩
    ·have:=hm.size;have:=hm3.size;simp[World.putObj];omega
    ·have h1:=hm.block b (by have:=hK b hb;omega) (fun h=>h.2.2 hb)
     have h2:=hk12 b hb
     have h3:=hm3.block b (by have:=hK b hb;omega) (fun h=>h.2.2 hb)
     exact(K9 (hKne b hb).2).trans (h3.trans (h2.trans h1))
   |ret=>
    obtain⟨hm3,hi3⟩:=hp
    obtain⟨hr,hl4,hD4⟩:=fin (some .ret) W3 _ hm3 (fun h=>h.1 rfl) (fun h=>h.2 rfl)
    exact⟨_,_,hr,.inr ⟨rfl,.ret,hIx _ _ _ hi3 (mq _ _),hl4,hD4⟩⟩
   |exit id=>
    obtain⟨hm3,hi3⟩:=hp
    obtain⟨hr,hl4,hD4⟩:=fin (some (.exit id)) W3 _ hm3 (fun h=>h.1 rfl) (fun h=>h.2 rfl)
    exact⟨_,_,hr,.inr ⟨rfl,.exit id,hIx _ _ _ hi3 (mq _ _),hl4,hD4⟩⟩
   |goto t=>
    obtain⟨hm3,hi3⟩:=hp
    obtain⟨hr,hl4,hD4⟩:=fin (some (.goto t)) W3 _ hm3 (fun h=>h.1 rfl) (fun h=>h.2 rfl)
    exact⟨_,_,hr,.inr ⟨rfl,.goto t,hIx _ _ _ hi3 (mq _ _),hl4,hD4⟩⟩
   |panic ch=>exact hp.elim
   |outgrown=>exact hp.elim
  case behind=>
   have mp:∀(W3:World) (o:Obj),Mod (fun b=>T b∨b=w.heap.size∨b=w.heap.size+1) W3 (W3.putObj (w.heap.size+1) o):=fun W3 o=>(Mod.refl _ _).putObj (.inr (.inr rfl)) o
   have mq:∀(W3:World) (o:Obj),Mod (fun b=>b=w.heap.size∨b=w.heap.size+1) W3 (W3.putObj (w.heap.size+1) o):=fun W3 o=>(Mod.refl _ _).putObj (.inr rfl) o
   rintro e W2 ⟨⟨v,rfl⟩,(⟨⟨hi,hl,hk⟩,hE⟩|⟨c,hi,hl,hk⟩)⟩
   ·exact⟨none,_,by have:=run_endLoop (P:=P) hl (by rw[hrec];simp);rw[hrec]at this;exact this,hdone _ (hI _ _ _ hi (mp _ _)) (hEK _ _ hE (by simp[World.putObj]) (fun b hb=>K9 (hKne b hb).2)) ((K9 (by omega)).trans hk)⟩
   ·exact⟨some c,_,by have:=run_endLoop (P:=P) hl (by rw[hrec];simp);rw[hrec]at this;exact this,hstop c _ (hIx _ _ _ hi (mq _ _)) ((K9 (by omega)).trans hk)⟩
section
open Ieee
def dK:Nat:=1074
theorem least:double.leastPlace=-(dK:Int):=by decide
def Holds (x:Nat) (z:Int):Prop:=∃(s:Bool) (m p:Nat),double.read x= .number s m ((p:Int)-(dK:Int))/\signed s m p=z*((2 ^ dK:Nat):Int)
def sg (s:Bool):Int:=if s then-1 else 1
theorem cZ (s:Bool) (m p:Nat):signed s m p=sg s*((m*2 ^ p:Nat):Int):=by
 unfold signed sg;rw[Nat.shiftLeft_eq];cases s <;> simp
theorem JB (s:Bool) (n:Nat):(sg s*(n:Int)).natAbs=n:=by unfold sg;cases s <;> simp
theorem vg (neg:Bool) (n d k:Nat) (hd:d<=n.log2+2) (h:n=k*2 ^ d):Toward.even.cut neg n d=k:=by
 have hp:0< 2 ^ d:=Nat.pow_pos (by omega)
 unfold Toward.cut
 simp only[Nat.min_eq_left hd,Nat.shiftLeft_eq,Nat.one_mul]
 rw[h,Nat.mul_mod_left,Nat.mul_div_cancel _ hp]
 have h1:¬2 ^ d< 2*0:=by omega
 have h2:(2 ^ d==2*0)=false:=by simp
 simp[h2]
theorem AL {m a p q:Nat} (hm:m≠0) (ha:a≠0) (h:m*2 ^ p=a*2 ^ q):m.log2+p=a.log2+q:=by
 have m1:=Nat.log2_self_le hm
 have m2:=Nat.lt_log2_self (n:=m)
 have a1:=Nat.log2_self_le ha
 have a2:=Nat.lt_log2_self (n:=a)
 have pp:0< 2 ^ p:=Nat.pow_pos (by omega)
 have pq:0< 2 ^ q:=Nat.pow_pos (by omega)
 have x1:2 ^ (m.log2+p)<=m*2 ^ p:=by rw[Mt];exact LH _ m1
 have x2:m*2 ^ p< 2 ^ (m.log2+p+1):=by rw[show m.log2+p+1=m.log2+1+p by omega,Mt];exact Nat.mul_lt_mul_of_pos_right m2 pp
 have y1:2 ^ (a.log2+q)<=a*2 ^ q:=by rw[Mt];exact LH _ a1
 have y2:a*2 ^ q< 2 ^ (a.log2+q+1):=by rw[show a.log2+q+1=a.log2+1+q by omega,Mt];exact Nat.mul_lt_mul_of_pos_right a2 pq
 rw[h]at x1 x2
 have z1:=(Nat.pow_lt_pow_iff_right (a:=2) (by omega)).1 (Nat.lt_of_le_of_lt x1 y2)
 have z2:=(Nat.pow_lt_pow_iff_right (a:=2) (by omega)).1 (Nat.lt_of_le_of_lt y1 x2)
 omega
theorem CX (s:Bool) (r k:Nat) (h1:2 ^ 52<=k) (h2:k< 2 ^ 53) (h3:r<=1100):double.read (double.word s (r*2 ^ 52+k))= .number s k (-(dK:Int)+r):=by
 have e1:double.signWeight=9223372036854775808:=by decide
 have e2:double.binade=4503599627370496:=by decide
 have e3:double.infRung=9218868437227405312:=by decide
 have e4:=least
 have hw:double.word s (r*2 ^ 52+k)=(if s then 9223372036854775808 else 0)+(r*4503599627370496+k):=by
  unfold Format.word;rw[e1];cases s <;> simp
 unfold Format.read
 rw[hw,e1,e2,e3,e4]
 have hk1:4503599627370496<=k:=h1
 have hk2:k< 9007199254740992:=h2
 have hm:((if s then 9223372036854775808 else 0)+(r*4503599627370496+k)) %9223372036854775808=r*4503599627370496+k:=by cases s <;> simp <;> omega
 have hd:((if s then 9223372036854775808 else 0)+(r*4503599627370496+k))/9223372036854775808 %2=(if s then 1 else 0):=by cases s <;> simp <;> omega
 simp only[hm,hd]
 rw[if_neg (by omega),if_pos (by omega)]
 have q1:(r*4503599627370496+k) %4503599627370496=k-4503599627370496:=by omega
 have q2:(r*4503599627370496+k)/4503599627370496=r+1:=by omega
 rw[q1,q2]
 have q3:4503599627370496+(k-4503599627370496)=k:=by omega
 rw[q3]
 cases s <;> simp
theorem Dw (s:Bool):double.read (double.word s 0)= .number s 0 (((0:Nat):Int)-(dK:Int)):=by cases s <;> decide
theorem jA (s:Bool) (m p Q:Nat) (z:Int) (hz:z.natAbs< 2 ^ 53) (h:signed s m p=z*((2 ^ Q:Nat):Int)):Holds (double.nearest s m ((p:Int)-(Q:Int))) z:=by
 unfold Format.nearest
 by_cases hm:m=0
 ·rw[if_pos hm]
  refine⟨s,0,0,Dw s,?_⟩
  subst hm
  rw[cZ]at h ⊢
  have hp:((2 ^ Q:Nat):Int)≠0:=by exact_mod_cast Nat.ne_of_gt (Nat.pow_pos (n:=Q) (show 0< 2 by omega))
  have hz0:z=0:=by
   rw[Nat.zero_mul]at h
   have h2:z*((2 ^ Q:Nat):Int)=0:=by rw[<-h];simp
   rcases Int.mul_eq_zero.1 h2 with h3|h3
   ·exact h3
   ·exact absurd h3 hp
  rw[hz0];simp
 ·rw[if_neg hm]
  obtain⟨a,ha⟩:∃a,z.natAbs=a:=⟨_,rfl⟩
  rw[ha]at hz
  have hpow:0< 2 ^ Q:=Nat.pow_pos (by omega)
  have hma:m*2 ^ p=a*2 ^ Q:=by
   have h1:=congrArg Int.natAbs h
   rw[cZ,JB,Int.natAbs_mul,ha,Int.natAbs_natCast]at h1
   exact h1
  have ha0:a≠0:=by
   rintro rfl
   rw[Nat.zero_mul]at hma
   rcases Nat.mul_eq_zero.1 hma with h1|h1
   ·exact hm h1
   ·exact absurd h1 (Nat.ne_of_gt (Nat.pow_pos (by omega)))
  have hlog:=AL hm ha0 hma
  have hL:a.log2<=52:=by have:=(Nat.log2_lt ha0 (k:=53)).2 hz;omega
  obtain⟨L,hLe⟩:∃L,a.log2=L:=⟨_,rfl⟩
  rw[hLe]at hlog hL
  have a1:2 ^ L<=a:=by rw[<-hLe];exact Nat.log2_self_le ha0
  have a2:a< 2 ^ (L+1):=by rw[<-hLe];exact Nat.lt_log2_self
  have hb:dK=1074:=rfl
  have hlast:max ((p:Int)-(Q:Int)+(m.log2:Nat)-(double.fractionBits:Nat)) double.leastPlace=(L:Int)-52:=by
   rw[least,show double.fractionBits=52 from rfl,hb];omega
  simp only[hlast]
  obtain⟨K,hK⟩:∃K,a*2 ^ (52-L)=K:=⟨_,rfl⟩
  have hK1:2 ^ 52<=K:=by
   rw[<-hK]
   calc 2 ^ 52=2 ^ L*2 ^ (52-L):=by rw[<-Mt];congr 1;omega
    _<=_:=LH _ a1
  have hK2:K< 2 ^ 53:=by
   rw[<-hK]
   calc a*2 ^ (52-L)< 2 ^ (L+1)*2 ^ (52-L):=Nat.mul_lt_mul_of_pos_right a2 (Nat.pow_pos (by omega))
    _=2 ^ 53:=by rw[<-Mt];congr 1;omega
  have hkept:Toward.even.cut s (m <<< ((p:Int)-(Q:Int)-((L:Int)-52)).toNat) (((L:Int)-52)-((p:Int)-(Q:Int))).toNat=K:=by
   rw[Nat.shiftLeft_eq]
   by_cases hc:Q+L<=p+52
   ·rw[show(((L:Int)-52)-((p:Int)-(Q:Int))).toNat=0 by omega]
    refine vg _ _ _ _ (K8 _) ?_
    rw[Nat.pow_zero,Nat.mul_one,show((p:Int)-(Q:Int)-((L:Int)-52)).toNat=p+52-(Q+L)by omega,<-hK]
    have e:m*2 ^ (p+52-(Q+L))*2 ^ (Q+L)=a*2 ^ (52-L)*2 ^ (Q+L):=by
     rw[Mc,<-Mt,Mc,<-Mt,show p+52-(Q+L)+(Q+L)=p+52 by omega,show 52-L+(Q+L)=Q+52 by omega,Mt,Mt,<-Mc,hma,Mc]
    exact Nat.eq_of_mul_eq_mul_right (Nat.pow_pos (by omega)) e
   ·rw[show((p:Int)-(Q:Int)-((L:Int)-52)).toNat=0 by omega,show(((L:Int)-52)-((p:Int)-(Q:Int))).toNat=Q+L-(p+52)by omega,Nat.pow_zero,Nat.mul_one]
    refine vg _ _ _ _ (by omega) ?_
    rw[<-hK,Mc,<-Mt,show 52-L+(Q+L-(p+52))=Q-p by omega]
    have e:m*2 ^ p=a*2 ^ (Q-p)*2 ^ p:=by rw[hma,Mc,<-Mt];congr 2;omega
    exact Nat.eq_of_mul_eq_mul_right (Nat.pow_pos (by omega)) e
  rw[hkept,show((L:Int)-52-double.leastPlace).toNat=L+1022 by rw[least,hb];omega]
  have e2:double.binade=2 ^ 52:=by decide
  have e3:double.infRung=9218868437227405312:=by decide
  have hmin:min ((L+1022)*double.binade+K) double.infRung=(L+1022)*2 ^ 52+K:=by
   rw[e2,e3]
   exact Nat.min_eq_left (KY (Nat.add_le_add (LH _ (show L+1022<=1074 by omega)) (Nat.le_of_lt hK2)) (by decide))
  rw[hmin]
  refine⟨s,K,L+1022,?_,?_⟩
  ·rw[CX s (L+1022) K hK1 hK2 (by omega),show-(dK:Int)+((L+1022:Nat):Int)=((L+1022:Nat):Int)-(dK:Int)by omega]
  ·rw[cZ]at h ⊢
   have e4:K*2 ^ (L+1022)=a*2 ^ dK:=by
    rw[<-hK,Mc,<-Mt,show 52-L+(L+1022)=dK by rw[hb];omega]
   have e5:sg s*(a:Int)=z:=by
    have h1:(sg s*(a:Int))*((2 ^ Q:Nat):Int)=z*((2 ^ Q:Nat):Int):=by
     rw[<-h,hma,Int.mul_assoc];push_cast;rfl
    exact Int.eq_of_mul_eq_mul_right (by have:=Nat.ne_of_gt hpow;exact_mod_cast this) h1
   rw[e4,<-e5,Int.mul_assoc]
   push_cast;rfl
theorem lw (n:Int) (h:n.natAbs< 2 ^ 53):Holds (floatOfInt .f64 n) n:=by
 have h1:floatOfInt .f64 n=double.nearest (decide (n< 0)) n.natAbs (((0:Nat):Int)-((0:Nat):Int)):=rfl
 rw[h1]
 refine jA _ _ 0 0 n h ?_
 rw[cZ]
 unfold sg
 by_cases h2:n< 0
 ·rw[decide_eq_true h2,if_pos rfl];simp;omega
 ·rw[decide_eq_false h2,if_neg (by simp)];simp;omega
theorem rQ (s:Bool) (m p:Nat):signed (!s) m p=-signed s m p:=by rw[cZ,cZ];cases s <;> simp[sg]
theorem yV (s t:Bool) (m n p q:Nat):signed (s ^^ t) (m*n) (p+q)=signed s m p*signed t n q:=by
 rw[cZ,cZ,cZ]
 have e:((m*n*2 ^ (p+q):Nat):Int)=((m*2 ^ p:Nat):Int)*((n*2 ^ q:Nat):Int):=by
  rw[<-MI];congr 1;rw[Mt];ac_rfl
 rw[e]
 generalize ((m*2 ^ p:Nat):Int)=u
 generalize ((n*2 ^ q:Nat):Int)=v
 cases s <;> cases t <;> simp[sg,Int.neg_mul,Int.mul_neg]
theorem jc (s:Bool) (m p b:Nat) (h:b<=p):signed s m (p-b)*((2 ^ b:Nat):Int)=signed s m p:=by
 rw[cZ,cZ,Int.mul_assoc,<-MI,Mc,<-Mt,Nat.sub_add_cancel h]
theorem lS {x y:Nat} {a b:Int} (hx:Holds x a) (hy:Holds y b) (h:(a*b).natAbs< 2 ^ 53):∃r,floatBits .mul .f64 x y=some r/\Holds r (a*b):=by
 obtain⟨s,m,p,h1,h2⟩:=hx
 obtain⟨t,n,q,h3,h4⟩:=hy
 refine⟨double.nearest (s ^^ t) (m*n) ((p:Int)-(dK:Int)+((q:Int)-(dK:Int))),?_,?_⟩
 ·show double.mul x y=_
  unfold Format.mul
  rw[h1,h3];rfl
 ·rw[show(p:Int)-(dK:Int)+((q:Int)-(dK:Int))=((p+q:Nat):Int)-((dK+dK:Nat):Int)by omega]
  refine jA _ _ _ _ _ h ?_
  rw[yV,h2,h4,Mt,MI]
  generalize ((2 ^ dK:Nat):Int)=t
  ac_rfl
theorem vE {s t:Bool} {m n p q:Nat} {a b:Int} (h2:signed s m p=a*((2 ^ dK:Nat):Int)) (h4:signed t n q=b*((2 ^ dK:Nat):Int)) (h:(a+b).natAbs< 2 ^ 53):
  ∃r,((Datum.number s m ((p:Int)-(dK:Int))).sum (.number t n ((q:Int)-(dK:Int)))).map double.write=some r/\Holds r (a+b):=by
 obtain⟨c,hc⟩:∃c,min p q=c:=⟨_,rfl⟩
 have hbase:min ((p:Int)-(dK:Int)) ((q:Int)-(dK:Int))=(c:Int)-(dK:Int):=by omega
 obtain⟨T,hT⟩:∃T,signed s m (p-c)+signed t n (q-c)=T:=⟨_,rfl⟩
 have hT2:T*((2 ^ c:Nat):Int)=(a+b)*((2 ^ dK:Nat):Int):=by
  rw[<-hT,Int.add_mul,jc _ _ _ _ (by omega),jc _ _ _ _ (by omega),h2,h4,Int.add_mul]
 refine⟨double.nearest (if T=0 then s&&t else decide (T< 0)) T.natAbs ((c:Int)-(dK:Int)),?_,?_⟩
 ·unfold Datum.sum
  simp only[hbase]
  rw[show((p:Int)-(dK:Int)-((c:Int)-(dK:Int))).toNat=p-c by omega,show((q:Int)-(dK:Int)-((c:Int)-(dK:Int))).toNat=q-c by omega,hT]
  rfl
 ·refine jA _ _ _ _ _ h ?_
  rw[<-hT2,cZ]
  unfold sg
  by_cases h0:T=0
  ·subst h0;simp
  ·rw[if_neg h0]
   by_cases h5:T< 0
   ·rw[decide_eq_true h5,if_pos rfl,MI,<-Int.mul_assoc];congr 1;omega
   ·rw[decide_eq_false h5,if_neg (by simp),MI,<-Int.mul_assoc];congr 1;omega
theorem Dn {x y:Nat} {a b:Int} (hx:Holds x a) (hy:Holds y b) (h:(a+b).natAbs< 2 ^ 53):∃r,floatBits .add .f64 x y=some r/\Holds r (a+b):=by
 obtain⟨s,m,p,h1,h2⟩:=hx
 obtain⟨t,n,q,h3,h4⟩:=hy
 obtain⟨r,h5,h6⟩:=vE h2 h4 h
 refine⟨r,?_,h6⟩
 show double.add x y=_
 unfold Format.add
 rw[h1,h3];exact h5
theorem DR {x y:Nat} {a b:Int} (hx:Holds x a) (hy:Holds y b) (h:(a-b).natAbs< 2 ^ 53):∃r,floatBits .sub .f64 x y=some r/\Holds r (a-b):=by
 obtain⟨s,m,p,h1,h2⟩:=hx
 obtain⟨t,n,q,h3,h4⟩:=hy
 have h4':signed (!t) n q=(-b)*((2 ^ dK:Nat):Int):=by rw[rQ,h4,Int.neg_mul]
 obtain⟨r,h5,h6⟩:=vE h2 h4' (by rw[<-Int.sub_eq_add_neg];exact h)
 refine⟨r,?_,by rw[Int.sub_eq_add_neg];exact h6⟩
 show double.sub x y=_
 unfold Format.sub
 rw[h1,h3];exact h5
theorem lV {a b:Int} {n:Nat} (h:0< n):compare (a*(n:Int)) (b*(n:Int))=compare a b:=by
 have hn:(0:Int)< (n:Int):=by omega
 rcases Int.lt_trichotomy a b with h1|h1|h1
 ·rw[Int.compare_eq_lt.2 h1,Int.compare_eq_lt.2 (Int.mul_lt_mul_of_pos_right h1 hn)]
 ·subst h1;simp
 ·rw[Int.compare_eq_gt.2 h1,Int.compare_eq_gt.2 (Int.mul_lt_mul_of_pos_right h1 hn)]
theorem yG {x y:Nat} {a b:Int} (hx:Holds x a) (hy:Holds y b):double.order x y=some (compare a b):=by
 obtain⟨s,m,p,h1,h2⟩:=hx
 obtain⟨t,n,q,h3,h4⟩:=hy
 unfold Format.order
 rw[h1,h3]
 unfold Datum.order
 obtain⟨c,hc⟩:∃c,min p q=c:=⟨_,rfl⟩
 have hbase:min ((p:Int)-(dK:Int)) ((q:Int)-(dK:Int))=(c:Int)-(dK:Int):=by omega
 simp only[hbase]
 rw[show((p:Int)-(dK:Int)-((c:Int)-(dK:Int))).toNat=p-c by omega,show((q:Int)-(dK:Int)-((c:Int)-(dK:Int))).toNat=q-c by omega]
 congr 1
 rw[<-lV (n:=2 ^ c) (Nat.pow_pos (by omega)),jc _ _ _ _ (by omega),jc _ _ _ _ (by omega),h2,h4,lV (Nat.pow_pos (by omega))]
theorem holds_zero:Holds 0 0:=⟨false,0,0,by decide,by simp[signed]⟩
theorem FO (x:Nat):(x ^^^ 2 ^ 63) %2 ^ 63=x %2 ^ 63:=by
 rw[Nat.xor_mod_two_pow,Nat.mod_self,Nat.xor_zero]
theorem Fa (x:Nat):((x ^^^ 2 ^ 63)/2 ^ 63 %2==1)=!(x/2 ^ 63 %2==1):=by
 rw[<-Nat.shiftRight_eq_div_pow,Nat.shiftRight_xor_distrib,Nat.shiftRight_eq_div_pow,Nat.shiftRight_eq_div_pow,Nat.div_self (by decide)]
 generalize x/2 ^ 63=y
 have h:(y ^^^ 1) %2=(y %2) ^^^ 1:=Nat.xor_mod_two_pow (n:=1)
 rw[h]
 rcases Nat.mod_two_eq_zero_or_one y with h|h <;> simp[h]
theorem Fj {x:Nat} {s:Bool} {m:Nat} {e:Int} (h:double.read x= .number s m e):double.read (Op.negFloat .f64 x)= .number (!s) m e:=by
 have e1:double.signWeight=2 ^ 63:=by decide
 have e2:Op.negFloat .f64 x=x ^^^ 2 ^ 63:=rfl
 unfold Format.read at h ⊢
 rw[e2,e1,FO,Fa]
 rw[e1]at h
 generalize (x/2 ^ 63 %2==1)=a at h ⊢
 generalize x %2 ^ 63=r at h ⊢
 simp only at h ⊢
 split at h
 ·rename_i h1
  rw[if_pos h1]
  injection h with q1 q2 q3
  subst q1 q2 q3
  rfl
 ·rename_i h1
  rw[if_neg h1]
  split at h
  ·rename_i h2
   rw[if_pos h2]
   injection h with q1 q2 q3
   subst q1 q2 q3
   rfl
  ·split at h
   ·cases h
   ·cases h
theorem D9 {x:Nat} {a:Int} (h:Holds x a):Holds (Op.negFloat .f64 x) (-a):=by
 obtain⟨s,m,p,h1,h2⟩:=h
 exact⟨!s,m,p,Fj h1,by rw[rQ,h2,Int.neg_mul]⟩
theorem AQ {a b c d:Nat} {A B C D:Int} (ha:Holds a A) (hb:Holds b B) (hc:Holds c C) (hd:Holds d D) (h1:(A*C).natAbs< 2 ^ 53) (h2:(B*D).natAbs< 2 ^ 53) (h3:(A*C-B*D).natAbs< 2 ^ 53) (h4:(A*D).natAbs< 2 ^ 53) (h5:(B*C).natAbs< 2 ^ 53) (h6:(A*D+B*C).natAbs< 2 ^ 53):
  ∃re im,cMulBits a b c d=some (re,im)/\Holds im (A*D+B*C):=by
 obtain⟨ac,e1,g1⟩:=lS ha hc h1
 obtain⟨bd,e2,g2⟩:=lS hb hd h2
 obtain⟨re,e3,g3⟩:=DR g1 g2 h3
 obtain⟨ad,e4,g4⟩:=lS ha hd h4
 obtain⟨bc,e5,g5⟩:=lS hb hc h5
 obtain⟨im,e6,g6⟩:=Dn g4 g5 h6
 refine⟨re,im,?_,g6⟩
 unfold cMulBits
 rw[e1,Option.bind_some,e2,Option.bind_some,e3,Option.bind_some,e4,Option.bind_some,e5,Option.bind_some,e6]
 rfl
end
section
theorem dE {W w1:World} {B:Nat} (hb:Below B W w1):(∀b o,b< B->w1.cell? ⟨b,o,none⟩=W.cell? ⟨b,o,none⟩)/\(∀b o,b< B->w1.frozen? ⟨b,o,none⟩=W.frozen? ⟨b,o,none⟩)/\(∀b,b< W.heap.size->b< w1.heap.size):=
 ⟨(aO hb).1,(aO hb).2,fun _ h=>Nat.lt_of_lt_of_le h hb.size⟩
abbrev SB (w W:World):Prop:=(∀b o,b< w.heap.size->W.cell? ⟨b,o,none⟩=w.cell? ⟨b,o,none⟩)/\(∀b o,b< w.heap.size->W.frozen? ⟨b,o,none⟩=w.frozen? ⟨b,o,none⟩)/\w.heap.size<=W.heap.size/\Below w.heap.size w W
section
variable {w W W':World}
theorem SB.of (h:Below w.heap.size w W):SB w W:=⟨(aO h).1,(aO h).2,h.size,h⟩
theorem SB.bel (h:SB w W):Below w.heap.size w W:=h.2.2.2
theorem SB.init:SB w w.drew:=SB.of (KR _ _).drew
theorem SB.below (hb:Below W.heap.size W W') (h:SB w W):SB w W':=SB.of (aa h.bel hb)
theorem SB.alloc (x:Obj) (h:SB w W):SB w (W.alloc x):=SB.of (h.bel.alloc h.bel.size x)
theorem SB.le (hb:Below W.heap.size W W') (h:SB w W):w.heap.size<=W'.heap.size:=KY h.2.2.1 hb.size
end
theorem df (W:World) (t:TypeId) (cs:Array Value):Sl (W.alloc (.cells cs t)) (some ⟨W.heap.size,0,none⟩) cs.toList:=
 (Blk.new W t cs).sl 0 _ (by intro j u hu;simpa using hu)
end
theorem DN:prog.stoodInHeld 183=false:=by kernel_rfl
theorem o7:prog.eqGuardType prog.depth 183=false:=by kernel_rfl
def GY (a b:Ent):Bool:=decide (a≠b)
theorem pz (a b:Ent) (w:World):
  (binOp .neq 183 (.agg #[.int .i64 a.key,.int .i64 a.val,.bool a.dead]) (.agg #[.int .i64 b.key,.int .i64 b.val,.bool b.dead])).run prog w= .ok (.bool (GY a b)) w:=by
 have h1:=DN
 have h2:=o7
 have h3:=underlying183
 obtain⟨k,v,d⟩:=a
 obtain⟨k',v',d'⟩:=b
 simp only[go_sem,h1,h3]
 simp[go_sem,GY]
 by_cases hk:k=k' <;> by_cases hv:v=v' <;> by_cases hd:d=d' <;> simp[hk,hv,hd]
def bg (e:Ent):Bool:=e.dead&&(e.val !=0)
theorem Dp (e:Ent) (w:World):
  Calls prog 287 #[.agg #[.int .i64 e.key,.int .i64 e.val,.bool e.dead]] w fun r w'=>r= .returned (.bool (bg e))/\Below w.heap.size w w':=by
 obtain⟨k,v,d⟩:=e
 cases d
 ·go_enter func287,ntmps287
  go_wp2
  go_ret
  exact⟨rfl,(KR _ _).alloc (KS _) _⟩
 ·go_enter func287,ntmps287
  go_wp2
  go_ret
  exact⟨rfl,(KR _ _).alloc (KS _) _⟩
theorem tT (A:Option Addr) (l:List Ent) (c:Nat) (w:World) (hA:Sl w A (l.flatMap Ent.cells)) (hl:l.length<=4611686018427387903):
  Calls prog 295 #[.slice A l.length c,.func (.func 287) #[] #[]] w
   fun r w'=>(∃n:Int,r= .returned (.int .i64 n)/\decide (n≥0)=l.any bg)/\Below w.heap.size w w':=by
 go_enter func295,ntmps295
 go_wp2
 go_loopw [8] (fun i wr=>∃k:Nat,k<=l.length/\i= .int .i64 k/\Below w.heap.size w wr/\(l.take k).any bg=false) (fun i _=>l.length-(intOf i).toNat)
 case atStart=>exact⟨0,K8 _,rfl,KR _ _,rfl⟩
 case round=>
  obtain⟨k,hk,rfl,hb,hn⟩:=hrel
  by_cases hlt:k< l.length
  ·obtain⟨b,off,rfl,hbl,c1,c2,c3⟩:=(hA.below hb).ent k hlt
   go_wp2_with (go_at_call 287;refine(Dp (l[k]'hlt) _).mono ?_;rintro e w1 ⟨rfl,hb1⟩)
   ·have hbad:bg (l[k]'hlt)=true:=by assumption
    go_ret
    refine⟨⟨(k:Int),rfl,?_⟩,hb.trans (hb1.mono hb.size)⟩
    rw[List.any_eq_true.2 ⟨_,Lh hlt,hbad⟩]
    simp
   ·have hbad:bg (l[k]'hlt)=false:=by assumption
    go_roundw
    case rel=>exact⟨k+1,by omega,by go_num,hb.trans (hb1.mono hb.size),by rw[Lc hlt,List.any_append,hn];simp[hbad]⟩
    case measure=>simp[intOf];omega
  ·go_wp2
   go_ret
   refine⟨⟨-1,rfl,?_⟩,hb⟩
   rw[KZ (by omega)]at hn
   rw[hn];rfl
theorem oK (A:Option Addr) (l:List Ent) (c:Nat) (w:World) (hA:Sl w A (l.flatMap Ent.cells)) (hl:l.length<=4611686018427387903):
  Calls prog 286 #[.slice A l.length c,.func (.func 287) #[] #[]] w
   fun r w'=>r= .returned (.bool (l.any bg))/\Below w.heap.size w w':=by
 go_enter func286,ntmps286
 go_wp2_with (go_at_call 295;refine(tT A l c _ hA hl).mono ?_;rintro e w1 ⟨⟨n,rfl,hn⟩,hb⟩;have hH:=KO hn;clear hn)
 go_ret
 exact⟨aC (by rw[<-hH.out]),hb⟩
def bV (l:List Ent):Int:=if l.length>65536 then 4 else if l.any bg then 8 else 0
theorem kC (A:Option Addr) (l:List Ent) (c:Nat) (w:World) (hA:Sl w A (l.flatMap Ent.cells)) (hl:l.length<=4611686018427387903):
  Calls prog 280 #[.slice A l.length c] w fun r w'=>r= .returned (.int .i64 (bV l))/\Below w.heap.size w w':=by
 by_cases h1:l.length>65536
 ·go_enter func280,ntmps280
  go_wp2
  go_ret
  exact⟨aJ (by unfold bV;rw[if_pos h1]),KR _ _⟩
 ·go_enter func280,ntmps280
  go_wp2_with (go_at_call 286;refine(oK A l c _ hA hl).mono ?_;rintro e w1 ⟨rfl,hb⟩)
  ·have h2:l.any bg=true:=by assumption
   go_ret
   exact⟨aJ (by unfold bV;rw[if_neg h1,if_pos h2]),hb⟩
  ·have h2:l.any bg=false:=by assumption
   go_ret
   exact⟨aJ (by unfold bV;rw[if_neg h1,h2];rfl),hb⟩
def je (l:List Ent):Int:=if rises (l.map Ent.key)then 0 else 130
theorem mH (A:Option Addr) (l:List Ent) (c:Nat) (w:World) (hA:Sl w A (l.flatMap Ent.cells)) (hl:l.length<=4611686018427387903):
  Calls prog 281 #[.slice A l.length c] w fun r w'=>r= .returned (.int .i64 (je l))/\Below w.heap.size w w':=by
 go_enter func281,ntmps281
 go_wp2
 go_loopw [3] (fun i wr=>∃k:Nat,1<=k/\i= .int .i64 k/\Below w.heap.size w wr/\Hid (RiseTo (l.map Ent.key) k)) (fun i _=>l.length-(intOf i).toNat)
 case atStart=>exact⟨1,KS _,rfl,KR _ _,RiseTo.start _⟩
 case round=>
  obtain⟨k,hk,rfl,hb,hn⟩:=hrel
  by_cases hlt:k< l.length
  ·obtain⟨b,off,rfl,hbl,c1,c2,c3⟩:=(hA.below hb).ent k hlt
   obtain⟨b',off',e,_,d1,d2,d3⟩:=(hA.below hb).ent (k-1) (by omega)
   simp only[Option.some.injEq,Addr.mk.injEq]at e
   obtain⟨rfl,rfl,_⟩:=e
   have i0:(0:Int)<=(k:Int):=by omega
   have i1:(k:Int)< (l.length:Int):=by omega
   have i2:(0:Int)<=(k:Int)-1:=by omega
   have i3:(k:Int)-1< (l.length:Int):=by omega
   clear c2 c3 d2 d3 hA
   go_wp2
   go_quiet (fail)
   go_wp2
   ·have hx:(l[k]'hlt).key<=(l[k-1]'(by omega)).key:=by assumption
    go_ret
    refine⟨aJ ?_,ay hb _⟩
    unfold je
    rw[RiseTo.no hk (by simpa using hlt) (by simpa using hx)]
    rfl
   ·have hx:(l[k-1]'(by omega)).key< (l[k]'hlt).key:=by assumption
    go_roundw
    case rel=>exact⟨k+1,by omega,by go_num,ay hb _,hn.out.step hk (by simpa using hlt) (by simpa using hx)⟩
    case measure=>simp[intOf];omega
  ·go_wp2
   go_ret
   refine⟨aJ ?_,hb⟩
   unfold je
   rw[hn.out.all (by simp;omega)]
   rfl
def eG (n:Int):Bool:=decide (-67108864< n)&&decide (n< 67108864)
def iv (n:Int):Value:= .int .i64 n
theorem vF (A:Option Addr) (l:List Int) (c:Nat) (w:World) (hA:Sl w A (l.map iv)) (hl:l.length<=1000000) (hs:∀n∈l,eG n=true):
  Calls prog 228 #[.slice A l.length c] w fun r w'=>r= .returned (.bool true)/\w'=w:=by
 have HA:=KO hA
 have HS:=KO hs
 clear hA hs
 go_enter func228,ntmps228
 go_wp2
 go_loopw [7] (fun i wr=>∃k:Nat,k<=l.length/\i= .int .i64 k/\wr=w) (fun i _=>l.length-(intOf i).toNat)
 case atStart=>exact⟨0,K8 _,rfl,rfl⟩
 case round=>
  obtain⟨k,hk,rfl,hw⟩:=hrel
  have hw2:=hw.symm
  subst hw2
  by_cases hlt:k< l.length
  ·obtain⟨b,off,rfl,hbl,cp⟩:=HA.out.oneB (KR _ _) k hlt
   have hsm:=HS.out _ (Lh hlt)
   obtain⟨n,hn⟩:∃n,l[k]'hlt=n:=⟨_,rfl⟩
   rw[hn]at cp hsm
   unfold eG at hsm
   rw[Bool.and_eq_true,decide_eq_true_iff,decide_eq_true_iff]at hsm
   have cp1:w.cell? ⟨b,off+k,none⟩=some (.int .i64 n):=cp
   have g1:¬n<=-67108864:=by omega
   have g2:¬67108864<=n:=by omega
   have i0:(0:Int)<=(k:Int):=by omega
   have i1:(k:Int)< (l.length:Int):=by omega
   clear cp hsm hn
   go_wp2
   go_roundw
   case rel=>exact⟨k+1,by omega,by go_num,by first|trivial|rfl⟩
   case measure=>simp[intOf];omega
  ·go_wp2
   go_ret
   exact⟨rfl,rfl⟩
def zg (x:Int):Int:=if 0< x then 1 else if x< 0 then-1 else 0
theorem Dz (x:Nat) (w:World):(Op.unary .neg (.float .f64 x)).run prog w= .ok (.float .f64 (Op.negFloat .f64 x)) w:=by
 rfl
theorem qI {x y:Int} (hx:-67108864< x/\x< 67108864) (hy:-67108864< y/\y< 67108864):(x*y).natAbs< 2 ^ 52:=by
 rw[Int.natAbs_mul]
 have h1:x.natAbs< 2 ^ 26:=by omega
 have h2:y.natAbs< 2 ^ 26:=by omega
 have h3:=Nat.mul_lt_mul'' h1 h2
 simpa using h3
theorem JV (a b c d:Int):zg (a*d-b*c)=if 0< a*-d+b*c then-1 else if a*-d+b*c< 0 then 1 else 0:=by
 have h:a*-d=-(a*d):=Int.mul_neg a d
 rw[h]
 generalize a*d=p
 generalize b*c=q
 unfold zg
 split <;> split <;> first|omega|(split <;> omega)|rfl|(rw[if_pos (by omega)])
theorem uT (a b c d:Int) (w:World) (ha:eG a=true) (hb:eG b=true) (hc:eG c=true) (hd:eG d=true):
  Calls prog 222 #[.int .i64 a,.int .i64 b,.int .i64 c,.int .i64 d] w fun r w'=>r= .returned (.tuple #[.int .i64 (zg (a*d-b*c)),.int .i64 0])/\Below w.heap.size w w':=by
 have HS:Hid (∀n∈[a,b,c,d],eG n=true):=fun n hn=>by
  simp at hn
  rcases hn with rfl|rfl|rfl|rfl <;> assumption
 go_enter func222,ntmps222
 go_wp2_with fail
 refine(vF (some ⟨w.heap.size,0,none⟩) [a,b,c,d] 4 _ (by exact df _ _ _) (by simp) HS.out).mono ?_
 rintro e w1 ⟨rfl,hw1⟩
 subst hw1
 have hbd:=fun n (h:eG n=true)=>(show-67108864< n/\n< 67108864 by unfold eG at h;rw[Bool.and_eq_true,decide_eq_true_iff,decide_eq_true_iff]at h;exact h)
 have qa:=hbd a ha
 have qb:=hbd b hb
 have qc:=hbd c hc
 have qd:=hbd d hd
 obtain⟨fa,ha1⟩:∃x,floatOfInt .f64 a=x:=⟨_,rfl⟩
 obtain⟨fb,hb1⟩:∃x,floatOfInt .f64 b=x:=⟨_,rfl⟩
 obtain⟨fc,hc1⟩:∃x,floatOfInt .f64 c=x:=⟨_,rfl⟩
 obtain⟨fd,hd1⟩:∃x,floatOfInt .f64 d=x:=⟨_,rfl⟩
 have ga:Holds fa a:=by rw[<-ha1];exact lw a (by omega)
 have gb:Holds fb b:=by rw[<-hb1];exact lw b (by omega)
 have gc:Holds fc c:=by rw[<-hc1];exact lw c (by omega)
 have gd:Holds fd d:=by rw[<-hd1];exact lw d (by omega)
 have hn:=fun w=>Dz fd w
 have gn:=D9 gd
 obtain⟨fn,hfn⟩:∃x,Op.negFloat .f64 fd=x:=⟨_,rfl⟩
 rw[hfn]at hn gn
 have qn:-67108864< -d/\-d< 67108864:=by omega
 have p1:=qI qa qc
 have p2:=qI qb qn
 have p3:=qI qa qn
 have p4:=qI qb qc
 obtain⟨re,im,hcm,gi⟩:=AQ ga gb gc gn (by omega) (by omega) (by omega) (by omega) (by omega) (by omega)
 have hm:=fun w=>run_complex_mul (P:=prog) w 270 fa fb fc fn re im hcm
 have hord:FloatKind.f64.format.order im 0=some (compare (a*-d+b*c) 0):=yG gi holds_zero
 have HSG:=KO (JV a b c d)
 obtain⟨z,hz⟩:∃z,a*-d+b*c=z:=⟨_,rfl⟩
 rw[hz]at hord HSG
 have HB1:Hid (Below w.heap.size w (w.alloc (.cells #[.int .i64 a,.int .i64 b,.int .i64 c,.int .i64 d] 3))):=(KR _ _).alloc (KS _) _
 clear qa qb qc qd hbd HS ha hb hc hd hfn qn p1 p2 p3 p4 hcm hz gi
 by_cases z1:0< z
 ·rw[Int.compare_eq_gt.2 z1]at hord
  have HV:Hid (zg (a*d-b*c)=-1):=by show _=_;rw[HSG.out,if_pos z1]
  clear z1
  go_wp2_with fail
  refine bodyPost_ret (v:= .tuple #[.int .i64 (-1),.int .i64 0]) (by simp[results,results222,go_sem]) rfl ?_
  exact⟨by rw[HV.out],HB1.out⟩
 ·by_cases z2:z< 0
  ·rw[Int.compare_eq_lt.2 z2]at hord
   have HV:Hid (zg (a*d-b*c)=1):=by show _=_;rw[HSG.out,if_neg z1,if_pos z2]
   go_wp2_with fail
   refine bodyPost_ret (v:= .tuple #[.int .i64 1,.int .i64 0]) (by simp[results,results222,go_sem]) rfl ?_
   exact⟨by rw[HV.out],HB1.out⟩
  ·rw[Int.compare_eq_eq.2 (by omega)]at hord
   have HV:Hid (zg (a*d-b*c)=0):=by show _=_;rw[HSG.out,if_neg z1,if_neg z2]
   go_wp2_with fail
   refine bodyPost_ret (v:= .tuple #[.int .i64 0,.int .i64 0]) (by simp[results,results222,go_sem]) rfl ?_
   exact⟨by rw[HV.out],HB1.out⟩
def uv (n:Int):Value:= .int .u64 n
def Dr (w w':World):Prop:=∃j,w'=w.drewN j
theorem Dr.refl (w:World):Dr w w:=⟨0,rfl⟩
theorem Dr.step {w wr:World} (h:Dr w wr) (n:Nat):Dr w (wr.drewN n):=by obtain⟨j,rfl⟩:=h;exact⟨j+n,World.drewN_drewN _ _ _⟩
theorem Dr.below {w w':World} (h:Dr w w') {B:Nat}:Below B w w':=by obtain⟨j,rfl⟩:=h;exact ay (KR _ _) j
def iX (e:TypeId) (xs:List Value) (n:Nat) (w:World) (r:Ending) (w':World):Prop:=∃A c,r= .returned (.slice A n c)/\w'.ownsRow w.heap.size e 1 (.slice A n c) n xs/\Below w.heap.size w w'
theorem fT (f:Int->Value) (l:List Int) (hf:∀n,(f n).oneCell'=true):∀u∈l.map f,u.oneCell'=true:=by
 intro u hu
 obtain⟨n,_,rfl⟩:=List.mem_map.1 hu
 exact hf n
theorem zq {w:World} {f:Int->Value} {l:List Int} (h:Sl w none (l.map f)):l=[]:=by
 rcases h with h|⟨b,off,h,_⟩
 ·cases l with
  |nil=>rfl
  |cons a l=>simp at h
 ·cases h
theorem uJ {P a b:Prop} (_:a) (_:b) (h:P:=by
 by_cases hlen:l.length=m.length
 ·have hz:((l.length:Int)!=(m.length:Int))=false:=by simp[hlen]
  have hz2:(l.length:Int)<=(m.length:Int):=by omega
  have HL:=KO hlen
  clear hlen
  first|go_enter func122,ntmps122|go_enter func75,ntmps75|go_enter func123,ntmps123|go_enter func76,ntmps76|go_enter func146,ntmps146|go_enter func74,ntmps74
  go_wp2
  first|((first|have mz:=mk0|have mz:=mk2|have mz:=mk4);clear mz;go_loopw [13] (fun i wr=>∃k:Nat,k<=l.length/\i= .int .i64 k/\Below w.heap.size w wr/\Hid (l.take k=m.take k)/\Hid (Dr w wr)) (fun i _=>l.length-(intOf i).toNat))|((first|have mz:=mk1|have mz:=mk3|have mz:=mk5);clear mz;go_loopw [5] (fun i wr=>∃k:Nat,k<=l.length/\i= .int .i64 k/\Below w.heap.size w wr/\Hid (l.take k=m.take k)/\Hid (Dr w wr)) (fun i _=>l.length-(intOf i).toNat))
  case atStart=>exact⟨0,K8 _,rfl,KR _ _,rfl,Dr.refl _⟩
  case round=>
   obtain⟨k,hk,rfl,hb,hn,HDR⟩:=hrel
   by_cases hlt:k< l.length
   ·have hlt2:k< m.length:=by have:=HL.out;omega
    obtain⟨b,off,rfl,hbl,c1⟩:=hA.oneB hb k hlt
    obtain⟨b',off',rfl,hbl',d1⟩:=hB.oneB hb k hlt2
    obtain⟨x,hx⟩:∃x,l[k]'hlt=x:=⟨_,rfl⟩
    obtain⟨y,hy⟩:∃x,m[k]'hlt2=x:=⟨_,rfl⟩
    rw[hx]at c1
    rw[hy]at d1
    first|((first|have mz:=mk0|have mz:=mk1|have mz:=mk2|have mz:=mk3);clear mz;have c2:wr.cell? ⟨b,off+k,none⟩=some (.int .i64 x):=c1)|((first|have mz:=mk4|have mz:=mk5);clear mz;have c2:wr.cell? ⟨b,off+k,none⟩=some (.int .u64 x):=c1)
    first|((first|have mz:=mk0|have mz:=mk1|have mz:=mk2|have mz:=mk3);clear mz;have d2:wr.cell? ⟨b',off'+k,none⟩=some (.int .i64 y):=d1)|((first|have mz:=mk4|have mz:=mk5);clear mz;have d2:wr.cell? ⟨b',off'+k,none⟩=some (.int .u64 y):=d1)
    have HX:=KO hx
    have HY:=KO hy
    have i0:(0:Int)<=(k:Int):=by omega
    have i1:(k:Int)< (l.length:Int):=by omega
    have i2:(k:Int)< (m.length:Int):=by omega
    clear hA hB c1 d1 hx hy
    by_cases hxy:x=y
    ·have q1:(x !=y)=false:=by simpa using hxy
     have HXY:=KO hxy
     clear hxy
     go_wp2
     go_quiet (fail)
     go_wp2
     go_roundw
     case rel=>
      refine⟨k+1,by omega,by go_num,ay hb _,?_,HDR.out.step _⟩
      show _=_
      rw[Lc hlt,Lc hlt2,hn.out,HX.out,HY.out,HXY.out]
     case measure=>simp[intOf];omega
    ·have q1:(x !=y)=true:=by simpa using hxy
     have HXY:=KO hxy
     clear hxy
     go_wp2
     go_quiet (fail)
     go_wp2
     go_ret
     refine⟨aC ?_,HDR.out.step _⟩
     symm
     rw[decide_eq_false_iff_not]
     rintro rfl
     exact HXY.out (HX.out.symm.trans HY.out)
   ·go_wp2
    go_ret
    refine⟨aC ?_,HDR.out⟩
    have:=hn.out
    rw[KZ (by omega),KZ (by have:=HL.out;omega)]at this
    rw[this,decide_eq_true rfl]
 ·have hz:((l.length:Int)!=(m.length:Int))=true:=by simp;omega
  have HL:=KO hlen
  clear hlen
  first|go_enter func122,ntmps122|go_enter func75,ntmps75|go_enter func123,ntmps123|go_enter func76,ntmps76|go_enter func146,ntmps146|go_enter func74,ntmps74
  go_wp2
  go_ret
  refine⟨aC ?_,Dr.refl _⟩
  symm
  rw[decide_eq_false_iff_not]
  rintro rfl
  exact HL.out rfl):P:=h
theorem vG (A B:Option Addr) (l m:List Int) (c d:Nat) (w:World) (hA:Sl w A (l.map iv)) (hB:Sl w B (m.map iv)) (hl:l.length<=4611686018427387903) (hm:m.length<=4611686018427387903):
  Calls prog 122 #[.slice A l.length c,.slice B m.length d] w fun r w'=>r= .returned (.bool (decide (l=m)))/\Dr w w':=by
 have mk0:=()
 exact uJ hl hm
theorem rF:(prog.info? 2).map (fun i=>(i.zero,i.size,i.bytes))=some (some (.int .i64 0),1,8):=by kernel_rfl
theorem mX (A:Option Addr) (l:List Int) (c:Nat) (w:World) (hA:Sl w A (l.map iv)) (hl:l.length<=1000000):
  Calls prog 127 #[.slice A l.length c] w (iX 2 (l.map iv) l.length w):=by
 obtain⟨i0,hi,hz0,hz1,hz2⟩:=info_parts rF
 have hn:(binOp .eql 26 (.slice A l.length c) (.slice none 0 0)).run prog w= .ok (.bool A.isNone) w:=Nb w _ _ A l.length c _ _ underlying26
 cases A with
 |none=>
  have hnil:=zq hA
  subst hnil
  have hn2:∀n,(binOp .eql 26 (.slice none n c) (.slice none 0 0)).run prog w= .ok (.bool true) w:=fun n=>Nb w _ _ none n c _ _ underlying26
  clear hn
  go_enter func127,ntmps127
  go_wp2
  go_ret
  exact⟨none,0,rfl,Li _ _ _ _,KR _ _⟩
 |some a=>
  have hb0:Below w.heap.size w (w.alloc (.cells #[] 2)):=(KR _ _).alloc (KS _) _
  have hown0:(w.alloc (.cells #[] 2)).ownsRow w.heap.size 2 1 (.slice (some ⟨w.heap.size,0,none⟩) 0 0) 0 []:=MS w #[] 0 (KS _) (K8 _) rfl
  go_enter func127,ntmps127
  go_wp2_with (at_builtin;refine ag _ rfl (.tmp 5) (.tmp 6) _ rfl w.heap.size 2 i0 _ 1 8 underlying26 hi hz0 hz1 hz2 rfl (by omega) (.slice (some ⟨w.heap.size,0,none⟩) 0 0) 0 [] rfl hown0 (some a) l.length c (l.map iv) rfl (hA.below hb0) (by simp) (fT iv l (fun _=>rfl)) (by unfold maxLen;omega) (by omega) (by simp) ?_;intro v1 w1 hown1 hg1;simp only[Mx,LA]at hown1;obtain⟨A1,c1,rfl,-,-⟩:=ak hown1)
  go_ret
  exact⟨A1,c1,rfl,hown1,hb0.grown hg1 (by simp) (fun k hk=>(hown0.lt k hk).1)⟩
theorem jY (A B:Option Addr) (l m:List Int) (c d:Nat) (w:World) (hA:Sl w A (l.map iv)) (hB:Sl w B (m.map iv)) (hl:l.length<=4611686018427387903) (hm:m.length<=4611686018427387903):
  Calls prog 75 #[.slice A l.length c,.slice B m.length d] w fun r w'=>r= .returned (.bool (decide (l=m)))/\Dr w w':=by
 have mk1:=()
 exact uJ hl hm
theorem CQ (A B:Option Addr) (l m:List Int) (c d:Nat) (w:World) (hA:Sl w A (l.map iv)) (hB:Sl w B (m.map iv)) (hl:l.length<=4611686018427387903) (hm:m.length<=4611686018427387903):
  Calls prog 123 #[.slice A l.length c,.slice B m.length d] w fun r w'=>r= .returned (.bool (decide (l=m)))/\Dr w w':=by
 have mk2:=()
 exact uJ hl hm
theorem sH:(prog.info? 3).map (fun i=>(i.zero,i.size,i.bytes))=some (some (.int .i64 0),1,8):=by kernel_rfl
theorem sU (A:Option Addr) (l:List Int) (c:Nat) (w:World) (hA:Sl w A (l.map iv)) (hl:l.length<=1000000):
  Calls prog 128 #[.slice A l.length c] w (iX 3 (l.map iv) l.length w):=by
 obtain⟨i0,hi,hz0,hz1,hz2⟩:=info_parts sH
 have hn:(binOp .eql 27 (.slice A l.length c) (.slice none 0 0)).run prog w= .ok (.bool A.isNone) w:=Nb w _ _ A l.length c _ _ underlying27
 cases A with
 |none=>
  have hnil:=zq hA
  subst hnil
  have hn2:∀n,(binOp .eql 27 (.slice none n c) (.slice none 0 0)).run prog w= .ok (.bool true) w:=fun n=>Nb w _ _ none n c _ _ underlying27
  clear hn
  go_enter func128,ntmps128
  go_wp2
  go_ret
  exact⟨none,0,rfl,Li _ _ _ _,KR _ _⟩
 |some a=>
  have hb0:Below w.heap.size w (w.alloc (.cells #[] 3)):=(KR _ _).alloc (KS _) _
  have hown0:(w.alloc (.cells #[] 3)).ownsRow w.heap.size 3 1 (.slice (some ⟨w.heap.size,0,none⟩) 0 0) 0 []:=MS w #[] 0 (KS _) (K8 _) rfl
  go_enter func128,ntmps128
  go_wp2_with (at_builtin;refine ag _ rfl (.tmp 5) (.tmp 6) _ rfl w.heap.size 3 i0 _ 1 8 underlying27 hi hz0 hz1 hz2 rfl (by omega) (.slice (some ⟨w.heap.size,0,none⟩) 0 0) 0 [] rfl hown0 (some a) l.length c (l.map iv) rfl (hA.below hb0) (by simp) (fT iv l (fun _=>rfl)) (by unfold maxLen;omega) (by omega) (by simp) ?_;intro v1 w1 hown1 hg1;simp only[Mx,LA]at hown1;obtain⟨A1,c1,rfl,-,-⟩:=ak hown1)
  go_ret
  exact⟨A1,c1,rfl,hown1,hb0.grown hg1 (by simp) (fun k hk=>(hown0.lt k hk).1)⟩
theorem nQ (A B:Option Addr) (l m:List Int) (c d:Nat) (w:World) (hA:Sl w A (l.map iv)) (hB:Sl w B (m.map iv)) (hl:l.length<=4611686018427387903) (hm:m.length<=4611686018427387903):
  Calls prog 76 #[.slice A l.length c,.slice B m.length d] w fun r w'=>r= .returned (.bool (decide (l=m)))/\Dr w w':=by
 have mk3:=()
 exact uJ hl hm
theorem He (A B:Option Addr) (l m:List Int) (c d:Nat) (w:World) (hA:Sl w A (l.map uv)) (hB:Sl w B (m.map uv)) (hl:l.length<=4611686018427387903) (hm:m.length<=4611686018427387903):
  Calls prog 146 #[.slice A l.length c,.slice B m.length d] w fun r w'=>r= .returned (.bool (decide (l=m)))/\Dr w w':=by
 have mk4:=()
 exact uJ hl hm
theorem EZ:(prog.info? 22).map (fun i=>(i.zero,i.size,i.bytes))=some (some (.int .u64 0),1,8):=by kernel_rfl
theorem AP (A:Option Addr) (l:List Int) (c:Nat) (w:World) (hA:Sl w A (l.map uv)) (hl:l.length<=1000000):
  Calls prog 126 #[.slice A l.length c] w (iX 22 (l.map uv) l.length w):=by
 obtain⟨i0,hi,hz0,hz1,hz2⟩:=info_parts EZ
 have hn:(binOp .eql 25 (.slice A l.length c) (.slice none 0 0)).run prog w= .ok (.bool A.isNone) w:=Nb w _ _ A l.length c _ _ underlying25
 cases A with
 |none=>
  have hnil:=zq hA
  subst hnil
  have hn2:∀n,(binOp .eql 25 (.slice none n c) (.slice none 0 0)).run prog w= .ok (.bool true) w:=fun n=>Nb w _ _ none n c _ _ underlying25
  clear hn
  go_enter func126,ntmps126
  go_wp2
  go_ret
  exact⟨none,0,rfl,Li _ _ _ _,KR _ _⟩
 |some a=>
  have hb0:Below w.heap.size w (w.alloc (.cells #[] 22)):=(KR _ _).alloc (KS _) _
  have hown0:(w.alloc (.cells #[] 22)).ownsRow w.heap.size 22 1 (.slice (some ⟨w.heap.size,0,none⟩) 0 0) 0 []:=MS w #[] 0 (KS _) (K8 _) rfl
  go_enter func126,ntmps126
  go_wp2_with (at_builtin;refine ag _ rfl (.tmp 5) (.tmp 6) _ rfl w.heap.size 22 i0 _ 1 8 underlying25 hi hz0 hz1 hz2 rfl (by omega) (.slice (some ⟨w.heap.size,0,none⟩) 0 0) 0 [] rfl hown0 (some a) l.length c (l.map uv) rfl (hA.below hb0) (by simp) (fT uv l (fun _=>rfl)) (by unfold maxLen;omega) (by omega) (by simp) ?_;intro v1 w1 hown1 hg1;simp only[Mx,LA]at hown1;obtain⟨A1,c1,rfl,-,-⟩:=ak hown1)
  go_ret
  exact⟨A1,c1,rfl,hown1,hb0.grown hg1 (by simp) (fun k hk=>(hown0.lt k hk).1)⟩
theorem vM (A B:Option Addr) (l m:List Int) (c d:Nat) (w:World) (hA:Sl w A (l.map uv)) (hB:Sl w B (m.map uv)) (hl:l.length<=4611686018427387903) (hm:m.length<=4611686018427387903):
  Calls prog 74 #[.slice A l.length c,.slice B m.length d] w fun r w'=>r= .returned (.bool (decide (l=m)))/\Dr w w':=by
 have mk5:=()
 exact uJ hl hm
theorem zC (k a b r s:Nat) (hr:r< 2 ^ k) (hs:s< 2 ^ k):(2 ^ k*a+r)&&& (2 ^ k*b+s)=2 ^ k*(a&&& b)+(r&&& s):=by
 apply Nat.eq_of_testBit_eq
 intro i
 have h3:r&&& s< 2 ^ k:=Nat.lt_of_le_of_lt Nat.and_le_left hr
 rw[Nat.testBit_and,Nat.testBit_two_pow_mul_add a hr,Nat.testBit_two_pow_mul_add b hs,Nat.testBit_two_pow_mul_add _ h3]
 by_cases h:i< k
 ·rw[if_pos h,if_pos h,if_pos h,Nat.testBit_and]
 ·rw[if_neg h,if_neg h,if_neg h,Nat.testBit_and]
def pc:Nat->Nat->Nat
 |0,_=>0
 |n+1,x=>x %2+pc n (x/2)
theorem jg:∀(n x:Nat),pc n x<=n
 |0,_=>KS _
 |n+1,x=>by rw[pc];have:=jg n (x/2);omega
theorem jr:∀(m n x:Nat),pc (m+n) x=pc m x+pc n (x/2 ^ m)
 |0,n,x=>by simp[pc]
 |m+1,n,x=>by
  rw[show m+1+n=(m+n)+1 from by omega,pc,pc,jr m n (x/2),Md,MO,LQ 2]
  omega
def uS (w r:Nat):Nat->Nat
 |0=>0
 |n+1=>2 ^ w*uS w r n+r
def cnts (w:Nat):Nat->Nat->Nat
 |0,_=>0
 |n+1,x=>2 ^ w*cnts w n (x/2 ^ w)+pc w x
theorem kV (k a b r s:Nat) (hr:r< 2 ^ k) (hs:s< 2 ^ k) (x:Nat) (hx:x=2 ^ k*a+r):x&&& (2 ^ k*b+s)=2 ^ k*(a&&& b)+(r&&& s):=hx ▸ zC k a b r s hr hs
theorem J9 (r:Nat):r&&& 3=r %4:=Nat.and_two_pow_sub_one_eq_mod r 2
theorem and1 (r:Nat):r&&& 1=r %2:=Nat.and_two_pow_sub_one_eq_mod r 1
theorem Ko (r:Nat):r&&& 15=r %16:=Nat.and_two_pow_sub_one_eq_mod r 4
theorem step1:∀(n x:Nat),(x/2&&& uS 2 1 n)+(x&&& uS 2 1 n)=cnts 2 n x
 |0,x=>by simp[uS,cnts]
 |n+1,x=>by
  have h1:=kV 2 (x/4/2) (uS 2 1 n) (2*(x/4 %2)+x %4/2) 1 (by omega) (by omega) (x/2) (by omega)
  have h2:=kV 2 (x/4) (uS 2 1 n) (x %4) 1 (by omega) (by omega) x (by omega)
  have h3:=step1 n (x/4)
  rw[uS,h1,h2,cnts,show(2:Nat) ^ 2=4 from rfl,<-h3,and1,and1]
  have h4:pc 2 x=x %2+(x/2 %2+0):=by simp[pc]
  rw[h4]
  omega
theorem step2:∀(n x:Nat),(cnts 2 (2*n) x/4&&& uS 4 3 n)+(cnts 2 (2*n) x&&& uS 4 3 n)=cnts 4 n x
 |0,x=>by simp[uS,cnts]
 |n+1,x=>by
  have hc:cnts 2 (2*(n+1)) x=16*cnts 2 (2*n) (x/16)+4*pc 2 (x/4)+pc 2 x:=by
   rw[show 2*(n+1)=2*n+1+1 from by omega,cnts,cnts,Md,show(2:Nat) ^ 2*2 ^ 2=16 from rfl,show(2:Nat) ^ 2=4 from rfl]
   omega
  have b1:=jg 2 (x/4)
  have b2:=jg 2 x
  have hp:pc 4 x=pc 2 x+pc 2 (x/4):=jr 2 2 x
  have h3:=step2 n (x/16)
  generalize cnts 2 (2*n) (x/16)=q at*
  generalize pc 2 (x/4)=p1 at*
  generalize pc 2 x=p0 at*
  generalize cnts 2 (2*(n+1)) x=y at*
  have h1:=kV 4 (q/4) (uS 4 3 n) (4*(q %4)+p1) 3 (by omega) (by omega) (y/4) (by omega)
  have h2:=kV 4 q (uS 4 3 n) (4*p1+p0) 3 (by omega) (by omega) y (by omega)
  have e1:(4*(q %4)+p1) %4=p1:=by omega
  have e2:(4*p1+p0) %4=p0:=by omega
  rw[uS,h1,h2,cnts,hp,J9,J9,e1,e2,show(2:Nat) ^ 4=16 from rfl,<-h3]
  omega
theorem Ja:∀(n x:Nat),((cnts 4 (2*n) x/16+cnts 4 (2*n) x)&&& uS 8 15 n)=cnts 8 n x
 |0,x=>by simp[uS,cnts]
 |n+1,x=>by
  have hc:cnts 4 (2*(n+1)) x=256*cnts 4 (2*n) (x/256)+16*pc 4 (x/16)+pc 4 x:=by
   rw[show 2*(n+1)=2*n+1+1 from by omega,cnts,cnts,Md,show(2:Nat) ^ 4*2 ^ 4=256 from rfl,show(2:Nat) ^ 4=16 from rfl]
   omega
  have b1:=jg 4 (x/16)
  have b2:=jg 4 x
  have hp:pc 8 x=pc 4 x+pc 4 (x/16):=jr 4 4 x
  have h3:=Ja n (x/256)
  have b3:cnts 4 (2*n) (x/256) %16<=4:=by
   cases n with
   |zero=>simp[cnts]
   |succ n=>
    rw[show 2*(n+1)=2*n+1+1 from by omega,cnts]
    have:=jg 4 (x/256)
    omega
  generalize cnts 4 (2*n) (x/256)=q at*
  generalize pc 4 (x/16)=p1 at*
  generalize pc 4 x=p0 at*
  generalize cnts 4 (2*(n+1)) x=y at*
  have h1:=kV 8 (q/16+q) (uS 8 15 n) (16*(q %16)+p1+16*p1+p0) 15 (by omega) (by omega) (y/16+y) (by omega)
  rw[uS,h1,cnts,hp,Ko,show(2:Nat) ^ 8=256 from rfl,<-h3]
  omega
theorem vW {lo hi m:Nat} (h:lo< m):(lo+m*hi)/m=hi:=by rw[Nat.add_mul_div_left _ _ (by omega),Nat.div_eq_of_lt h,Mx]
theorem KI (e0 e1 e2 e3 e4 e5 e6 e7:Nat) (b0:e0<=8):((e0)+256*(e1)+65536*(e2)+16777216*(e3)+4294967296*(e4)+1099511627776*(e5)+281474976710656*(e6)+72057594037927936*(e7))/256=(e1)+256*(e2)+65536*(e3)+16777216*(e4)+4294967296*(e5)+1099511627776*(e6)+281474976710656*(e7):=by
 rw[show(e0)+256*(e1)+65536*(e2)+16777216*(e3)+4294967296*(e4)+1099511627776*(e5)+281474976710656*(e6)+72057594037927936*(e7)=e0+256*((e1)+256*(e2)+65536*(e3)+16777216*(e4)+4294967296*(e5)+1099511627776*(e6)+281474976710656*(e7))from by clear b0;omega]
 exact vW (by omega)
theorem KG (e0 e1 e2 e3 e4 e5 e6 e7:Nat) (h:((e0+e1)+256*(e1+e2))< 65536):((e0+e1)+256*(e1+e2)+65536*(e2+e3)+16777216*(e3+e4)+4294967296*(e4+e5)+1099511627776*(e5+e6)+281474976710656*(e6+e7)+72057594037927936*(e7))/65536=(e2+e3)+256*(e3+e4)+65536*(e4+e5)+16777216*(e5+e6)+4294967296*(e6+e7)+1099511627776*(e7):=by
 rw[show(e0+e1)+256*(e1+e2)+65536*(e2+e3)+16777216*(e3+e4)+4294967296*(e4+e5)+1099511627776*(e5+e6)+281474976710656*(e6+e7)+72057594037927936*(e7)=((e0+e1)+256*(e1+e2))+65536*((e2+e3)+256*(e3+e4)+65536*(e4+e5)+16777216*(e5+e6)+4294967296*(e6+e7)+1099511627776*(e7))from by clear h;omega]
 exact vW h
theorem KN (e0 e1 e2 e3 e4 e5 e6 e7:Nat) (h:((e0+e1+e2+e3)+256*(e1+e2+e3+e4)+65536*(e2+e3+e4+e5)+16777216*(e3+e4+e5+e6))< 4294967296):((e0+e1+e2+e3)+256*(e1+e2+e3+e4)+65536*(e2+e3+e4+e5)+16777216*(e3+e4+e5+e6)+4294967296*(e4+e5+e6+e7)+1099511627776*(e5+e6+e7)+281474976710656*(e6+e7)+72057594037927936*(e7))/4294967296=(e4+e5+e6+e7)+256*(e5+e6+e7)+65536*(e6+e7)+16777216*(e7):=by
 rw[show(e0+e1+e2+e3)+256*(e1+e2+e3+e4)+65536*(e2+e3+e4+e5)+16777216*(e3+e4+e5+e6)+4294967296*(e4+e5+e6+e7)+1099511627776*(e5+e6+e7)+281474976710656*(e6+e7)+72057594037927936*(e7)=((e0+e1+e2+e3)+256*(e1+e2+e3+e4)+65536*(e2+e3+e4+e5)+16777216*(e3+e4+e5+e6))+4294967296*((e4+e5+e6+e7)+256*(e5+e6+e7)+65536*(e6+e7)+16777216*(e7))from by clear h;omega]
 exact vW h
theorem KH (e0 e1 e2 e3 e4 e5 e6 e7:Nat):((e0)+256*(e1)+65536*(e2)+16777216*(e3)+4294967296*(e4)+1099511627776*(e5)+281474976710656*(e6)+72057594037927936*(e7))+((e1)+256*(e2)+65536*(e3)+16777216*(e4)+4294967296*(e5)+1099511627776*(e6)+281474976710656*(e7))=(e0+e1)+256*(e1+e2)+65536*(e2+e3)+16777216*(e3+e4)+4294967296*(e4+e5)+1099511627776*(e5+e6)+281474976710656*(e6+e7)+72057594037927936*(e7):=by omega
theorem KL (e0 e1 e2 e3 e4 e5 e6 e7:Nat):((e0+e1)+256*(e1+e2)+65536*(e2+e3)+16777216*(e3+e4)+4294967296*(e4+e5)+1099511627776*(e5+e6)+281474976710656*(e6+e7)+72057594037927936*(e7))+((e2+e3)+256*(e3+e4)+65536*(e4+e5)+16777216*(e5+e6)+4294967296*(e6+e7)+1099511627776*(e7))=(e0+e1+e2+e3)+256*(e1+e2+e3+e4)+65536*(e2+e3+e4+e5)+16777216*(e3+e4+e5+e6)+4294967296*(e4+e5+e6+e7)+1099511627776*(e5+e6+e7)+281474976710656*(e6+e7)+72057594037927936*(e7):=by omega
theorem KM (e0 e1 e2 e3 e4 e5 e6 e7:Nat):((e0+e1+e2+e3)+256*(e1+e2+e3+e4)+65536*(e2+e3+e4+e5)+16777216*(e3+e4+e5+e6)+4294967296*(e4+e5+e6+e7)+1099511627776*(e5+e6+e7)+281474976710656*(e6+e7)+72057594037927936*(e7))+((e4+e5+e6+e7)+256*(e5+e6+e7)+65536*(e6+e7)+16777216*(e7))=(e0+e1+e2+e3+e4+e5+e6+e7)+128*(2*(e1+e2+e3+e4)+512*(e2+e3+e4+e5)+131072*(e3+e4+e5+e6)+33554432*(e4+e5+e6+e7)+8589934592*(e5+e6+e7)+2199023255552*(e6+e7)+562949953421312*(e7)+2*(e5+e6+e7)+512*(e6+e7)+131072*(e7)):=by omega
theorem JI (s e0 e1 e2 e3 e4 e5 e6 e7:Nat) (b0:e0<=8) (b1:e1<=8) (b2:e2<=8) (b3:e3<=8) (b4:e4<=8) (b5:e5<=8) (b6:e6<=8) (b7:e7<=8) (hs:s=(e0)+256*(e1)+65536*(e2)+16777216*(e3)+4294967296*(e4)+1099511627776*(e5)+281474976710656*(e6)+72057594037927936*(e7)):((s+s/256)+(s+s/256)/65536+((s+s/256)+(s+s/256)/65536)/4294967296) %128=e0+e1+e2+e3+e4+e5+e6+e7:=by
 have h2:((e0+e1)+256*(e1+e2))< 65536:=by clear hs;omega
 have h3:((e0+e1+e2+e3)+256*(e1+e2+e3+e4)+65536*(e2+e3+e4+e5)+16777216*(e3+e4+e5+e6))< 4294967296:=by clear hs h2;omega
 have h4:e0+e1+e2+e3+e4+e5+e6+e7< 128:=by clear hs h2 h3;omega
 have h5:s+s/256=(e0+e1)+256*(e1+e2)+65536*(e2+e3)+16777216*(e3+e4)+4294967296*(e4+e5)+1099511627776*(e5+e6)+281474976710656*(e6+e7)+72057594037927936*(e7):=by rw[hs,KI _ _ _ _ _ _ _ _ b0,KH]
 rw[h5,KG _ _ _ _ _ _ _ _ h2,KL,KN _ _ _ _ _ _ _ _ h3,KM,Nat.add_mul_mod_self_left,Nat.mod_eq_of_lt h4]
theorem J8 (x:Nat):cnts 8 8 x=(pc 8 x)+256*(pc 8 (x/256))+65536*(pc 8 (x/65536))+16777216*(pc 8 (x/16777216))+4294967296*(pc 8 (x/4294967296))+1099511627776*(pc 8 (x/1099511627776))+281474976710656*(pc 8 (x/281474976710656))+72057594037927936*(pc 8 (x/72057594037927936)):=by
 simp only[cnts,Md,Nat.reduceMul,Nat.reducePow]
 omega
theorem KE (x:Nat):pc 64 x=pc 8 x+pc 8 (x/256)+pc 8 (x/65536)+pc 8 (x/16777216)+pc 8 (x/4294967296)+pc 8 (x/1099511627776)+pc 8 (x/281474976710656)+pc 8 (x/72057594037927936):=by
 rw[show 64=8+56 from rfl,jr,show 56=8+48 from rfl,jr,show 48=8+40 from rfl,jr,show 40=8+32 from rfl,jr,show 32=8+24 from rfl,jr,show 24=8+16 from rfl,jr,show 16=8+8 from rfl,jr]
 simp only[Md,Nat.reduceMul,Nat.reducePow]
 omega
theorem Kq (x:Nat):((cnts 8 8 x+cnts 8 8 x/256)+(cnts 8 8 x+cnts 8 8 x/256)/65536+((cnts 8 8 x+cnts 8 8 x/256)+(cnts 8 8 x+cnts 8 8 x/256)/65536)/4294967296) %128=pc 64 x:=by
 rw[JI (cnts 8 8 x) _ _ _ _ _ _ _ _ (jg 8 _) (jg 8 _) (jg 8 _) (jg 8 _) (jg 8 _) (jg 8 _) (jg 8 _) (jg 8 _) (J8 x),KE]
theorem Hz (x:Nat):∀s1 s2 s3 a b:Nat,s1=(x/2&&& 6148914691236517205)+(x&&& 6148914691236517205)->s2=(s1/4&&& 3689348814741910323)+(s1&&& 3689348814741910323)->s3=(s2/16+s2)&&& 1085102592571150095->a=s3+s3/256->b=a+a/65536->(b+b/4294967296) %128=pc 64 x:=by
 intro s1 s2 s3 a b h1 h2 h3 h4 h5
 have e1:uS 2 1 32=6148914691236517205:=by decide
 have e2:uS 4 3 16=3689348814741910323:=by decide
 have e3:uS 8 15 8=1085102592571150095:=by decide
 rw[<-e1,step1 32 x]at h1
 rw[<-e2,h1,step2 16 x]at h2
 rw[<-e3,h2,Ja 8 x]at h3
 rw[h5,h4,h3]
 exact Kq x
theorem Ca:∀n,pc n 0=0
 |0=>rfl
 |n+1=>by rw[pc,Nat.zero_div,Ca n]
theorem Fy:∀(m n x:Nat),m<=n->pc n (x %2 ^ m)=pc m x
 |0,n,x,_=>by rw[Nat.pow_zero,Nat.mod_one,Ca,pc]
 |m+1,n+1,x,h=>by
  rw[pc,pc,<-Fy m n (x/2) (by omega)]
  have h1:x %2 ^ (m+1) %2=x %2:=by rw[MO,LQ];exact Nat.mod_mul_right_mod x 2 (2 ^ m)
  have h2:x %2 ^ (m+1)/2=x/2 %2 ^ m:=by rw[MO,LQ];exact Nat.mod_mul_right_div_self x 2 (2 ^ m)
  rw[h1,h2]
theorem Fq:∀(l n x:Nat),pc (l+n) (2 ^ l*x)=pc n x
 |0,n,x=>by simp
 |l+1,n,x=>by
  rw[show l+1+n=(l+n)+1 from by omega,pc,MO,show 2 ^ l*2*x=2*(2 ^ l*x)from by rw[LQ (2 ^ l) 2,Mc],Nat.mul_mod_right,Nat.mul_div_cancel_left _ (by omega),Fq l n x,Mx]
def fF (ws:List Nat) (s:Nat):Nat:=ws.getD (s/64) 0/2 ^ (s %64) %2
def bf (ws:List Nat):Nat->Nat->Nat
 |_,0=>0
 |s,n+1=>fF ws s+bf ws (s+1) n
theorem rO (ws:List Nat):∀(m n s:Nat),bf ws s (m+n)=bf ws s m+bf ws (s+m) n
 |0,n,s=>by simp[bf]
 |m+1,n,s=>by rw[show m+1+n=(m+n)+1 from by omega,bf,bf,rO ws m n (s+1),show s+1+m=s+(m+1)from by omega];omega
theorem uX (ws:List Nat) (k:Nat):∀(m l:Nat),l+m<=64->bf ws (64*k+l) m=pc m (ws.getD k 0/2 ^ l)
 |0,l,_=>rfl
 |m+1,l,h=>by
  rw[bf,pc,show 64*k+l+1=64*k+(l+1)from by omega,uX ws k m (l+1) (by omega),Md,<-MO]
  unfold fF
  rw[show(64*k+l)/64=k from by omega,show(64*k+l) %64=l from by omega]
def tV (x l m:Nat):Nat:=x %2 ^ m/2 ^ l*2 ^ l
theorem Jl (x l m:Nat) (h:l<=m) (hm:m<=64):pc 64 (tV x l m)=pc (m-l) (x/2 ^ l):=by
 have h1:pc 64 (tV x l m)=pc (64-l) (x %2 ^ m/2 ^ l):=by
  unfold tV
  rw[LQ]
  have:=Fq l (64-l) (x %2 ^ m/2 ^ l)
  rwa [show l+(64-l)=64 from by omega]at this
 rw[h1,show 2 ^ m=2 ^ l*2 ^ (m-l)from by rw[<-Mt,show l+(m-l)=m from by omega],Nat.mod_mul_right_div_self,Fy _ _ _ (by omega)]
theorem Bc (ws:List Nat) (s:Nat):fF ws s<=1:=by unfold fF;omega
theorem eZ (ws:List Nat):∀(n s:Nat),bf ws s n<=n
 |0,_=>KS _
 |n+1,s=>by rw[bf];have:=Bc ws s;have:=eZ ws n (s+1);omega
def places (ws:List Nat) (s n:Nat):List Nat:=(List.range' s n).filter (fun i=>fF ws i==1)
theorem dU (ws:List Nat):∀(n s:Nat),(places ws s n).length=bf ws s n
 |0,s=>rfl
 |n+1,s=>by
  have h:=dU ws n (s+1)
  unfold places at*
  rw[List.range'_succ,List.filter_cons,bf]
  have:=Bc ws s
  by_cases hb:fF ws s=1
  ·rw[if_pos (by simp[hb]),List.length_cons,h,hb];omega
  ·rw[if_neg (by simp[hb]),h];omega
end Go.Proofs.YtpbmbjjfdpkhbaaGreat
