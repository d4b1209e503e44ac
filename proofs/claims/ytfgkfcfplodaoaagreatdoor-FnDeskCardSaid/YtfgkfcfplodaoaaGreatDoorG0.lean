/-
  Put together out of 7 texts.
-/
import Derived.WalkKit
import Derived.WalkSpells
import Derived.WalkLawsBesides
import Derived.Lib.Hide
import Derived.Deep.QuietTactic
import Derived.Deep.Draws
import Derived.BigQuiet
import Derived.Outline
import Derived.Handy
import Derived.StillTailTactics
import Derived.Deep.RegionLaw
import Derived.Shelf.Sort.Plain
import Derived.Shelf.Slices.CompactI
import Derived.Test.YtfgkfcfplodaoaaGreatDoorProg
import Derived.Test.YtfgkfcfplodaoaaGreatDoorRows
import Derived.ProofKit
import Derived.SizedLaws
import Derived.JoinedCond
import Derived.Deep.Slices
import Derived.Deep.CondSized
set_option linter.unusedSimpArgs false
set_option linter.unusedVariables false
set_option maxRecDepth 100000
section
namespace Go.Proofs.YtfgkfcfplodaoaaGreatDoor
open Go.RowKit
def RdS {α:Type}(w:World)(B s:Nat)(f:α→List Value)(v:Value)(l:List α):Prop:=
 ∃A c,v=.slice A l.length c∧l.length≤c∧c≤maxLen∧
  (l≠[]→∃b off,A=some ⟨b,off,none⟩∧b<B∧∀i x,l[i]?=some x→∀j u,(f x)[j]?=some u→w.cell? ⟨b,off+i*s+j,none⟩=some u)
def cStr (s:ByteArray):List Value:=[.string s]
def cInt (n:Int):List Value:=[.int .i64 n]
def cBool (b:Bool):List Value:=[.bool b]
theorem below_drewN {B:Nat}{a w:World}(h:Below B a w)(n:Nat):Below B a (w.drewN n):=⟨h.os,h.tape,h.output,h.size,h.block⟩
def OwnS {α:Type}(w:World)(B0 s:Nat)(f:α→List Value)(v:Value)(l:List α):Prop:=
 ∃A c,v=.slice A l.length c∧l.length≤c∧c≤maxLen∧
  (l≠[]→∃b off,A=some ⟨b,off,none⟩∧B0≤b∧b<w.heap.size∧(∀o,w.frozen? ⟨b,o,none⟩=false)∧
   ∀i x,l[i]?=some x→∀j u,(f x)[j]?=some u→w.cell? ⟨b,off+i*s+j,none⟩=some u)
def NewS {α:Type}(W:World)(s:Nat)(f:α→List Value)(l:List α)(e:Ending)(w':World):Prop:=
 ∃v,e=.returned v∧OwnS w' W.heap.size s f v l∧Below W.heap.size W w'
def zeros (zs:List Value)(n:Nat):List Value:=(List.replicate n zs).flatten
theorem length_zeros (zs:List Value)(n:Nat):(zeros zs n).length=n*zs.length:=by simp [zeros]
theorem madeCells_eq (zs:List Value)(n:Nat):madeCells zs.toArray (n*zs.length)=(zeros zs n).toArray:=by
 apply Array.ext
 ·simp [madeCells,length_zeros]
 ·intro i h1 h2
  have hi:i<n*zs.length:=by simpa [madeCells]using h1
  have hz:0<zs.length:=by
   rcases Nat.eq_zero_or_pos zs.length with h|h
   ·rw [h,Nat.mul_zero]at hi;omega
   ·exact h
  simp only [madeCells,Array.getElem_map,Array.getElem_range,List.size_toArray,List.getElem_toArray]
  have key:∀(n i:Nat),i<n*zs.length→(zeros zs n)[i]?=zs[i%zs.length]?:=by
   intro n
   induction n with
   |zero=>intro i h;omega
   |succ n ih=>
    intro i h
    have e:zeros zs (n+1)=zs++zeros zs n:=by simp [zeros,List.replicate_succ]
    rw [e]
    by_cases hlt:i<zs.length
    ·rw [List.getElem?_append_left hlt,Nat.mod_eq_of_lt hlt]
    ·rw [List.getElem?_append_right (by omega),ih (i-zs.length) (by rw [Nat.succ_mul]at h;omega),Nat.mod_eq_sub_mod (a:=i) (by omega)]
  have hk:=key n i hi
  have hm:i%zs.length<zs.length:=Nat.mod_lt _ hz
  rw [List.getElem?_eq_getElem (by simpa using h2),List.getElem?_eq_getElem hm]at hk
  injection hk with hk
  rw [hk]
  simp [hm]
theorem run_mk {P:Program}(t e:TypeId)(z:Value)(zs:List Value)(s bytes:Nat)(ht:P.underlying t=some (.slice e))(hinfo:(P.info? e).map (fun i=>(i.zero,i.size,i.bytes))=some (some z,s,bytes))
  (hz1:z.cells=zs.toArray) (hs:zs.length=s) (kl kc:IntKind) (n:Nat) (hbytes:bytes*n≤281474976710656) (h63:n≤9223372036854775807) (w:World):
  (Instr.makeSlice t (.int kl (n:Int)) (.int kc (n:Int))).run P w=.ok (.slice (some ⟨w.heap.size,0,none⟩) n n) (w.alloc (.cells (zeros zs n).toArray e)):=by
 obtain⟨i,hi,hzz⟩:=Option.map_eq_some_iff.1 hinfo
 simp only [Prod.mk.injEq]at hzz
 obtain⟨hz,hs',hb⟩:=hzz
 have hb':(i.bytes:Int)*(n:Int)≤281474976710656:=by
  have h:((i.bytes*n:Nat):Int)≤281474976710656:=by rw [hb];omega
  rwa [Int.natCast_mul]at h
 have hr:=run_make (P:=P) t e i z ht hi hz kl kc n n (by omega) (Int.le_refl _) hb' (by omega) (w:=w)
 simp only [Int.toNat_natCast,hz1,hs']at hr
 rw [←hs,madeCells_eq]at hr
 exact hr
theorem ba_inj {a b:ByteArray}(h:a.toList=b.toList):a=b:=by
 rw [ByteArray.toList_eq,ByteArray.toList_eq]at h
 cases a;cases b
 simp only [ByteArray.mk.injEq]
 exact Array.toList_inj.1 h
theorem ba_beq (a b:ByteArray):(a.toList==b.toList)=decide (a=b):=by
 by_cases h:a=b
 ·subst h;simp
 ·rw [decide_eq_false h]
  exact beq_eq_false_iff_ne.2 fun e=>h (ba_inj e)
def QW (w wr:World):Prop:=∃n,wr=w.drewN n
theorem QW.refl (w:World):QW w w:=⟨0,rfl⟩
theorem QW.drewN {w wr:World}(h:QW w wr)(n:Nat):QW w (wr.drewN n):=by
 obtain⟨m,rfl⟩:=h
 exact⟨m+n,World.drewN_drewN _ _ _⟩
theorem QW.cell {w wr:World}(h:QW w wr)(p:Addr):wr.cell? p=w.cell? p:=by
 obtain⟨m,rfl⟩:=h
 rfl
theorem QW.below {w wr:World}(h:QW w wr)(B:Nat):Below B w wr:=by
 obtain⟨m,rfl⟩:=h
 exact below_drewN (Below.refl _ _) m
def Quiet (v:Value)(w:World)(e:Ending)(w':World):Prop:=e=.returned v∧∃n,w'=w.drewN n
def SaysB (b:Bool)(W:World)(e:Ending)(w':World):Prop:=e=.returned (.bool b)∧Below W.heap.size W w'
def Keeps (w w':World):Prop:=Below w.heap.size w w'
theorem Keeps.refl (w:World):Keeps w w:=Below.refl _ _
theorem Keeps.tr {a b c:World}(h:Keeps a b)(k:Keeps b c):Keeps a c:=Below.trans h (Below.mono k (Below.size h))
theorem QW.keeps {w w':World}(h:QW w w'):Keeps w w':=h.below _
theorem Quiet.says {b:Bool}{w:World}{e:Ending}{w':World}(h:Quiet (.bool b) w e w'):SaysB b w e w':=⟨h.1,QW.keeps h.2⟩
theorem ret_bool {a b:Bool}(h:a=b):Ending.returned (.bool a)=.returned (.bool b):=by rw [h]
end Go.Proofs.YtfgkfcfplodaoaaGreatDoor
end
section
/-!
  slices.Sort and slices.Compact at []int: the numbers and bodies by which the library's contracts lie. Printed by a tool of the kit.
-/
namespace Go.Proofs
open Go.Shelf
def Tryz.sortI_ren : Go.Shelf.Ren := ⟨fun | 189 => 174 | 125 => 220 | 257 => 219 | 128 => 251 | 129 => 252 | 294 => 242 | 295 => 243 | 296 => 244 | 297 => 245 | 298 => 246 | 299 => 247 | 216 => 248 | 300 => 249 | 301 => 250 | 328 => 256 | 329 => 257 | 330 => 258 | 331 => 259 | 332 => 260 | 215 => 261 | 343 => 270 | n => n, fun | 28 => 42 | 3 => 3 | 46 => 148 | 0 => 0 | 51 => 231 | 53 => 251 | 4 => 4 | 183 => 243 | 182 => 242 | 131 => 154 | 5 => 5 | 9 => 9 | 218 => 256 | 222 => 260 | 228 => 267 | 229 => 268 | n => n, fun | n => n⟩
theorem Tryz.sortI : Go.Proofs.Lays.n189 Tryz.prog Tryz.sortI_ren := {
  mixed := by kernel_rfl
  f125 := Tryz.func220.trans (congrArg some (by kernel_rfl))
  f128 := Tryz.func251.trans (congrArg some (by kernel_rfl))
  f129 := Tryz.func252.trans (congrArg some (by kernel_rfl))
  f189 := Tryz.func174.trans (congrArg some (by kernel_rfl))
  f215 := Tryz.func261.trans (congrArg some (by kernel_rfl))
  f216 := Tryz.func248.trans (congrArg some (by kernel_rfl))
  f257 := Tryz.func219.trans (congrArg some (by kernel_rfl))
  f294 := Tryz.func242.trans (congrArg some (by kernel_rfl))
  f295 := Tryz.func243.trans (congrArg some (by kernel_rfl))
  f296 := Tryz.func244.trans (congrArg some (by kernel_rfl))
  f297 := Tryz.func245.trans (congrArg some (by kernel_rfl))
  f298 := Tryz.func246.trans (congrArg some (by kernel_rfl))
  f299 := Tryz.func247.trans (congrArg some (by kernel_rfl))
  f300 := Tryz.func249.trans (congrArg some (by kernel_rfl))
  f301 := Tryz.func250.trans (congrArg some (by kernel_rfl))
  f328 := Tryz.func256.trans (congrArg some (by kernel_rfl))
  f329 := Tryz.func257.trans (congrArg some (by kernel_rfl))
  f330 := Tryz.func258.trans (congrArg some (by kernel_rfl))
  f331 := Tryz.func259.trans (congrArg some (by kernel_rfl))
  f332 := Tryz.func260.trans (congrArg some (by kernel_rfl))
  f343 := Tryz.func270.trans (congrArg some (by kernel_rfl))
  t0 := Tryz.underlying0
  a0 := Tryz.isAgg0
  z0 := Tryz.sizeOf0
  v0 := Tryz.zeroValue0
  t3 := Tryz.underlying3
  a3 := Tryz.isAgg3
  z3 := Tryz.sizeOf3
  v3 := Tryz.zeroValue3
  t4 := Tryz.underlying4
  a4 := Tryz.isAgg4
  z4 := Tryz.sizeOf4
  v4 := Tryz.zeroValue4
  t5 := Tryz.underlying5
  a5 := Tryz.isAgg5
  z5 := Tryz.sizeOf5
  v5 := Tryz.zeroValue5
  t9 := Tryz.underlying9
  a9 := Tryz.isAgg9
  z9 := Tryz.sizeOf9
  v9 := Tryz.zeroValue9
  t28 := Tryz.underlying42
  a28 := Tryz.isAgg42
  z28 := Tryz.sizeOf42
  v28 := Tryz.zeroValue42
  t46 := Tryz.underlying148
  a46 := Tryz.isAgg148
  z46 := Tryz.sizeOf148
  v46 := Tryz.zeroValue148
  t51 := Tryz.underlying231
  a51 := Tryz.isAgg231
  z51 := Tryz.sizeOf231
  v51 := Tryz.zeroValue231
  t53 := Tryz.underlying251
  a53 := Tryz.isAgg251
  z53 := Tryz.sizeOf251
  v53 := Tryz.zeroValue251
  t131 := Tryz.underlying154
  a131 := Tryz.isAgg154
  z131 := Tryz.sizeOf154
  v131 := Tryz.zeroValue154
  t182 := Tryz.underlying242
  a182 := Tryz.isAgg242
  z182 := Tryz.sizeOf242
  v182 := Tryz.zeroValue242
  t183 := Tryz.underlying243
  a183 := Tryz.isAgg243
  z183 := Tryz.sizeOf243
  v183 := Tryz.zeroValue243
  t218 := Tryz.underlying256
  a218 := Tryz.isAgg256
  z218 := Tryz.sizeOf256
  v218 := Tryz.zeroValue256
  t222 := Tryz.underlying260
  a222 := Tryz.isAgg260
  z222 := Tryz.sizeOf260
  v222 := Tryz.zeroValue260
  t228 := Tryz.underlying267
  a228 := Tryz.isAgg267
  z228 := Tryz.sizeOf267
  v228 := Tryz.zeroValue267
  t229 := Tryz.underlying268
  a229 := Tryz.isAgg268
  z229 := Tryz.sizeOf268
  v229 := Tryz.zeroValue268 }
def Tryz.compI_ren : Go.Shelf.Ren := ⟨fun | 20 => 175 | n => n, fun | 22 => 42 | 3 => 3 | 4 => 4 | 0 => 0 | n => n, fun | n => n⟩
theorem Tryz.compI : Go.Proofs.Lays2.n20 Tryz.prog Tryz.compI_ren := {
  mixed := by kernel_rfl
  f20 := Tryz.func175.trans (congrArg some (by kernel_rfl))
  t0 := Tryz.underlying0
  a0 := Tryz.isAgg0
  z0 := Tryz.sizeOf0
  v0 := Tryz.zeroValue0
  t3 := Tryz.underlying3
  a3 := Tryz.isAgg3
  z3 := Tryz.sizeOf3
  v3 := Tryz.zeroValue3
  t4 := Tryz.underlying4
  a4 := Tryz.isAgg4
  z4 := Tryz.sizeOf4
  v4 := Tryz.zeroValue4
  t22 := Tryz.underlying42
  a22 := Tryz.isAgg42
  z22 := Tryz.sizeOf42
  v22 := Tryz.zeroValue42
  i3 := by kernel_rfl }
end Go.Proofs
end
section
namespace Go.Proofs.YtfgkfcfplodaoaaGreatDoor
open Go.RowKit Go.ChangeShapes Go.WideShapes Go.ChangeAt Go.Deep
def RdR {α:Type}(w:World)(B s:Nat)(E:List Value→α→Prop)(v:Value)(l:List α):Prop:=
 ∃A c,v=.slice A l.length c∧l.length≤c∧c≤maxLen∧
  (l≠[]→∃b off,A=some ⟨b,off,none⟩∧b<B∧∀i x,l[i]?=some x→∃cs,cs.length=s∧E cs x∧∀j u,cs[j]?=some u→w.cell? ⟨b,off+i*s+j,none⟩=some u)
section
variable {H:Type}{enc:TypeId×Value→H}{P:Program}{w:World}{base:Nat}{spare:Nat→Bool}{held:Bool}
theorem list_of_exists {α:Type}{R:Nat→α→Prop}(n:Nat)(h:∀i,i<n→∃x,R i x):∃l:List α,l.length=n∧∀i x,l[i]?=some x→R i x:=by
 induction n with
 |zero=>exact⟨[],rfl,fun i x hx=>by simp at hx⟩
 |succ n ih=>
  obtain⟨l,hl,hr⟩:=ih (fun i hi=>h i (by omega))
  obtain⟨y,hy⟩:=h n (by omega)
  refine⟨l++[y],by simp [hl],fun i x hx=>?_⟩
  by_cases hi:i<n
  ·rw [List.getElem?_append_left (by omega)]at hx
   exact hr i x hx
  ·have hlt:=(List.getElem?_eq_some_iff.1 hx).1
   simp only [List.length_append,List.length_cons,List.length_nil]at hlt
   have:i=n:=by omega
   subst this
   rw [List.getElem?_append_right (by omega),hl]at hx
   simp at hx
   subst hx
   exact hy
theorem open_rows {α:Type}{t e:TypeId}{s B fuel:Nat}{cs:List Value}{d:DataW H}{ps:List MemPlace}{E:List Value→α→Prop}(ht:P.underlying t=some (.slice e))(hs:P.cellsOf e=s)(hs0:0<s)
  (h:DataW.trod enc P w base spare held fuel t cs=some (d,ps)) (hB:∀p∈ps,p.block<B)
  (hE:∀n cs y,cs.length=s→DataW.trod enc P w base spare held n e cs=some y→(∀p∈y.2,p.block<B)→∃x,E cs x):
  ∃(v:Value) (l:List α),cs=[v]∧RdR w B s E v l∧(d=.nil∧l=[]∨∃el sp,d=.slice el sp∧el.length=l.length):=by
 rcases open_slice ht h with⟨rfl,hx⟩|⟨a,len,cap,m,n,D,Pl,hcs,hb,hl,hm,hmm,hx,hi⟩
 ·simp only [Prod.mk.injEq]at hx
  exact⟨_,[],rfl,⟨none,0,rfl,Nat.le_refl _,by simp [maxLen],fun hne=>absurd rfl hne⟩,.inl ⟨hx.1,rfl⟩⟩
 ·simp only [Prod.mk.injEq]at hx
  obtain⟨rfl,rfl⟩:=hx
  have hlm:len≤m:=by rw [hmm];split<;>omega
  rw [hs]at hi hB
  obtain⟨l,hll,hR⟩:=list_of_exists (α:=α) (R:=fun i x=>∃cs,cs.length=s∧E cs x∧∀j u,cs[j]?=some u→w.cell? ((a.add (i*s)).add j)=some u) len (fun i hil=>by
   obtain⟨cs',hc,htr⟩:=hi i (by omega)
   obtain⟨_,hlen,hcell⟩:=World.cells?_some hc
   obtain⟨x,hx⟩:=hE n cs' _ hlen htr (fun p hp=>hB p (List.mem_append_right _ (List.mem_flatMap.2 ⟨i,by simp;omega,hp⟩)))
   refine⟨x,cs',hlen,hx,fun j u hu=>?_⟩
   have hj:j<s:=by
    have:=(List.getElem?_eq_some_iff.1 hu).1
    omega
   rw [hcell j hj];exact hu)
  refine⟨_,l,hcs,⟨some a,cap,by rw [hll],by omega,hm,fun hne=>?_⟩,.inr ⟨_,_,rfl,by simp [hll]⟩⟩
  have hlpos:0<len:=by
   rw [←hll]
   exact List.length_pos_iff.2 hne
  obtain⟨b,off,spot⟩:=a
  obtain⟨cs0,hlen0,_,hc0⟩:=hR 0 l[0] (List.getElem?_eq_getElem (by omega))
  have hcell0:=hc0 0 cs0[0] (List.getElem?_eq_getElem (by omega))
  have hspot:spot=none:=by simpa [Addr.add]using World.cell?_spot hcell0
  subst hspot
  have hms:0<m*s:=Nat.mul_pos (by omega) hs0
  refine⟨b,off,rfl,hB (.cell b off) (List.mem_append_left _ (MemPlace.mem_row.2 ⟨0,by omega,by simp⟩)),fun i x hx=>?_⟩
  obtain⟨cs1,h1,h2,h3⟩:=hR i x hx
  refine⟨cs1,h1,h2,fun j u hu=>?_⟩
  have:=h3 j u hu
  rwa [add_plain,add_plain]at this
theorem RdR.flat {α:Type}{s B:Nat}{f:α→List Value}{ok:α→Prop}{v:Value}{l:List α}(h:RdR w B s (fun cs x=>cs=f x∧ok x) v l):RdS w B s f v l∧∀x∈l,ok x:=by
 obtain⟨A,c,hv,hlc,hcm,hn⟩:=h
 constructor
 ·refine⟨A,c,hv,hlc,hcm,fun hne=>?_⟩
  obtain⟨b,off,hA,hb,hc⟩:=hn hne
  refine⟨b,off,hA,hb,fun i x hx j u hu=>?_⟩
  obtain⟨cs,_,⟨rfl,_⟩,h3⟩:=hc i x hx
  exact h3 j u hu
 ·intro x hx
  obtain⟨b,off,hA,hb,hc⟩:=hn (by intro e;subst e;simp at hx)
  obtain⟨i,hi,rfl⟩:=List.getElem_of_mem hx
  obtain⟨cs,_,⟨_,h2⟩,_⟩:=hc i _ (List.getElem?_eq_getElem hi)
  exact h2
theorem arg_rows {α:Type}{t e:TypeId}{s B:Nat}{v:Value}{d:DataW H}{ps:List MemPlace}{E:List Value→α→Prop}{r:Reach}{b0:Nat}(ht:P.underlying t=some (.slice e))(hs:P.cellsOf e=s)(hs0:0<s)
  (hv:Value.okWide P w r b0 t v) (h:DataW.Trod enc P w base spare held t v d ps) (hB:∀p∈ps,p.block<B)
  (hE:∀n cs y,cs.length=s→DataW.trod enc P w base spare held n e cs=some y→(∀p∈y.2,p.block<B)→∃x,E cs x):
  ∃l:List α,RdR w B s E v l∧(d=.nil∧l=[]∨∃el sp,d=.slice el sp∧el.length=l.length):=by
 obtain⟨a0,len,cap,rfl⟩:=okWide_slice ht hv
 obtain⟨fuel,hf⟩:=h
 obtain⟨v',l,hcs,h1,h2⟩:=open_rows ht hs hs0 hf hB hE
 simp [Value.cells]at hcs
 subst hcs
 exact⟨l,h1,h2⟩
theorem arg_reach {α:Type}{ts:List TypeId}{ds:List (DataW H)}{j:Nat}{t e:TypeId}{d:DataW H}{l:List α}(hsz:(DataW.weightsEach P ts ds).all (· ≤reachBytes)=true)(ht:ts[j]?=some t)(hd:ds[j]?=some d)
  (hu:P.underlying t=some (.slice e)) (h:d=.nil∧l=[]∨∃el sp,d=.slice el sp∧el.length=l.length):l.length*P.bytesOf e≤140737488351232:=by
 rcases h with⟨_,rfl⟩|⟨el,sp,rfl,hl⟩
 ·simp
 ·have:=sized_slice hsz ht hd hu
  simp only [reachBytes]at this
  rw [←hl]
  exact Nat.le_trans (Nat.mul_le_mul_right _ (by omega)) this
theorem below_trodAll (hl:laidOutB P=true){W W':World}(hb:Below W.heap.size W W'):∀(ts:List TypeId) (vs:List Value) (ds:List (DataW H)) (ps:List MemPlace),
  (∀t∈ts,P.readableRec t=true∧t<P.types.size)→DataW.TrodAll enc P W 0 (fun _=>true) true ts vs ds ps→(∀x∈ps,x.block<W.heap.size)→
  DataW.TrodAll enc P W' 0 (fun b=>decide (b<W.heap.size)) true ts vs ds ps
 |[],[],[],_,_,h,_=>h
 |t::ts,v::vs,d::ds,ps,hr,h,hlt=>by
  obtain⟨p,q,h1,h2,rfl⟩:=h
  obtain⟨hr1,hr2⟩:=hr t (by simp)
  exact⟨p,q,Below.trod hl hr1 hr2 h1 hb (fun x hx=>hlt x (List.mem_append_left _ hx)),below_trodAll hl hb ts vs ds q (fun t ht=>hr t (by simp [ht])) h2 (fun x hx=>hlt x (List.mem_append_right _ hx)),rfl⟩
 |[],[],_::_,_,_,h,_=>h.elim
 |[],_::_,[],_,_,h,_=>h.elim
 |[],_::_,_::_,_,_,h,_=>h.elim
 |_::_,[],[],_,_,h,_=>h.elim
 |_::_,[],_::_,_,_,h,_=>h.elim
 |_::_,_::_,[],_,_,h,_=>h.elim
end
end Go.Proofs.YtfgkfcfplodaoaaGreatDoor
end
section
namespace Go.Proofs.YtfgkfcfplodaoaaGreatDoor
open Go Go.RowKit
def shaW:List Nat:=[1116352408,1899447441,3049323471,3921009573,961987163,1508970993,2453635748,2870763221,3624381080,310598401,607225278,1426881987,1925078388,2162078206,2614888103,3248222580,3835390401,4022224774,264347078,604807628,770255983,1249150122,1555081692,1996064986,2554220882,2821834349,2952996808,3210313671,3336571891,3584528711,113926993,338241895,666307205,773529912,1294757372,1396182291,1695183700,1986661051,2177026350,2456956037,2730485921,2820302411,3259730800,3345764771,3516065817,3600352804,4094571909,275423344,430227734,506948616,659060556,883997877,958139571,1322822218,1537002063,1747873779,1955562222,2024104815,2227730452,2361852424,2428436474,2756734187,3204031479,3329325298]
def globs:Nat→Option (List Value):=fun g=>if g=0 then some (shaW.map fun(n:Nat)=>Value.int .u32 (n:Int))else none
def GlobOk (γ0:Nat→Option Nat)(w:World):Prop:=∀g cs,globs g=some cs→γ0 g=none∧g<w.heap.size∧∀(j:Nat) (v:Value),cs[j]?=some v→v.oneCell'=true∧w.cell? ⟨g,j,none⟩=some v
end Go.Proofs.YtfgkfcfplodaoaaGreatDoor
end
section
namespace Go.Proofs.YtfgkfcfplodaoaaGreatDoor
open Go.RowKit
end Go.Proofs.YtfgkfcfplodaoaaGreatDoor
end
section
namespace Go.Proofs.YtfgkfcfplodaoaaGreatDoor
open Go.RowKit
end Go.Proofs.YtfgkfcfplodaoaaGreatDoor
end
section
namespace Go.Proofs.YtfgkfcfplodaoaaGreatDoor
open Go.RowKit
theorem within_yes (x lo hi:Int)(w:World)(h1:lo≤x)(h2:x≤hi):Calls Tryz.prog 139 #[.int .i64 x,.int .i64 lo,.int .i64 hi] w fun e w'=>e=.returned (.bool true)∧w'=w:=by
 go_enter Tryz.func139,Tryz.ntmps139
 go_wp2
 go_ret
 exact⟨rfl,rfl⟩
theorem within_lo (x lo hi:Int)(w:World)(h1:x<lo):Calls Tryz.prog 139 #[.int .i64 x,.int .i64 lo,.int .i64 hi] w fun e w'=>e=.returned (.bool false)∧w'=w:=by
 have hd:decide (lo≤x)=false:=by simp;omega
 go_enter Tryz.func139,Tryz.ntmps139
 go_wp2
 go_ret
 exact⟨rfl,rfl⟩
theorem within_hi (x lo hi:Int)(w:World)(h1:lo≤x)(h2:hi<x):Calls Tryz.prog 139 #[.int .i64 x,.int .i64 lo,.int .i64 hi] w fun e w'=>e=.returned (.bool false)∧w'=w:=by
 have hd:decide (x≤hi)=false:=by simp;omega
 go_enter Tryz.func139,Tryz.ntmps139
 go_wp2
 go_ret
 exact⟨rfl,rfl⟩
theorem within_no (x lo hi:Int)(w:World)(h:x<lo∨hi<x):Calls Tryz.prog 139 #[.int .i64 x,.int .i64 lo,.int .i64 hi] w fun e w'=>e=.returned (.bool false)∧w'=w:=by
 by_cases h1:x<lo
 ·exact within_lo x lo hi w h1
 ·exact within_hi x lo hi w (by omega) (by omega)
theorem l1In_yes (x lo hi:Int)(w:World)(h1:lo≤x)(h2:x≤hi):Calls Tryz.prog 39 #[.int .i64 x,.int .i64 lo,.int .i64 hi] w fun e w'=>e=.returned (.bool true)∧w'=w:=by
 go_enter Tryz.func39,Tryz.ntmps39
 go_wp2
 go_ret
 exact⟨rfl,rfl⟩
theorem l1In_lo (x lo hi:Int)(w:World)(h1:x<lo):Calls Tryz.prog 39 #[.int .i64 x,.int .i64 lo,.int .i64 hi] w fun e w'=>e=.returned (.bool false)∧w'=w:=by
 have hd:decide (lo≤x)=false:=by simp;omega
 go_enter Tryz.func39,Tryz.ntmps39
 go_wp2
 go_ret
 exact⟨rfl,rfl⟩
theorem l1In_hi (x lo hi:Int)(w:World)(h1:lo≤x)(h2:hi<x):Calls Tryz.prog 39 #[.int .i64 x,.int .i64 lo,.int .i64 hi] w fun e w'=>e=.returned (.bool false)∧w'=w:=by
 have hd:decide (x≤hi)=false:=by simp;omega
 go_enter Tryz.func39,Tryz.ntmps39
 go_wp2
 go_ret
 exact⟨rfl,rfl⟩
theorem l1In_no (x lo hi:Int)(w:World)(h:x<lo∨hi<x):Calls Tryz.prog 39 #[.int .i64 x,.int .i64 lo,.int .i64 hi] w fun e w'=>e=.returned (.bool false)∧w'=w:=by
 by_cases h1:x<lo
 ·exact l1In_lo x lo hi w h1
 ·exact l1In_hi x lo hi w (by omega) (by omega)
end Go.Proofs.YtfgkfcfplodaoaaGreatDoor
end
