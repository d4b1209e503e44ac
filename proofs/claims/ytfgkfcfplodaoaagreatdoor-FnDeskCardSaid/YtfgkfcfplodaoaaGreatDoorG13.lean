/-
  Put together out of 7 texts.
-/
import Derived.Test.YtfgkfcfplodaoaaGreatDoorG8
import Derived.Laws.Bits64
import Derived.Laws.Bits64b
import Derived.Test.YtfgkfcfplodaoaaGreatDoorG2
set_option linter.unusedSimpArgs false
set_option linter.unusedVariables false
set_option maxRecDepth 100000
set_option maxHeartbeats 4000000
namespace Go.Proofs.YtfgkfcfplodaoaaGreatDoor
open Go Go.RowKit
section
theorem wrap_u32n (n:Nat):IntKind.u32.wrap (n:Int)=((n%4294967296:Nat):Int):=by
 simp [IntKind.wrap,IntKind.bits,IntKind.signed]
theorem wrap_i64n {n:Nat}(h:n<9223372036854775808):IntKind.i64.wrap (n:Int)=(n:Int):=wrap_i64 n (by omega)
theorem ofInt_nat {m n:Nat}(h:n<2^m):(BitVec.ofInt m (n:Int)).toNat=n:=by
 rw [BitVec.ofInt_natCast,BitVec.toNat_ofNat]
 exact Nat.mod_eq_of_lt h
section
variable {a b:Nat}
theorem and_i64 (ha:a<9223372036854775808)(hb:b<9223372036854775808):bits .and .i64 (a:Int) (b:Int)=((a&&&b:Nat):Int):=by
 have hx:a&&&b<2^63:=Nat.and_lt_two_pow _ (by omega)
 show IntKind.i64.wrap ((BitVec.ofInt 64 (a:Int)&&&BitVec.ofInt 64 (b:Int)).toNat:Int)=_
 rw [BitVec.toNat_and,ofInt_nat (by omega),ofInt_nat (by omega),wrap_i64n (by omega)]
theorem or_i64 (ha:a<9223372036854775808)(hb:b<9223372036854775808):bits .or .i64 (a:Int) (b:Int)=((a|||b:Nat):Int):=by
 have hx:a|||b<2^63:=Nat.or_lt_two_pow (by omega) (by omega)
 show IntKind.i64.wrap ((BitVec.ofInt 64 (a:Int)|||BitVec.ofInt 64 (b:Int)).toNat:Int)=_
 rw [BitVec.toNat_or,ofInt_nat (by omega),ofInt_nat (by omega),wrap_i64n (by omega)]
theorem xor_i64 (ha:a<9223372036854775808)(hb:b<9223372036854775808):bits .xor .i64 (a:Int) (b:Int)=((a^^^b:Nat):Int):=by
 have hx:a^^^b<2^63:=Nat.xor_lt_two_pow (by omega) (by omega)
 show IntKind.i64.wrap ((BitVec.ofInt 64 (a:Int)^^^BitVec.ofInt 64 (b:Int)).toNat:Int)=_
 rw [BitVec.toNat_xor,ofInt_nat (by omega),ofInt_nat (by omega),wrap_i64n (by omega)]
theorem and_u32 (ha:a<4294967296)(hb:b<4294967296):bits .and .u32 (a:Int) (b:Int)=((a&&&b:Nat):Int):=by
 have hx:a&&&b<2^32:=Nat.and_lt_two_pow _ (by omega)
 show IntKind.u32.wrap ((BitVec.ofInt 32 (a:Int)&&&BitVec.ofInt 32 (b:Int)).toNat:Int)=_
 rw [BitVec.toNat_and,ofInt_nat (by omega),ofInt_nat (by omega),wrap_u32n,Nat.mod_eq_of_lt (by omega)]
theorem or_u32 (ha:a<4294967296)(hb:b<4294967296):bits .or .u32 (a:Int) (b:Int)=((a|||b:Nat):Int):=by
 have hx:a|||b<2^32:=Nat.or_lt_two_pow (by omega) (by omega)
 show IntKind.u32.wrap ((BitVec.ofInt 32 (a:Int)|||BitVec.ofInt 32 (b:Int)).toNat:Int)=_
 rw [BitVec.toNat_or,ofInt_nat (by omega),ofInt_nat (by omega),wrap_u32n,Nat.mod_eq_of_lt (by omega)]
theorem xor_u32 (ha:a<4294967296)(hb:b<4294967296):bits .xor .u32 (a:Int) (b:Int)=((a^^^b:Nat):Int):=by
 have hx:a^^^b<2^32:=Nat.xor_lt_two_pow (by omega) (by omega)
 show IntKind.u32.wrap ((BitVec.ofInt 32 (a:Int)^^^BitVec.ofInt 32 (b:Int)).toNat:Int)=_
 rw [BitVec.toNat_xor,ofInt_nat (by omega),ofInt_nat (by omega),wrap_u32n,Nat.mod_eq_of_lt (by omega)]
end
theorem fdiv_nat (a n:Nat):(a:Int).fdiv (2^n)=((a/2^n:Nat):Int):=by
 rw [Int.fdiv_eq_ediv_of_nonneg _ (Int.pow_nonneg (by omega))]
 simp
theorem mul_pow_nat (a n:Nat):(a:Int)*2^n=((a*2^n:Nat):Int):=by simp
def rotr (x n:Nat):Nat:=(x/2^n|||x*2^(32-n))%4294967296
theorem rotr_lt (x n:Nat):rotr x n<4294967296:=Nat.mod_lt _ (by omega)
abbrev aU (n:Nat):Arg:=.val false [.sc (.int .u32 (n:Int))]
abbrev rU (n:Nat):Res:=.comp false [.ro (.sc (.int .u32 (n:Int)))]
abbrev rNat (n:Nat):Res:=.comp false [.ro (.sc (.int .i64 (n:Int)))]
noncomputable def mRot:=mdl (fun x:Nat×Nat=>x.1<4294967296∧1≤x.2∧x.2≤31) (fun x=>[aU x.1,aI (-(x.2:Int))]) (fun x=>rU (rotr x.1 x.2))
theorem mRot_eq (x n:Nat)(h:x<4294967296)(h1:1≤n)(h2:n≤31):mRot [aU x,aI (-(n:Int))]=some (rU (rotr x n)):=mdl_eq (by rintro⟨a,b⟩ ⟨d,e⟩ h;simp at h;simp;omega) (x,n) ⟨h,h1,h2⟩
theorem rot_s:Sound Tryz.prog 254 mRot:=by
 refine Sound.mdl Tryz.func254 rfl Tryz.ntmps254 ?_
 rintro⟨x,n⟩ w ⟨hx,h1,h2⟩
 refine⟨by simp,?_⟩
 dsimp only at hx h1 h2
 have hΓ:=eN
 have e1:bits .and .u64 (IntKind.u64.wrap (-(n:Int))) 31=((32-n:Nat):Int):=by
  have:IntKind.u64.wrap (-(n:Int))=((18446744073709551616-n:Nat):Int):=by
   rw [IntKind.wrap_u64]
   omega
  rw [this,show(31:Int)=((31:Nat):Int)from rfl,bits_and_u64_nat _ _ (by omega) (by omega),show 31=2^5-1 from rfl,Nat.and_two_pow_sub_one_eq_mod]
  congr 1
  omega
 have e2:IntKind.u64.wrap (32-((32-n:Nat):Int))=(n:Int):=by
  rw [IntKind.wrap_u64]
  omega
 refine zJ ?_
 refine At.retA (by rw [Tryz.results254]) (he:=?_)
 have m1:min (32-n) IntKind.u32.bits=32-n:=by show min (32-n) 32=_;omega
 have m2:min n IntKind.u32.bits=n:=by show min n 32=_;omega
 rw [m1,m2,mul_pow_nat,fdiv_nat,wrap_u32n,or_u32 (Nat.mod_lt _ (by omega)) (Nat.lt_of_le_of_lt (Nat.div_le_self _ _) hx)]
 congr 5
 unfold rotr
 rw [show 4294967296=2^32 from rfl,Nat.or_mod_two_pow,Nat.or_comm,Nat.mod_eq_of_lt (a:=x/2^n) (Nat.lt_of_le_of_lt (Nat.div_le_self _ _) hx)]
end
section
@[simp] theorem rowsF_Val {a b:List TVal}:rowsF cVal a=rowsF cVal b↔a=b:=rowsF_iff fun x y h=>by simpa [cVal,Prod.ext_iff]using h
section
variable {P:Program}{F:FuncId}{α:Type}{f:α→List Value}{s:Nat}
theorem Sound.listB (hf:∀x,(f x).length=s){ok:List α→Prop}{p:List α→Bool}(h:∀v l w,ok l→RdS w w.heap.size s f v l→Calls P F #[v] w (SaysB (p l) w)):Sound P F (Go.Proofs.YtfgkfcfplodaoaaGreatDoor.mdl ok (fun l=>[aL f l]) fun l=>rB (p l)):=
 Sound.says (fun _=>rfl) fun l vs w hok hr=>by
  obtain⟨v,rfl,h2⟩:=RepAs.one hr
  exact(h v l w hok (rep_RdS hf (repA_list_inv h2))).mono fun e w' hq=>hq
theorem aL_rep {w:World}{v:Value}{l:List α}(hf:∀x,(f x).length=s)(h1:∀x,∀u∈f x,u.oneCell'=true)(h:RdS w w.heap.size s f v l):RepA w (aL f l) v:=repA_list (h.rep hf h1)
theorem aS_rep {w:World}(b:ByteArray):RepA w (aS b) (.string b):=repA_sc rfl
abbrev rSc (v:Value):Bool×List RL:=(false,[.ro (.sc v)])
abbrev rL {α:Type}(e s:Nat)(f:α→List Value)(l:List α):Res:=.comp false [.own .ft e s (rowsF f l)]
abbrev rN:Res:=.comp false [.ro (.sl [])]
theorem calls_says {m:List Arg→Option Res}{args:List Arg}{vs:List Value}{w:World}{v:Value}(hs:Sound P F m)(hm:m args=some (.comp false [.ro (.sc v)]))(hr:RepAs w args vs)(hg:GlobOk none0 w:=by first|exact glob_triv|assumption):
  Calls P F vs.toArray w fun e w'=>e=.returned v∧Below w.heap.size w w':=(hs args _ vs w hg hm hr).mono fun e w' ⟨u,γ,hdr,h1,h2,_,_,h5⟩=>by
 obtain⟨x,e1,h9⟩:=h5
 cases e1
 cases h9
 exact⟨h1,h2⟩
end
def sumK {α:Type}(c:α→Int)(l:List α)(k:Nat):Int:=((l.take k).map c).sum
theorem sumK_zero {α:Type}(c:α→Int)(l:List α):sumK c l 0=0:=rfl
theorem sumK_succ {α:Type}(c:α→Int){l:List α}{k:Nat}(h:k<l.length):sumK c l (k+1)=sumK c l k+c l[k]:=by
 unfold sumK
 rw [List.take_succ_eq_append_getElem h,List.map_append,List.sum_append]
 simp only [List.map_cons,List.map_nil,List.sum_cons,List.sum_nil,Int.add_zero]
theorem sumK_all {α:Type}(c:α→Int){l:List α}{k:Nat}(h:l.length≤k):sumK c l k=(l.map c).sum:=by unfold sumK;rw [List.take_of_length_le h]
theorem sumK_in {α:Type}{c:α→Int}{l:List α}{m:Nat}(h:∀k (hk:k<l.length),0≤c l[k]∧c l[k]≤m):∀k,k≤l.length→0≤sumK c l k∧sumK c l k≤m*k
 |0,_=>by simp [sumK]
 |k+1,hk=>by
  have ih:=sumK_in h k (by omega)
  have:=h k (by omega)
  rw [sumK_succ c (by omega)]
  have e:(m:Int)*((k+1:Nat):Int)=m*k+m:=by rw [Int.natCast_add,Int.mul_add];simp
  omega
end
section
section
variable {P:Program}{γ0:Nat→Option Nat}{w0:World}{N:Nat}{st:St}{a:Act}{w:World}{Q:Exit→Act→World→Prop}{c:Code}
theorem R.frz (h:R γ0 w0 N st a w){t n:Nat}{fl:Fl}{e s:Nat}{rows:List (List Leaf)}(ht:getS st t=one (.all n))(hb:getB st n=some (.arr fl e s rows)):R γ0 w0 N (.slot t (one (.sl rows))::.kill n::st) a w:=by
 obtain⟨η,γ,hI⟩:=h
 obtain⟨γ',h1,h2⟩:=hI.frz [.all n]
 have hu:=hI.slots t
 rw [ht]at hu
 have hk:∀b,γ b=none→γ' b=none:=fun b hb=>by
  cases hg:γ' b with
  |none=>rfl
  |some m=>have:=(h2 b m hg).1;rw [hb]at this;cases this
 have hrep:RepL w γ' (.sl rows) (a.tmps.getD t undef):=by
  obtain⟨l,e1,h3⟩:=hu
  cases e1
  refine leafO_sound hI hk (fun b m hbm he=>?_) h3 (by simp only [leafO,hb])
  have hm:m=n:=by
   rcases he with e|⟨o,k,e⟩
   ·cases e;rfl
   ·cases e
  subst hm
  cases hg:γ' b with
  |none=>rfl
  |some k=>
   obtain⟨h4,h5⟩:=h2 b k hg
   rw [hbm]at h4
   cases h4
   exact absurd rfl ((h5 _ List.mem_cons_self).1 m rfl)
 refine⟨η,γ',{h1 with slots:=fun k=>?_}⟩
 show RepV (getB (.kill n::st)) η γ' w (if t=k then one (.sl rows)else getS (.kill n::st) k) (a.tmps.getD k undef)
 by_cases e:t=k
 ·subst e
  rw [if_pos rfl]
  exact⟨_,rfl,hrep⟩
 ·rw [if_neg e]
  exact h1.slots k
theorem W.frz (t n:Nat){fl:Fl}{e s:Nat}{rows:List (List Leaf)}(ht:getS st t=one (.all n))(hb:getB st n=some (.arr fl e s rows))(h:W P γ0 w0 N (.slot t (one (.sl rows))::.kill n::st) c Q):W P γ0 w0 N st c Q:=
 fun a w hR=>h a w (hR.frz ht hb)
theorem At.frz (t n:Nat){x:Exit}{fl:Fl}{e s:Nat}{rows:List (List Leaf)}(ht:getS st t=one (.all n))(hb:getB st n=some (.arr fl e s rows))(h:At γ0 w0 N (.slot t (one (.sl rows))::.kill n::st) x Q):At γ0 w0 N st x Q:=
 fun a w hR=>h a w (hR.frz ht hb)
end
theorem W.subA {γ0:Nat→Option Nat}{w0:World}{N:Nat}{st:St}{Q:Exit→Act→World→Prop}{c:Code}(st':St)(hs:Sub st' st:=by exact subP)(h:W Tryz.prog γ0 w0 N st' c Q):W Tryz.prog γ0 w0 N st c Q:=W.sub hs h
theorem W.frzA {γ0:Nat→Option Nat}{w0:World}{N:Nat}{st:St}{Q:Exit→Act→World→Prop}{c:Code}(t n:Nat){fl:Fl}{e s:Nat}{rows:List (List Leaf)}(ht:getS st t=one (.all n):=by exact evsP)(hb:getB st n=some (.arr fl e s rows):=by exact evsP)
  (h:W Tryz.prog γ0 w0 N (.slot t (one (.sl rows))::.kill n::st) c Q):W Tryz.prog γ0 w0 N st c Q:=W.frz t n ht hb h
theorem At.frzA {γ0:Nat→Option Nat}{w0:World}{N:Nat}{st:St}{Q:Exit→Act→World→Prop}{x:Exit}(t n:Nat){fl:Fl}{e s:Nat}{rows:List (List Leaf)}(ht:getS st t=one (.all n):=by exact evsP)(hb:getB st n=some (.arr fl e s rows):=by exact evsP)
  (h:At γ0 w0 N (.slot t (one (.sl rows))::.kill n::st) x Q):At γ0 w0 N st x Q:=At.frz t n ht hb h
end
section
noncomputable def mVals:=mdl (fun l:List TVal=>l.length≤8796093022207) (fun l=>[aL cVal l]) (fun l=>rB (decide (valsOk l)))
theorem mVals_eq (l:List TVal)(h:l.length≤8796093022207):mVals [aL cVal l]=some (rB (decide (valsOk l))):=mdl_eq (by intro a b h;simpa using h) l h
theorem valsS_s:Sound Tryz.prog 75 mVals:=Sound.listB (s:=2) (fun _=>rfl) fun v l w hl h=>(valsOk_spec v l w h hl).mono fun e w' h=>h.says
theorem valsI_s:Sound Tryz.prog 168 mVals:=Sound.listB (s:=2) (fun _=>rfl) fun v l w hl h=>valsOk_impl v l w h hl
theorem vals_at {l:List TVal}(h:valsOk l){k:Nat}(hk:k<l.length):1≤l[k].1∧l[k].1≤99∧1≤l[k].2∧l[k].2≤1000:=by
 have:=h.2 k hk
 unfold valAt at this
 simp only [List.getD_eq_getElem?_getD,gsE hk,Option.getD_some]at this
 exact⟨this.1,this.2.1,this.2.2.1,this.2.2.2.1⟩
def powC (p:Int→Bool)(v:TVal):Int:=if p v.1 then v.2 else 0
def powSum (p:Int→Bool)(l:List TVal):Int:=(l.map (powC p)).sum
theorem pow_in {p:Int→Bool}{l:List TVal}(h:valsOk l)(k:Nat)(hk:k≤l.length):0≤sumK (powC p) l k∧sumK (powC p) l k≤1000*k:=
 sumK_in (m:=1000) (fun k hk=>by
  obtain⟨_,_,h3,h4⟩:=vals_at h hk
  unfold powC
  split<;>omega) k hk
theorem powSum_in (p:Int→Bool){l:List TVal}(h:valsOk l):0≤powSum p l∧powSum p l≤7000:=by
 have:=pow_in (p:=p) h l.length (Nat.le_refl _)
 have h7:=h.1.2
 rw [sumK_all _ (Nat.le_refl _)]at this
 unfold powSum
 omega
def powerOf (l:List TVal):Int:=if valsOk l then powSum (fun _=>true) l else 0
theorem powerOf_in (l:List TVal):0≤powerOf l∧powerOf l≤7000:=by
 unfold powerOf
 split
 ·rename_i h;exact powSum_in _ h
 ·omega
noncomputable def mPower:=mdl (fun l:List TVal=>l.length≤8796093022207) (fun l=>[aL cVal l]) (fun l=>rI (powerOf l))
theorem mPower_eq (l:List TVal)(h:l.length≤8796093022207):mPower [aL cVal l]=some (rI (powerOf l)):=mdl_eq (by intro a b h;simpa using h) l h
theorem powerS_s:Sound Tryz.prog 77 mPower:=by
 refine Sound.mdl Tryz.func77 rfl Tryz.ntmps77 ?_
 rintro l w hl
 refine⟨by simp,?_⟩
 replace hl:l.length≤8796093022207:=hl
 have hΓ:=env_cons (hsO Tryz.func75) valsS_s env_nil
 have c1:=mVals_eq l hl
 refine zI ?_
 by_cases hv:valsOk l
 ·have hz:=sumK_zero (powC fun _=>true) l
  refine zR ?_
  refine W.loopA (fun k=>k≤l.length) (fun k:Nat=>[.slot 4 (vI k),.slot 3 (vI (sumK (powC fun _=>true) l k)),.slot 0 (vL cVal l)]) (fun k=>l.length-k) 0 (Nat.zero_le _) (h:=?_)
  rintro k hk
  obtain⟨s0,s1⟩:=pow_in (p:=fun _=>true) hv k hk
  by_cases hlt:k<l.length
  ·have hrow:=row_at cVal l hlt
   simp only [cVal,List.map_cons,List.map_nil]at hrow
   obtain⟨b1,b2,b3,b4⟩:=vals_at hv hlt
   have h7:=hv.1.2
   have hs:sumK (powC fun _=>true) l (k+1)=sumK (powC fun _=>true) l k+l[k].2:=by rw [sumK_succ _ hlt];simp [powC]
   refine zR ?_
   exact At.roundA (k+1) (by omega) (by omega)
  ·refine zR ?_
   refine At.retA (by rw [Tryz.results77]) (he:=?_)
   rw [sumK_all _ (by omega)]
   simp [powerOf,hv,powSum]
 ·refine zR ?_
  refine W.loopA (fun _=>True) (fun _:Nat=>[.slot 4 (vI 0),.slot 3 (vI 0),.slot 0 (vL cVal l)]) (fun _=>0) 0 trivial (h:=?_)
  rintro k-
  by_cases hlt:0<l.length
  ·refine zR ?_
   refine At.retA (by rw [Tryz.results77]) (he:=?_)
   simp [powerOf,hv]
  ·refine zR ?_
   refine At.retA (by rw [Tryz.results77]) (he:=?_)
   simp [powerOf,hv]
noncomputable def mPow (f:FuncId)(boxes:List (List Leaf))(p:Int→Bool):=mdl (fun l:List TVal=>valsOk l) (fun l=>[aL cVal l,.clo f boxes]) (fun l=>rI (powSum p l))
theorem mPow_eq (f:FuncId)(boxes:List (List Leaf))(p:Int→Bool)(l:List TVal)(h:valsOk l):mPow f boxes p [aL cVal l,.clo f boxes]=some (rI (powSum p l)):=mdl_eq (by intro a b h;simpa using h) l h
theorem pow_s {f:FuncId}{boxes:List (List Leaf)}{p:Int→Bool}{mf:List Arg→Option Res}(hf:Has Tryz.prog f)(hs:Sound Tryz.prog f mf)(hm:∀id,mf ([aI id]++boxes.map fun c=>.row c 0)=some (rB (p id))):Sound Tryz.prog 169 (mPow f boxes p):=by
 refine Sound.mdl Tryz.func169 rfl Tryz.ntmps169 ?_
 rintro l w hv
 refine⟨by simp,?_⟩
 replace hv:valsOk l:=hv
 have hΓ:GSound Tryz.prog (look [(f,mf)]):=env_cons hf hs env_nil
 clear hs hf
 have h7:=hv.1.2
 refine zI ?_
 have hz:=sumK_zero (powC p) l
 refine zR ?_
 refine W.loopA (fun k=>k≤l.length) (fun k:Nat=>[.slot 10 (vI k),.slot 9 (vI l.length),.slot 8 (vL cVal l),.slot 5 (vI (sumK (powC p) l k)),.slot 0 (vL cVal l),.slot 1 (one (.clo f boxes))]) (fun k=>l.length-k) 0 (Nat.zero_le _) (h:=?_)
 rintro k hk
 obtain⟨s0,s1⟩:=pow_in (p:=p) hv k hk
 by_cases hlt:k<l.length
 ·have hrow:=row_at cVal l hlt
  simp only [cVal,List.map_cons,List.map_nil]at hrow
  obtain⟨b1,b2,b3,b4⟩:=vals_at hv hlt
  have hm:=hm l[k].1
  simp only [List.cons_append,List.nil_append]at hm
  cases hp:p l[k].1 with
  |true=>
   have hs:sumK (powC p) l (k+1)=sumK (powC p) l k+l[k].2:=by rw [sumK_succ _ hlt];simp [powC,hp]
   refine zR ?_
   exact At.roundA (k+1) (by omega) (by omega)
  |false=>
   have hs:sumK (powC p) l (k+1)=sumK (powC p) l k:=by rw [sumK_succ _ hlt];simp [powC,hp]
   refine zR ?_
   exact At.roundA (k+1) (by omega) (by omega)
 ·refine zR ?_
  refine At.retA (by rw [Tryz.results169]) (he:=?_)
  rw [sumK_all _ (by omega)]
  rfl
noncomputable def mTrue:=mdl (fun _:Int=>True) (fun x=>[aI x]) (fun _=>rB true)
theorem mTrue_eq (x:Int):mTrue [aI x]=some (rB true):=mdl_eq (by intro a b h;simpa using h) x trivial
theorem true_s:Sound Tryz.prog 217 mTrue:=by
 refine Sound.mdl Tryz.func217 rfl Tryz.ntmps217 ?_
 rintro x w-
 refine⟨by simp,?_⟩
 have hΓ:=eN
 refine zJ ?_
 refine At.retA (by rw [Tryz.results217]) (he:=rfl)
theorem powerI_s:Sound Tryz.prog 172 mPower:=by
 refine Sound.mdl Tryz.func172 rfl Tryz.ntmps172 ?_
 rintro l w hl
 refine⟨by simp,?_⟩
 replace hl:l.length≤8796093022207:=hl
 have hΓ:GSound Tryz.prog (look [(168,mVals),(169,mPow 217 [] fun _=>true)]):=env_cons (hsO Tryz.func168) valsI_s (env_cons (hsO Tryz.func169) (pow_s (hsO Tryz.func217) true_s mTrue_eq) env_nil)
 have c1:=mVals_eq l hl
 refine zI ?_
 by_cases hv:valsOk l
 ·have c2:=mPow_eq 217 [] (fun _=>true) l hv
  refine zR ?_
  refine At.retA (by rw [Tryz.results172]) (he:=?_)
  simp [powerOf,hv]
 ·refine zR ?_
  refine At.retA (by rw [Tryz.results172]) (he:=?_)
  simp [powerOf,hv]
noncomputable def mIn2:=mdl (fun x:List Int×Int=>x.1.length≤8796093022207) (fun x=>[aI x.2,.row [.sl (rowsF cInt x.1)] 0]) (fun x=>rB (decide (x.2∈x.1)))
theorem mIn2_eq (ids:List Int)(h:ids.length≤8796093022207)(x:Int):mIn2 [aI x,.row [.sl (rowsF cInt ids)] 0]=some (rB (decide (x∈ids))):=mdl_eq (by rintro⟨a,b⟩ ⟨d,e⟩ h;simpa [and_comm]using h) (ids,x) h
end
section
def varF:Nat→Nat→List Nat
 |0,n=>[n]
 |k+1,n=>if n<128 then [n]else(n%128+128)::varF k (n/128)
def varL (n:Nat):List Nat:=varF 6 n
theorem varF_lo (k:Nat){n:Nat}(h:n<128):varF k n=[n]:=by
 cases k with
 |zero=>rfl
 |succ k=>simp [varF,h]
theorem varF_hi (k:Nat){n:Nat}(h:¬n<128):varF (k+1) n=(n%128+128)::varF k (n/128):=by simp [varF,h]
theorem varF_len:∀k n,(varF k n).length≤k+1
 |0,n=>by simp [varF]
 |k+1,n=>by
  unfold varF
  split
  ·simp
  ·have:=varF_len k (n/128)
   simp;omega
def bsS (l:List Nat):ByteArray:=⟨(l.map UInt8.ofNat).toArray⟩
def cU8 (n:Nat):List Value:=[.int .u8 (n:Int)]
theorem bytes_rows (l:List Nat):bytesE (rowsF cU8 l)=some (l.map UInt8.ofNat):=by
 induction l with
 |nil=>rfl
 |cons x l ih=>
  unfold bytesE rowsF at*
  simp only [cU8]at ih
  simp only [List.map_cons,List.mapM_cons,cU8,List.map_nil,Option.bind_eq_bind,Option.bind_some,Int.toNat_natCast,Option.pure_def]
  simp only [List.map_cons,List.map_nil]at ih
  rw [ih]
  rfl
def varS (n:Int):ByteArray:=if 0≤n∧n≤562949953421311 then bsS (varL n.toNat)else ByteArray.empty
theorem bsS_size (l:List Nat):(bsS l).size=l.length:=by simp [bsS,ByteArray.size]
theorem varS_size (n:Int):(varS n).size≤7:=by
 unfold varS
 split
 ·rw [bsS_size];exact varF_len 6 _
 ·simp
theorem cU8_app (l:List Nat)(x:Nat):rowsF cU8 l++[[.sc (.int .u8 (x:Int))]]=rowsF cU8 (l++[x]):=by rw [←rowsF_app];rfl
theorem wrap_u8n {n:Nat}(h:n<256):IntKind.u8.wrap (n:Int)=(n:Int):=by
 have:IntKind.u8.wrap (n:Int)=(n:Int)%256:=by simp [IntKind.wrap,IntKind.bits,IntKind.signed]
 rw [this];omega
def VarI (n:Nat)(x:List Nat×Nat×Nat):Prop:=x.1++varF x.2.1 x.2.2=varL n∧x.2.2<128^(x.2.1+1)∧x.2.2≤562949953421311
theorem VarI.lt {n:Nat}{x:List Nat×Nat×Nat}(h:VarI n x)(hk:¬x.2.2<128):∃k,x.2.1=k+1:=by
 obtain⟨l,k,m⟩:=x
 cases k with
 |zero=>exact absurd h.2.1 (by simpa using hk)
 |succ k=>exact⟨k,rfl⟩
theorem VarI.len {n:Nat}{x:List Nat×Nat×Nat}(h:VarI n x):x.1.length≤7:=by
 have h1:=congrArg List.length h.1
 have h2:(varL n).length≤7:=varF_len 6 n
 rw [List.length_append]at h1
 omega
theorem VarI.next {n k m:Nat}{l:List Nat}(h:VarI n (l,k+1,m))(hk:¬m<128):VarI n (l++[m%128+128],k,m/128):=by
 obtain⟨h1,h2,h3⟩:=h
 dsimp only at h1 h2 h3
 refine⟨?_,?_,by dsimp only;omega⟩
 ·dsimp only
  rw [varF_hi _ hk]at h1
  rw [List.append_assoc]
  exact h1
 ·dsimp only
  rw [Nat.pow_succ]at h2
  omega
theorem VarI.last {n k m:Nat}{l:List Nat}(h:VarI n (l,k,m))(hk:m<128):l++[m]=varL n:=by
 have:=h.1
 dsimp only at this
 rw [varF_lo _ hk]at this
 exact this
theorem varS_of {n:Nat}(h:n≤562949953421311):varS n=bsS (varL n):=by
 unfold varS
 rw [if_pos ⟨by omega,by omega⟩,Int.toNat_natCast]
noncomputable def mVar:=mdl (fun _:Int=>True) (fun n=>[aI n]) (fun n=>rS (varS n))
theorem mVar_eq (n:Int):mVar [aI n]=some (rS (varS n)):=mdl_eq (by intro a b h;simpa using h) n trivial
theorem varS_no {n:Int}(h:¬(0≤n∧n≤562949953421311)):varS n=ByteArray.empty:=if_neg h
theorem varSpec_s:Sound Tryz.prog 106 mVar:=by
 refine Sound.mdl Tryz.func106 rfl Tryz.ntmps106 ?_
 rintro n w-
 refine⟨by simp,?_⟩
 have hΓ:=env_cons (hsO Tryz.func39) l1In_s env_nil
 have c1:=mIn_eq n 0 562949953421311
 refine zI ?_
 by_cases hn:0≤n∧n≤562949953421311
 ·obtain⟨m0,rfl⟩:=Int.eq_ofNat_of_zero_le hn.1
  have hnil:rowsF cU8 []=[]:=rfl
  refine zR ?_
  refine W.loopA (VarI m0) (fun x=>[.slot 0 (vI x.2.2),.slot 3 (one (.all 7)),.blk 7 (.arr .ft 5 1 (rowsF cU8 x.1))]) (fun x=>x.2.2) ([],6,m0) ⟨rfl,by simp;omega,by dsimp only;omega⟩ (h:=?_)
  rintro⟨l,k,m⟩ hI
  have hln:l.length≤7:=hI.len
  dsimp only
  by_cases hm:m<128
  ·have hl:varS (m0:Int)=bsS (l++[m]):=by rw [varS_of (by omega),hI.last hm]
   have e:=cU8_app l m
   have hw:=wrap_u8n (n:=m) (by omega)
   have hb:=bytes_rows (l++[m])
   clear hI
   refine zR ?_
   refine At.retA (by rw [Tryz.results106]) (he:=?_)
   rw [hl]
   rfl
  ·obtain⟨k,rfl⟩:∃k',k=k'+1:=hI.lt hm
   have hnx:=hI.next hm
   have hle:m≤9223372036854775807:=by
    have h2:m≤562949953421311:=hI.2.2
    omega
   have t1:(m:Int).tmod 128=((m%128:Nat):Int):=by rw [Int.tmod_eq_emod_of_nonneg (by omega)];omega
   have t2:(m:Int).tdiv 128=((m/128:Nat):Int):=by rw [Int.tdiv_eq_ediv_of_nonneg (by omega)];omega
   have hw:IntKind.u8.wrap (128+((m%128:Nat):Int))=((m%128+128:Nat):Int):=by
    rw [show 128+((m%128:Nat):Int)=((m%128+128:Nat):Int)by omega]
    exact wrap_u8n (by omega)
   have e:=cU8_app l (m%128+128)
   clear hI
   refine zR ?_
   exact At.roundA (l++[m%128+128],k,m/128) hnx (by dsimp only;omega)
 ·have hv:=varS_no hn
  refine zR ?_
  refine At.retA (by rw [Tryz.results106]) (he:=?_)
  rw [hv]
  rfl
theorem varImpl_s:Sound Tryz.prog 232 mVar:=by
 refine Sound.mdl Tryz.func232 rfl Tryz.ntmps232 ?_
 rintro n w-
 refine⟨by simp,?_⟩
 have hΓ:=env_cons (hsO Tryz.func139) within_s env_nil
 have c1:=mWithin_eq n 0 562949953421311
 refine zI ?_
 by_cases hn:0≤n∧n≤562949953421311
 ·obtain⟨m0,rfl⟩:=Int.eq_ofNat_of_zero_le hn.1
  have hnil:rowsF cU8 []=[]:=rfl
  refine zR ?_
  refine W.loopA (VarI m0) (fun x=>[.slot 0 (vI x.2.2),.slot 3 (one (.all 7)),.blk 7 (.arr .ft 5 1 (rowsF cU8 x.1))]) (fun x=>x.2.2) ([],6,m0) ⟨rfl,by simp;omega,by dsimp only;omega⟩ (h:=?_)
  rintro⟨l,k,m⟩ hI
  have hln:l.length≤7:=hI.len
  dsimp only
  by_cases hm:m<128
  ·have hl:varS (m0:Int)=bsS (l++[m]):=by rw [varS_of (by omega),hI.last hm]
   have e:=cU8_app l m
   have hw:=wrap_u8n (n:=m) (by omega)
   have hb:=bytes_rows (l++[m])
   clear hI
   refine zR ?_
   refine At.retA (by rw [Tryz.results232]) (he:=?_)
   rw [hl]
   rfl
  ·obtain⟨k,rfl⟩:∃k',k=k'+1:=hI.lt hm
   have hnx:=hI.next hm
   have hle:m<9223372036854775808:=by
    have h2:m≤562949953421311:=hI.2.2
    omega
   have t1:bits .and .i64 (m:Int) 127=((m%128:Nat):Int):=by
    have:=and_i64 (a:=m) (b:=127) hle (by omega)
    rw [show(127:Nat)=2^7-1 from rfl,Nat.and_two_pow_sub_one_eq_mod]at this
    exact this
   have t3:bits .or .i64 ((m%128:Nat):Int) 128=((m%128+128:Nat):Int):=by
    have:=or_i64 (a:=m%128) (b:=128) (by omega) (by omega)
    rw [show m%128|||128=m%128+128 from by
     have h:128+m%128=128|||m%128:=Nat.two_pow_add_eq_or_of_lt (i:=7) (b:=m%128) (by omega) 1
     rw [Nat.or_comm,←h]
     omega]at this
    exact this
   have m7:min 7 IntKind.i64.bits=7:=rfl
   have t2:(m:Int).fdiv (2^7)=((m/128:Nat):Int):=fdiv_nat m 7
   have hw:=wrap_u8n (n:=m%128+128) (by omega)
   have e:=cU8_app l (m%128+128)
   clear hI
   refine zR ?_
   exact At.roundA (l++[m%128+128],k,m/128) hnx (by dsimp only;omega)
 ·have hv:=varS_no hn
  refine zR ?_
  refine At.retA (by rw [Tryz.results232]) (he:=?_)
  rw [hv]
  rfl
end
section
theorem W.meet2 {P:Program}{γ0:Nat→Option Nat}{w0:World}{N:Nat}{st:St}{c0 c:Code}{Q0 Q:Exit→Act→World→Prop}{ι:Type}(I:ι→Prop)(J:ι→St)(main:(∀i,I i→W P γ0 w0 N (J i) c Q)→W P γ0 w0 N st c0 Q0)(part:∀i,I i→W P γ0 w0 N (J i) c Q):W P γ0 w0 N st c0 Q0:=main part
end
section
abbrev aV (n:Nat):Arg:=.val false [.sc (.int .u64 (n:Int))]
theorem and_maskI (x:Int):bits .and .i64 x 4294967295=(((x%4294967296).toNat:Nat):Int):=by
 show IntKind.i64.wrap ((BitVec.ofInt 64 x&&&BitVec.ofInt 64 4294967295).toNat:Int)=_
 have h1:(BitVec.ofInt 64 4294967295).toNat=2^32-1:=rfl
 rw [BitVec.toNat_and,h1,Nat.and_two_pow_sub_one_eq_mod,BitVec.toNat_ofInt,wrap_i64n (by omega)]
 have h2:((2^64:Nat):Int)=18446744073709551616:=rfl
 rw [h2]
 omega
theorem not_xor {e:Nat}(h:e<4294967296):4294967295^^^e=4294967295-e:=by
 have h1:(BitVec.allOnes 32^^^BitVec.ofNat 32 e).toNat=4294967295^^^e:=by
  rw [BitVec.toNat_xor,BitVec.toNat_ofNat,Nat.mod_eq_of_lt h]
  rfl
 rw [←h1,BitVec.allOnes_xor,BitVec.toNat_not,BitVec.toNat_ofNat,Nat.mod_eq_of_lt h]
theorem not_i64 {e:Nat}(h:e<4294967296):bits .xor .i64 (if IntKind.i64.signed=true then-1 else IntKind.i64.max) (e:Int)= -(e:Int)-1:=by
 show IntKind.i64.wrap ((BitVec.ofInt 64 (-1)^^^BitVec.ofInt 64 (e:Int)).toNat:Int)=_
 have h1:BitVec.ofInt 64 (-1)=BitVec.allOnes 64:=by decide
 rw [h1,BitVec.allOnes_xor,BitVec.toNat_not,ofInt_nat (by omega)]
 have h3:IntKind.i64.wrap (((2^64-1-e:Nat)):Int)=((2^64-1-e:Nat):Int)-18446744073709551616:=by
  simp only [IntKind.wrap,IntKind.bits,IntKind.signed]
  simp
  omega
 rw [h3]
 omega
noncomputable def mWd:=mdl (fun _:Int=>True) (fun x=>[aI x]) (fun x=>rNat ((x%4294967296).toNat))
theorem mWd_any (x:Int):mWd [aI x]=some (rNat ((x%4294967296).toNat)):=mdl_eq (by intro a b h;simpa using h) x trivial
theorem mWd_eq (x:Nat)(h:x<9223372036854775808):mWd [aI (x:Int)]=some (rNat (x%4294967296)):=by
 rw [mWd_any]
 congr 6
theorem mWd_neg {e:Nat}(h:e<4294967296):mWd [aI (-(e:Int)-1)]=some (rNat (4294967295^^^e)):=by
 rw [mWd_any,not_xor h]
 congr 6
 omega
theorem l3Word_s:Sound Tryz.prog 137 mWd:=by
 refine Sound.mdl Tryz.func137 rfl Tryz.ntmps137 ?_
 rintro x w-
 refine⟨by simp,?_⟩
 have hΓ:=eN
 have e:=and_maskI x
 refine zJ ?_
 refine At.retA (by rw [Tryz.results137]) (he:=rfl)
noncomputable def mRight:=mdl (fun x:Nat×Nat=>x.1<4294967296∧2≤x.2∧x.2≤31) (fun x=>[aI (x.1:Int),aV x.2]) (fun x=>rNat (rotr x.1 x.2))
theorem mRight_eq (x n:Nat)(h:x<4294967296)(h1:2≤n)(h2:n≤31):mRight [aI (x:Int),aV n]=some (rNat (rotr x n)):=mdl_eq (by rintro⟨a,b⟩ ⟨d,e⟩ h;simp at h;simp;omega) (x,n) ⟨h,h1,h2⟩
theorem l3Right_s:Sound Tryz.prog 136 mRight:=by
 refine Sound.mdl Tryz.func136 rfl Tryz.ntmps136 ?_
 rintro⟨x,n⟩ w ⟨hx,h1,h2⟩
 refine⟨by simp,?_⟩
 dsimp only at hx h1 h2
 have hΓ:=env_cons (hsO Tryz.func137) l3Word_s env_nil
 have e1:IntKind.u64.wrap (32-(n:Int))=((32-n:Nat):Int):=by
  rw [IntKind.wrap_u64]
  omega
 have m1:min n IntKind.i64.bits=n:=by show min n 64=_;omega
 have m2:min (32-n) IntKind.i64.bits=32-n:=by show min (32-n) 64=_;omega
 have hb:x*2^(32-n)<9223372036854775808:=by
  have h3:2^(32-n)≤2^30:=Nat.pow_le_pow_right (by omega) (by omega)
  have h4:x*2^(32-n)≤x*2^30:=Nat.mul_le_mul_left _ h3
  omega
 have e2:ar .i64 ((x:Int)*2^(32-n))=some (.int .i64 ((x*2^(32-n):Nat):Int)):=by
  rw [mul_pow_nat]
  exact ar_in (by omega) (by omega)
 have e3:=fdiv_nat x n
 have hd:x/2^n<9223372036854775808:=Nat.lt_of_le_of_lt (Nat.div_le_self _ _) (by omega)
 have e4:=or_i64 hd hb
 have ho:x/2^n|||x*2^(32-n)<9223372036854775808:=by
  have:=Nat.or_lt_two_pow (n:=63) (x:=x/2^n) (y:=x*2^(32-n)) (by omega) (by omega)
  omega
 have c1:=mWd_eq _ ho
 clear hb hd ho
 refine zJ ?_
 refine At.retA (by rw [Tryz.results136]) (he:=rfl)
def be4 (a b c d:Nat):Nat:=((a*2^24|||b*2^16)|||c*2^8)|||d
theorem be4_lt {a b c d:Nat}(ha:a<256)(hb:b<256)(hc:c<256)(hd:d<256):be4 a b c d<4294967296:=by
 unfold be4
 have h1:=Nat.or_lt_two_pow (n:=32) (x:=a*2^24) (y:=b*2^16) (by omega) (by omega)
 have h2:=Nat.or_lt_two_pow (n:=32) (y:=c*2^8) h1 (by omega)
 have h3:=Nat.or_lt_two_pow (n:=32) (y:=d) h2 (by omega)
 omega
def byteU (s:ByteArray)(i:Nat):UInt8:=s.data.toList.getD i 0
def byteN (s:ByteArray)(i:Nat):Nat:=(byteU s i).toNat
theorem byteN_lt (s:ByteArray)(i:Nat):byteN s i<256:=UInt8.toNat_lt _
theorem byteN_eq (s:ByteArray)(i:Nat):(byteU s i).toNat=byteN s i:=rfl
theorem byte_at {s:ByteArray}{i:Nat}(h:i<s.size):s.data.toList[i]?=some (byteU s i):=by
 unfold byteU
 have hl:i<s.data.toList.length:=by simpa using h
 rw [gsE hl,List.getD_eq_getElem?_getD,gsE hl]
 rfl
theorem wrap_u32i {n:Nat}(h:n<4294967296):IntKind.u32.wrap (n:Int)=(n:Int):=by rw [wrap_u32n,Nat.mod_eq_of_lt h]
theorem shl_u32 {a n:Nat}(h:a*2^n<4294967296):IntKind.u32.wrap ((a:Int)*2^n)=((a*2^n:Nat):Int):=by rw [mul_pow_nat,wrap_u32i h]
noncomputable def mWord:=mdl (fun s:ByteArray=>4≤s.size) (fun s=>[aS s]) (fun s=>rU (be4 (byteN s 0) (byteN s 1) (byteN s 2) (byteN s 3)))
theorem mWord_eq (s:ByteArray)(h:4≤s.size):mWord [aS s]=some (rU (be4 (byteN s 0) (byteN s 1) (byteN s 2) (byteN s 3))):=mdl_eq (by intro a b h;simpa using h) s h
theorem word_s:Sound Tryz.prog 253 mWord:=by
 refine Sound.mdl Tryz.func253 rfl Tryz.ntmps253 ?_
 rintro s w hs
 refine⟨by simp,?_⟩
 replace hs:4≤s.size:=hs
 have hΓ:=eN
 have i0:=byte_at (s:=s) (i:=0) (by omega)
 have i1:=byte_at (s:=s) (i:=1) (by omega)
 have i2:=byte_at (s:=s) (i:=2) (by omega)
 have i3:=byte_at (s:=s) (i:=3) (by omega)
 have hN:=byteN_eq s
 have b0:=byteN_lt s 0
 have b1:=byteN_lt s 1
 have b2:=byteN_lt s 2
 have b3:=byteN_lt s 3
 have w0:=wrap_u32i (n:=byteN s 0) (by omega)
 have w1:=wrap_u32i (n:=byteN s 1) (by omega)
 have w2:=wrap_u32i (n:=byteN s 2) (by omega)
 have w3:=wrap_u32i (n:=byteN s 3) (by omega)
 have m1:min 24 IntKind.u32.bits=24:=rfl
 have m2:min 16 IntKind.u32.bits=16:=rfl
 have m3:min 8 IntKind.u32.bits=8:=rfl
 have s0:=shl_u32 (a:=byteN s 0) (n:=24) (by omega)
 have s1:=shl_u32 (a:=byteN s 1) (n:=16) (by omega)
 have s2:=shl_u32 (a:=byteN s 2) (n:=8) (by omega)
 have o1:=or_u32 (a:=byteN s 0*2^24) (b:=byteN s 1*2^16) (by omega) (by omega)
 have l1:=Nat.or_lt_two_pow (n:=32) (x:=byteN s 0*2^24) (y:=byteN s 1*2^16) (by omega) (by omega)
 have o2:=or_u32 (a:=byteN s 0*2^24|||byteN s 1*2^16) (b:=byteN s 2*2^8) (by omega) (by omega)
 have l2:=Nat.or_lt_two_pow (n:=32) (y:=byteN s 2*2^8) l1 (by omega)
 have o3:=or_u32 (a:=(byteN s 0*2^24|||byteN s 1*2^16)|||byteN s 2*2^8) (b:=byteN s 3) (by omega) (by omega)
 clear l1 l2 b0 b1 b2 b3
 refine zJ ?_
 refine W.drawB hΓ 19 [[],[0],[0,1],[0,1,2],[],[4],[4,5],[4,5,6],[0,1,2,3,4,5,6,7],[],[9],[9,10],[9,10,11],[0,1,2,3,4,5,6,7,8,9,10,11,12],[],[14],[14,15],[0,1,2,3,4,5,6,7,8,9,10,11,12,13,14,15,16],[0,1,2,3,4,5,6,7,8,9,10,11,12,13,14,15,16,17]] (Es:=?Es12) (rest:=?rest12) (st1:=?st112) ?_
 refine zQ ?_
 refine At.retA (by rw [Tryz.results253]) (he:=rfl)
end
end Go.Proofs.YtfgkfcfplodaoaaGreatDoor
