/-
  Put together out of 6 texts.
-/
import Derived.Test.YtfgkfcfplodaoaaGreatDoorG0
import Derived.IntWalk
set_option linter.unusedSimpArgs false
set_option linter.unusedVariables false
set_option maxRecDepth 100000
namespace Go.Proofs.YtfgkfcfplodaoaaGreatDoor
section
open Go.RowKit
abbrev TVal:=Int×Int
def cVal (x:TVal):List Value:=[.int .i64 x.1,.int .i64 x.2]
end
section
open Go.RowKit
abbrev THeader:=Int×Int×ByteArray×ByteArray×ByteArray×ByteArray
def cHeader (x:THeader):List Value:=[.int .i64 x.1,.int .i64 x.2.1,.string x.2.2.1,.string x.2.2.2.1,.string x.2.2.2.2.1,.string x.2.2.2.2.2]
end
section
open Go.RowKit
end
section
open Go.RowKit
end
section
open Go.RowKit
abbrev TCSig:=Int×ByteArray
def cCSig (x:TCSig):List Value:=[.int .i64 x.1,.string x.2]
end
section
open Go.RowKit
def valAt (l:List TVal)(k:Nat):Prop:=
 1≤(l.getD k (0,0)).1∧(l.getD k (0,0)).1≤99∧1≤(l.getD k (0,0)).2∧(l.getD k (0,0)).2≤1000∧(0<k→(l.getD (k-1) (0,0)).1<(l.getD k (0,0)).1)
instance (l:List TVal)(k:Nat):Decidable (valAt l k):=by unfold valAt;infer_instance
def valsOk (l:List TVal):Prop:=(1≤l.length∧l.length≤7)∧∀k,k<l.length→valAt l k
instance (l:List TVal):Decidable (valsOk l):=by unfold valsOk;infer_instance
set_option maxHeartbeats 4000000 in
theorem valsOk_spec (v:Value)(l:List TVal)(w:World)(h:RdS w w.heap.size 2 cVal v l)(hn:l.length≤8796093022207):
  Calls Tryz.prog 75 #[v] w (Quiet (.bool (decide (valsOk l))) w):=by
 obtain⟨A,c,rfl,hlc,hcm,hcell⟩:=h
 by_cases hlen:l.length<1∨7<l.length
 ·have hne:decide (valsOk l)=false:=decide_eq_false fun e=>by have:=e.1;omega
  rw [hne]
  go_enter Tryz.func75,Tryz.ntmps75
  go_wp2_with fail
  refine(l1In_no _ _ _ _ (by omega)).mono ?_
  rintro e w' ⟨rfl,rfl⟩
  go_wp2_with fail
  go_ret
  exact⟨rfl,QW.refl _⟩
 have hlen1:1≤l.length:=by omega
 have hlen2:l.length≤7:=by omega
 clear hlen
 go_enter Tryz.func75,Tryz.ntmps75
 go_wp2_with fail
 refine(l1In_yes _ _ _ _ (by omega) (by omega)).mono ?_
 rintro e w' ⟨rfl,hw⟩
 subst w'
 go_wp2_with fail
 go_loopw [3] (fun i wr=>∃k:Nat,k≤l.length∧i=.int .i64 k∧QW w wr∧∀j,j<k→valAt l j) (fun i _=>l.length-(intOf i).toNat)
 case atStart=>exact⟨0,Nat.zero_le _,rfl,QW.refl _,by omega⟩
 case round=>
  obtain⟨k,hk,rfl,hb,hall⟩:=hrel
  have HA:=Lib.hid hall
  clear hall
  by_cases hlt:k<l.length
  ·obtain⟨b,off,rfl,hbb,hc⟩:=hcell (by intro e;simp [e]at hlt)
   have hx0:=(QW.cell hb ⟨b,off+k*2+0,none⟩).trans<|hc k _ (List.getElem?_eq_getElem hlt) 0 _ rfl
   have hx1:=(QW.cell hb ⟨b,off+k*2+1,none⟩).trans<|hc k _ (List.getElem?_eq_getElem hlt) 1 _ rfl
   simp only [Nat.add_zero]at hx0
   have hg:l.getD k (0,0)=l[k]:=by simp [List.getD,hlt]
   have bad:¬valAt l k→decide (valsOk l)=false:=fun h=>decide_eq_false fun e=>h (e.2 k hlt)
   unfold valAt at bad
   rw [hg]at bad
   have HB:=Lib.hid bad
   clear bad
   by_cases p0:1≤l[k].1∧l[k].1≤99
   ·obtain⟨p0a,p0b⟩:=p0
    by_cases p1:1≤l[k].2∧l[k].2≤1000
    ·obtain⟨p1a,p1b⟩:=p1
     by_cases k0:0<k
     ·have hlt':k-1<l.length:=by omega
      have hg':l.getD (k-1) (0,0)=l[k-1]:=by simp [List.getD,hlt']
      have hz0:=(QW.cell hb ⟨b,off+(k-1)*2+0,none⟩).trans<|hc (k-1) _ (List.getElem?_eq_getElem hlt') 0 _ rfl
      have hz1:=(QW.cell hb ⟨b,off+(k-1)*2+1,none⟩).trans<|hc (k-1) _ (List.getElem?_eq_getElem hlt') 1 _ rfl
      simp only [Nat.add_zero]at hz0
      have HG:=Lib.hid hg
      have HG':=Lib.hid hg'
      clear hg hg' hc hcell
      have e1:IntKind.i64.wrap ((k:Int)-1)=(k:Int)-1:=IntWalk.i64_in _ (by omega)
      have e2:(0:Int)≤(k:Int)-1:=by omega
      have e3:((k:Int)-1).toNat=k-1:=by omega
      by_cases c1:l[k-1].1<l[k].1
      ·have d1:decide (l[k].1≤l[k-1].1)=false:=decide_eq_false (by omega)
       go_wp2
       go_quiet ((go_at_call 39;first|exact Calls.quiet_of_same (l1In_yes _ _ _ _ (by omega) (by omega))|exact Calls.quiet_of_same (l1In_no _ _ _ _ (by omega))))
       go_wp2
       go_roundw
       case rel=>
        refine⟨k+1,by omega,by go_num,QW.drewN hb _,fun j hj=>?_⟩
        rcases Nat.lt_or_ge j k with h|h
        ·exact HA.out j h
        ·obtain rfl:j=k:=by omega
         unfold valAt
         rw [HG.out,HG'.out]
         exact⟨p0a,p0b,p1a,p1b,fun _=>c1⟩
       case measure=>simp [intOf];omega
      ·have d1:decide (l[k].1≤l[k-1].1)=true:=decide_eq_true (by omega)
       have HN:=Lib.hid (HB.out (by rw [HG'.out];intro e;have e:=e.2.2.2.2 k0;exact c1 e))
       go_wp2
       go_quiet ((go_at_call 39;first|exact Calls.quiet_of_same (l1In_yes _ _ _ _ (by omega) (by omega))|exact Calls.quiet_of_same (l1In_no _ _ _ _ (by omega))))
       go_wp2
       go_ret
       exact⟨ret_bool HN.out.symm,QW.drewN hb _⟩
     ·have HG:=Lib.hid hg
      clear hg hc hcell
      have hd:decide ((0:Int)<(k:Int))=false:=decide_eq_false (by omega)
      go_wp2
      go_quiet ((go_at_call 39;first|exact Calls.quiet_of_same (l1In_yes _ _ _ _ (by omega) (by omega))|exact Calls.quiet_of_same (l1In_no _ _ _ _ (by omega))))
      go_wp2
      go_roundw
      case rel=>
       refine⟨k+1,by omega,by go_num,QW.drewN hb _,fun j hj=>?_⟩
       rcases Nat.lt_or_ge j k with h|h
       ·exact HA.out j h
       ·obtain rfl:j=k:=by omega
        unfold valAt
        rw [HG.out]
        exact⟨p0a,p0b,p1a,p1b,fun h=>absurd h k0⟩
      case measure=>simp [intOf];omega
    ·have HN:=Lib.hid (HB.out (by intro e;exact p1 ⟨e.2.2.1,e.2.2.2.1⟩))
     clear hg hc hcell
     have p1':l[k].2<1∨1000<l[k].2:=by omega
     clear p1
     go_wp2
     go_quiet ((go_at_call 39;first|exact Calls.quiet_of_same (l1In_yes _ _ _ _ (by omega) (by omega))|exact Calls.quiet_of_same (l1In_no _ _ _ _ (by omega))))
     go_wp2
     go_ret
     exact⟨ret_bool HN.out.symm,QW.drewN hb _⟩
   ·have HN:=Lib.hid (HB.out (by intro e;exact p0 ⟨e.1,e.2.1⟩))
    clear hg hc hcell
    have p0':l[k].1<1∨99<l[k].1:=by omega
    clear p0
    go_wp2
    go_quiet ((go_at_call 39;first|exact Calls.quiet_of_same (l1In_yes _ _ _ _ (by omega) (by omega))|exact Calls.quiet_of_same (l1In_no _ _ _ _ (by omega))))
    go_wp2
    go_ret
    exact⟨ret_bool HN.out.symm,QW.drewN hb _⟩
  ·have hok:decide (valsOk l)=true:=decide_eq_true ⟨⟨by omega,by omega⟩,fun j hj=>HA.out j (by omega)⟩
   have HN:=Lib.hid hok
   clear hok
   go_wp2
   go_ret
   exact⟨ret_bool HN.out.symm,hb⟩
set_option maxHeartbeats 4000000 in
theorem valsOk_impl (v:Value)(l:List TVal)(w:World)(h:RdS w w.heap.size 2 cVal v l)(hn:l.length≤8796093022207):
  Calls Tryz.prog 168 #[v] w (SaysB (decide (valsOk l)) w):=by
 obtain⟨A,c,rfl,hlc,hcm,hcell⟩:=h
 go_enter Tryz.func168,Tryz.ntmps168
 go_wp2
 go_loopw [7] (fun i wr=>∃k:Nat,k≤l.length∧i=.int .i64 k∧Keeps w wr∧∀j,j<k→valAt l j) (fun i _=>l.length-(intOf i).toNat)
 case atStart=>exact⟨0,Nat.zero_le _,rfl,Keeps.refl _,by omega⟩
 case round=>
  obtain⟨k,hk,rfl,hb,hall⟩:=hrel
  have HA:=Lib.hid hall
  clear hall
  by_cases hlt:k<l.length
  ·obtain⟨b,off,rfl,hbb,hc⟩:=hcell (by intro e;simp [e]at hlt)
   have hbw:b<wr.heap.size:=Nat.lt_of_lt_of_le hbb (Below.size hb)
   have hx0:=(Below.cell hb (p:=⟨b,off+k*2+0,none⟩) hbb).trans<|hc k _ (List.getElem?_eq_getElem hlt) 0 _ rfl
   have hx1:=(Below.cell hb (p:=⟨b,off+k*2+1,none⟩) hbb).trans<|hc k _ (List.getElem?_eq_getElem hlt) 1 _ rfl
   simp only [Nat.add_zero]at hx0
   have hg:l.getD k (0,0)=l[k]:=by simp [List.getD,hlt]
   have bad:¬valAt l k→decide (valsOk l)=false:=fun h=>decide_eq_false fun e=>h (e.2 k hlt)
   unfold valAt at bad
   rw [hg]at bad
   have HB:=Lib.hid bad
   clear bad
   by_cases p0:1≤l[k].1∧l[k].1≤99
   ·obtain⟨p0a,p0b⟩:=p0
    by_cases p1:1≤l[k].2∧l[k].2≤1000
    ·obtain⟨p1a,p1b⟩:=p1
     by_cases k0:0<k
     ·have hlt':k-1<l.length:=by omega
      have hg':l.getD (k-1) (0,0)=l[k-1]:=by simp [List.getD,hlt']
      have hz0:=(Below.cell hb (p:=⟨b,off+(k-1)*2+0,none⟩) hbb).trans<|hc (k-1) _ (List.getElem?_eq_getElem hlt') 0 _ rfl
      have hz1:=(Below.cell hb (p:=⟨b,off+(k-1)*2+1,none⟩) hbb).trans<|hc (k-1) _ (List.getElem?_eq_getElem hlt') 1 _ rfl
      simp only [Nat.add_zero]at hz0
      have HG:=Lib.hid hg
      have HG':=Lib.hid hg'
      clear hg hg' hc hcell
      have e1:IntKind.i64.wrap ((k:Int)-1)=(k:Int)-1:=IntWalk.i64_in _ (by omega)
      have e2:(0:Int)≤(k:Int)-1:=by omega
      have e3:((k:Int)-1).toNat=k-1:=by omega
      by_cases c1:l[k-1].1<l[k].1
      ·have d1:decide (l[k].1≤l[k-1].1)=false:=decide_eq_false (by omega)
       go_wp2
       go_quiet ((go_at_call 139;first|exact Calls.quiet_of_same (within_yes _ _ _ _ (by omega) (by omega))|exact Calls.quiet_of_same (within_no _ _ _ _ (by omega))))
       go_wp2
       go_roundw
       case rel=>
        refine⟨k+1,by omega,by go_num,hb.tr (below_drewN (Below.alloc (Below.refl _ _) (Nat.le_refl _) _) _),fun j hj=>?_⟩
        rcases Nat.lt_or_ge j k with h|h
        ·exact HA.out j h
        ·obtain rfl:j=k:=by omega
         unfold valAt
         rw [HG.out,HG'.out]
         exact⟨p0a,p0b,p1a,p1b,fun _=>c1⟩
       case measure=>simp [intOf];omega
      ·have d1:decide (l[k].1≤l[k-1].1)=true:=decide_eq_true (by omega)
       have HN:=Lib.hid (HB.out (by rw [HG'.out];intro e;have e:=e.2.2.2.2 k0;exact c1 e))
       go_wp2
       go_quiet ((go_at_call 139;first|exact Calls.quiet_of_same (within_yes _ _ _ _ (by omega) (by omega))|exact Calls.quiet_of_same (within_no _ _ _ _ (by omega))))
       go_wp2
       go_ret
       exact⟨ret_bool HN.out.symm,hb.tr (below_drewN (Below.alloc (Below.refl _ _) (Nat.le_refl _) _) _)⟩
     ·have HG:=Lib.hid hg
      clear hg hc hcell
      have hd:decide ((0:Int)<(k:Int))=false:=decide_eq_false (by omega)
      go_wp2
      go_quiet ((go_at_call 139;first|exact Calls.quiet_of_same (within_yes _ _ _ _ (by omega) (by omega))|exact Calls.quiet_of_same (within_no _ _ _ _ (by omega))))
      go_wp2
      go_roundw
      case rel=>
       refine⟨k+1,by omega,by go_num,hb.tr (below_drewN (Below.alloc (Below.refl _ _) (Nat.le_refl _) _) _),fun j hj=>?_⟩
       rcases Nat.lt_or_ge j k with h|h
       ·exact HA.out j h
       ·obtain rfl:j=k:=by omega
        unfold valAt
        rw [HG.out]
        exact⟨p0a,p0b,p1a,p1b,fun h=>absurd h k0⟩
      case measure=>simp [intOf];omega
    ·have HN:=Lib.hid (HB.out (by intro e;exact p1 ⟨e.2.2.1,e.2.2.2.1⟩))
     clear hg hc hcell
     have p1':l[k].2<1∨1000<l[k].2:=by omega
     clear p1
     go_wp2
     go_quiet ((go_at_call 139;first|exact Calls.quiet_of_same (within_yes _ _ _ _ (by omega) (by omega))|exact Calls.quiet_of_same (within_no _ _ _ _ (by omega))))
     go_wp2
     go_ret
     exact⟨ret_bool HN.out.symm,hb.tr (below_drewN (Below.alloc (Below.refl _ _) (Nat.le_refl _) _) _)⟩
   ·have HN:=Lib.hid (HB.out (by intro e;exact p0 ⟨e.1,e.2.1⟩))
    clear hg hc hcell
    have p0':l[k].1<1∨99<l[k].1:=by omega
    clear p0
    go_wp2
    go_quiet ((go_at_call 139;first|exact Calls.quiet_of_same (within_yes _ _ _ _ (by omega) (by omega))|exact Calls.quiet_of_same (within_no _ _ _ _ (by omega))))
    go_wp2
    go_ret
    exact⟨ret_bool HN.out.symm,hb.tr (below_drewN (Below.alloc (Below.refl _ _) (Nat.le_refl _) _) _)⟩
  ·by_cases h7:1≤l.length∧l.length≤7
   ·have HN:=Lib.hid (show decide (valsOk l)=true from decide_eq_true ⟨h7,fun j hj=>HA.out j (by omega)⟩)
    go_wp2_with fail
    refine(within_yes _ _ _ _ (by omega) (by omega)).mono ?_
    rintro e w' ⟨rfl,hw⟩
    subst w'
    go_wp2_with fail
    go_ret
    exact⟨ret_bool HN.out.symm,hb⟩
   ·have HN:=Lib.hid (show decide (valsOk l)=false from decide_eq_false (fun e=>h7 e.1))
    go_wp2_with fail
    refine(within_no _ _ _ _ (by omega)).mono ?_
    rintro e w' ⟨rfl,hw⟩
    subst w'
    go_wp2_with fail
    go_ret
    exact⟨ret_bool HN.out.symm,hb⟩
end
end Go.Proofs.YtfgkfcfplodaoaaGreatDoor
