/-
 Lemmas, put together: dictP20.
 No conditions.
-/
import Derived.Test.YticigkhhhmiglaadictBDictPutsUpto1
set_option linter.unusedSimpArgs false
set_option linter.unusedVariables false
section
namespace Go.Proofs.Yticigkhhhmiglaa
open Go Go.Sx
set_option linter.unusedVariables false
set_option linter.unusedSimpArgs false
theorem setB_sz {D:Nat} {P:List Int} {B:List Bucket} (h:Mid D P B) (n:Int) (l:List GItem) (hl:l.length≤5001):Sz P (setB B n l):=by
 have hs:=h.sz
 refine ⟨hs.p,by simpa [setB] using hs.b,fun b hb=>?_⟩
 rcases setB_mem hb with rfl | hb
 ·show l.length≤1000000; omega
 ·exact hs.i b hb
theorem sz_nil:Sz [] []:=⟨by simp,by simp,fun b hb=>by cases hb⟩
section
variable {D:Nat} {P:List Int} {B:List Bucket}
theorem found_at (h:Fine D P B) (key:Int) {n:Nat} (hn:n < B.length):(key ∈ keysOf (ix B (n:Int)).Items→ix P (plc D key:Int) = (n:Int)):=fun hk=>by
 obtain ⟨x,hx,rfl⟩:=List.mem_map.1 hk
 exact h.mid.place (by omega) (by omega) hx
theorem find_sear (h:Fine D P B) (key:Int) (hk:key ∈ keysOf (bkt D P B key).Items):taskmillref_FindItem (bkt D P B key).Items key = some (sear (bkt D P B key).Items key:Int)∧∃ hlt:sear (bkt D P B key).Items key < (bkt D P B key).Items.length,(bkt D P B key).Items[sear (bkt D P B key).Items key].Key = key:=by
 have hmem:=h.mid.bmem key
 have hcap:=h.mid.cap _ hmem
 have hrise:=h.mid.rise _ hmem
 obtain ⟨hlt,hkey⟩:=sear_lt hrise (by omega) hk
 refine ⟨?_,hlt,hkey⟩
 rcases findItem_eq (bkt D P B key).Items (by omega) key with ⟨i,i1,i2,i3⟩ | ⟨i2,i3⟩
 ·rw [i2]
  rw [ix_get i1] at i3
  have:i = sear (bkt D P B key).Items key:=by
   have hnd:=List.pairwise_iff_getElem.1 (keys_nodup hrise)
   rcases Nat.lt_trichotomy i (sear (bkt D P B key).Items key) with hl | hl | hl
   ·exact absurd (by simp [keysOf,i3,hkey]) (hnd i _ (by simpa [keysOf] using i1) (by simpa [keysOf] using hlt) hl)
   ·exact hl
   ·exact absurd (by simp [keysOf,i3,hkey]) (hnd _ i (by simpa [keysOf] using hlt) (by simpa [keysOf] using i1) hl)
  rw [this]
 ·exact absurd hk i3
def upTo (D:Nat) (P:List Int) (B:List Bucket) (key:Int) (l:List GItem) (n:Nat):List Bucket:=if ix P (plc D key:Int) < (n:Int)∧key ∈ keysOf (bkt D P B key).Items then setB B (ix P (plc D key:Int)) l else B
def fullN (D:Nat) (P:List Int) (B:List Bucket) (key:Int) (n:Nat):Bool:=decide (ix P (plc D key:Int) < (n:Int)∧(bkt D P B key).Items.length = 5000)
def updI (D:Nat) (P:List Int) (B:List Bucket) (key value:Int):List GItem:=(bkt D P B key).Items.set (sear (bkt D P B key).Items key) ⟨key,value⟩
def delI (D:Nat) (P:List Int) (B:List Bucket) (key:Int):List GItem:=(bkt D P B key).Items.filter fun x=>x.Key != key
theorem puts_loop (h:Fine D P B) (key value:Int) (was is had:Bool) (a1:Int) (a2:List Bucket) (a3:Fault) (a4:Int) (a5:Fault) (a6 a7:Int) (a8 a9:List Int) (a10:List Bucket) (a11 a12:List Int) (rest:Option Bool)
  (hend:taskmilllaw_DictPuts_l1 ⟨(D:Int),P,B⟩ key value (was,is,had,decide ((bkt D P B key).Items.length = 5000),((B.length:Nat):Int),a1,a2,a3,a4,a5,a6,a7,a8,a9,a10,a11,dropB D P B key,a12,upTo D P B key (updI D P B key value) B.length) = rest.map .inr) :
  loopO (taskmilllaw_DictPuts_l1 ⟨(D:Int),P,B⟩ key value) (was,is,had,false,0,a1,a2,a3,a4,a5,a6,a7,a8,a9,a10,a11,B,a12,B) = rest:=by
 have hrng:=h.mid.prng key
 have hbl:=h.mid.blen
 have h12:=pow12 h.mid.d12
 have hpl:=h.mid.plen
 have hplk:plc D key < P.length:=by rw [hpl]; exact plc_lt D key
 have hbt:taskmillref_Bits key (D:Int) = some (plc D key:Int):=by rw [bits_eq key D (by have:=h.mid.d12; omega),plc_cast]
 refine Eq.trans ?_ (loopO_all (step:=taskmilllaw_DictPuts_l1 ⟨(D:Int),P,B⟩ key value) (fun n=>(was,is,had,fullN D P B key n,((n:Nat):Int),a1,a2,a3,a4,a5,a6,a7,a8,a9,a10,a11,upTo D P B key (delI D P B key) n,a12,upTo D P B key (updI D P B key value) n)) rest B.length (fun n hn=>?_) ?_)
 ·have e1:fullN D P B key 0 = false:=by unfold fullN; rw [decide_eq_false]; omega
  have e2:∀ l,upTo D P B key l 0 = B:=fun l=>by unfold upTo; rw [if_neg (by omega)]
  rw [e1,e2,e2]; rfl
 ·have hI:=h.mid.cap _ (ix_mem (l:=B) (j:=(n:Int)) ⟨by omega,by omega⟩)
  unfold taskmilllaw_DictPuts_l1
  dsimp only
  rw [lt_n hn,ge_n]
  simp only [Bool.and_self,cond_true]
  by_cases hne:ix P (plc D key:Int) = (n:Int)
  ·-- the bucket of the key
   have hbk:bkt D P B key = ix B (n:Int):=by unfold bkt; rw [hne]
   have u0:∀ l,upTo D P B key l n = B:=fun l=>by unfold upTo; rw [if_neg (by omega)]
   have f0:fullN D P B key n = false:=by unfold fullN; rw [decide_eq_false]; omega
   have f1:fullN D P B key (n + 1) = decide ((bkt D P B key).Items.length = 5000):=by
    unfold fullN; rw [decide_eq_decide]
    exact ⟨fun hc=>hc.2,fun hc=>⟨by omega,hc⟩⟩
   have j3:∀ c11 c13,taskmilllaw_DictPuts_j3 ⟨(D:Int),P,B⟩ key value was is had false (n:Int) a1 a2 a3 a4 a5 a6 a7 a8 a9 a10 a11 a12 c11 c13 = some (.inl (was,is,had,fullN D P B key (n + 1),(((n + 1:Nat)):Int),a1,a2,a3,a4,a5,a6,a7,a8,a9,a10,a11,c11,a12,c13)):=fun c11 c13=>by
    unfold taskmilllaw_DictPuts_j3 taskmilllaw_DictPuts_j2
    dsimp only
    rw [cond_false,hbt,Option.bind_some,lt_n hplk,ge_n,hne,beq_self_eq_true,lt_n hn,ge_n,wrap_n1 n (by omega),f1,hbk]
    simp only [Bool.and_self,cond_true]
    congr 6
    rw [Bool.eq_iff_iff,beq_iff_eq,decide_eq_true_eq]
    omega
   rw [u0,u0,f0,← hbk]
   by_cases hk:key ∈ keysOf (bkt D P B key).Items
   ·obtain ⟨g1,hlt,hkey⟩:=find_sear h key hk
    have u1:∀ l,upTo D P B key l (n + 1) = setB B (n:Int) l:=fun l=>by unfold upTo; rw [if_pos ⟨by omega,hk⟩,hne]
    have hx:ixD B (n:Int) = bkt D P B key:=by rw [ixD_pos (by omega),hbk]
    rw [g1,Option.bind_some,ge_n,cond_true,lt_n hn,hx,lt_n hlt,ix_get hlt,hkey]
    simp only [Bool.and_self,cond_true]
    rw [noItem_eq _ (by rw [hbk]; omega),Option.bind_some]
    rw [u1,u1]
    unfold setB
    rw [← hbk]
    exact j3 _ _
   ·obtain ⟨j,j1,j2⟩:=findItem_ge (bkt D P B key).Items (by rw [hbk]; omega) key
    have u1:∀ l,upTo D P B key l (n + 1) = B:=fun l=>by unfold upTo; rw [if_neg (fun hc=>hk hc.2)]
    rw [j1,Option.bind_some,j2,decide_eq_false hk,cond_false,u1,u1]
    exact j3 _ _
  ·have hk:key ∉ keysOf (ix B (n:Int)).Items:=fun hk=>hne (found_at h key hn hk)
   obtain ⟨j,j1,j2⟩:=findItem_ge (ix B (n:Int)).Items (by omega) key
   have u1:∀ l,upTo D P B key l (n + 1) = upTo D P B key l n:=fun l=>by
    unfold upTo
    by_cases hc:ix P (plc D key:Int) < (n:Int)∧key ∈ keysOf (bkt D P B key).Items
    ·rw [if_pos hc,if_pos ⟨by omega,hc.2⟩]
    ·rw [if_neg hc,if_neg (fun hd=>hc ⟨by omega,hd.2⟩)]
   have f1:fullN D P B key (n + 1) = fullN D P B key n:=by
    unfold fullN; rw [decide_eq_decide]
    exact ⟨fun hc=>⟨by omega,hc.2⟩,fun hc=>⟨by omega,hc.2⟩⟩
   rw [j1,Option.bind_some,j2,decide_eq_false hk,cond_false,u1,u1,f1]
   unfold taskmilllaw_DictPuts_j3 taskmilllaw_DictPuts_j2
   dsimp only
   rw [wrap_n1 n (by omega),hbt,Option.bind_some,lt_n hplk,ge_n,show ((n:Int) == ix P (plc D key:Int)) = false from by simpa using fun e=>hne e.symm]
   cases fullN D P B key n <;> rfl
 ·have e1:fullN D P B key B.length = decide ((bkt D P B key).Items.length = 5000):=by
   unfold fullN; rw [decide_eq_decide]
   exact ⟨fun hc=>hc.2,fun hc=>⟨by omega,hc⟩⟩
  have e2:upTo D P B key (delI D P B key) B.length = dropB D P B key:=by
   unfold upTo dropB delI
   by_cases hk:key ∈ keysOf (bkt D P B key).Items
   ·rw [if_pos ⟨by omega,hk⟩,decide_eq_true hk]; rfl
   ·rw [if_neg (fun hc=>hk hc.2),decide_eq_false hk]; rfl
  rw [e1,e2]
  exact hend
theorem dropB_sz (h:Fine D P B) (key:Int):Sz P (dropB D P B key):=by
 unfold dropB
 cases decide (key ∈ keysOf (bkt D P B key).Items) with
 | true =>
  have:=h.mid.cap _ (h.mid.bmem key)
  exact setB_sz h.mid _ _ (Nat.le_trans (List.length_filter_le ..) (by omega))
 | false=>exact h.mid.sz
end
theorem puts_law (d:Dict) (key value:Int) (hb:d.Buckets.length≤1000000) (hi:∀ b ∈ d.Buckets,b.Items.length≤1000000):taskmilllaw_DictPuts d key value = some true:=by
 unfold taskmilllaw_DictPuts
 rw [begun_eq]
 simp only [Option.bind_some,Bool.not_true,cond_false]
 obtain ⟨v,hv,hvf⟩:=vast_eq d hb hi
 rw [hv,Option.bind_some]
 cases v with
 | true=>rfl
 | false =>
  obtain ⟨t1,t2,t3⟩:=hvf rfl
  have hs:Sz d.Places d.Buckets:=⟨by omega,hb,hi⟩
  have hdd:(Dict.mk d.Depth d.Places d.Buckets) = d:=rfl
  have hck:=check_fault d hs
  have hnil:=same_dict 0 [] [] sz_nil
  rw [cond_false,ownDict_eq d hs,Option.bind_some]
  simp only [hdd,Option.bind_some]
  rw [ref_fault d hs]
  by_cases hw:(faultF d).Code = 0
  ·have hw0:=fault_bad hs hw
   obtain ⟨D,e,f1,f2,f3,f4⟩:=fine_of hw
   have hf:Fine D d.Places d.Buckets:=⟨f1,f2,f3,f4⟩
   have hd:d = ⟨(D:Int),d.Places,d.Buckets⟩:=by rw [← e]
   obtain ⟨c,c1,c2,c3,c4⟩:=itemsOf_eq d hs t1 f1.all_nodup
   generalize d.Places = P at *
   generalize d.Buckets = B at *
   subst hd
   dsimp only at *
   have hdrop:=drop_eq hf key
   have hkk:key ∈ keysOf c ↔ key ∈ keysOf (bkt D P B key).Items:=by
    constructor
    ·intro hk
     obtain ⟨x,hx,rfl⟩:=List.mem_map.1 hk
     exact List.mem_map.2 ⟨x,f1.find ((c3 x).1 hx),rfl⟩
    ·intro hk
     obtain ⟨x,hx,hxk⟩:=List.mem_map.1 hk
     exact List.mem_map.2 ⟨x,(c3 x).2 (List.mem_flatMap.2 ⟨_,f1.bmem key,hx⟩),hxk⟩
   obtain ⟨j,j1,j2⟩:=findItem_ge c (by omega) key
   have j2:decide (0≤j) = decide (key ∈ keysOf (bkt D P B key).Items):=by rw [j2,decide_eq_decide]; exact hkk
   have hmem:=f1.bmem key
   have hcap:=f1.cap _ hmem
   have hrise:=f1.rise _ hmem
   -- what the end of the loop comes to
   have hsd:=same_dict (D:Int) P (dropB D P B key) (dropB_sz hf key)
   have put3:(key ∈ keysOf (bkt D P B key).Items∧dict_Put ⟨(D:Int),P,B⟩ key value = some ((D:Int),upTo D P B key (updI D P B key value) B.length,true,⟨0,0⟩,P)∧Sz P (upTo D P B key (updI D P B key value) B.length)) ∨
     (key ∉ keysOf (bkt D P B key).Items∧(bkt D P B key).Items.length = 5000∧dict_Put ⟨(D:Int),P,B⟩ key value = some (0,[],false,⟨9,0⟩,[])) ∨
     (key ∉ keysOf (bkt D P B key).Items∧(bkt D P B key).Items.length ≠ 5000∧∃ (D':Nat) (Q:List Int) (L:List Bucket),dict_Put ⟨(D:Int),P,B⟩ key value = some ((D':Int),L,false,⟨0,0⟩,Q)∧taskmillref_PutDict ⟨(D:Int),P,B⟩ ⟨key,value⟩ = some ((D':Int),Q,L)∧Sz Q L):=by
    by_cases hk:key ∈ keysOf (bkt D P B key).Items
    ·have hrng:=f1.prng key
     have hu:upTo D P B key (updI D P B key value) B.length = setB B (ix P (plc D key:Int)) (updI D P B key value):=by unfold upTo; rw [if_pos ⟨by omega,hk⟩]
     refine .inl ⟨hk,by rw [hu]; exact put_old hf key value hk,by rw [hu]; exact setB_sz f1 _ _ (by unfold updI; rw [List.length_set]; omega)⟩
    ·by_cases h5:(bkt D P B key).Items.length = 5000
     ·exact .inr (.inl ⟨hk,h5,put_much hf key value hk h5⟩)
     ·refine .inr (.inr ⟨hk,h5,?_⟩)
      obtain ⟨r,r1,r2,r3,r4⟩:=putItem_new hrise (by omega) ⟨key,value⟩ hk
      obtain ⟨D',Q,L,p1,p2,p3,p4⟩:=put_new hf key value hk (by omega) r r2 r3
      exact ⟨D',Q,L,p1,putDict_eq hf ⟨key,value⟩ hk (by show (bkt D P B key).Items.length < 5000; omega) r r1 (by show r.length≤5001; omega) p2 p3 p4,p2.mid.sz⟩
   rw [hdrop,hw0,c1]
   simp only [Option.bind_some]
   rw [j1]
   simp only [Option.bind_some,j2]
   rcases put3 with ⟨hk,hp,hsz⟩ | ⟨hk,h5,hp⟩ | ⟨hk,h5,D',Q,L,hp,hq,hsz⟩
   ·have hsm:=same_dict (D:Int) P _ hsz
    rw [hp]
    simp only [Option.bind_some,bne_self_eq_false,cond_false]
    refine puts_loop hf key value _ _ _ _ _ _ _ _ _ _ _ _ _ _ _ _ ?_
    unfold taskmilllaw_DictPuts_l1
    dsimp only
    rw [nlt_n,cond_false,decide_eq_true hk]
    simp only [bne_self_eq_false,cond_false]
    rw [hsd,Option.bind_some]
    unfold taskmilllaw_DictPuts_j7 taskmilllaw_DictPuts_j6 taskmilllaw_DictPuts_j5
    simp only [Bool.not_true,cond_false,Bool.false_and,beq_self_eq_true,cond_true]
    rw [hsm]; rfl
   ·rw [hp]
    simp only [Option.bind_some,bne_self_eq_false,cond_false]
    refine puts_loop hf key value _ _ _ _ _ _ _ _ _ _ _ _ _ _ _ _ ?_
    unfold taskmilllaw_DictPuts_l1
    dsimp only
    rw [nlt_n,cond_false,decide_eq_false hk,decide_eq_true h5]
    simp only [bne_self_eq_false,cond_false]
    rw [hsd,Option.bind_some]
    unfold taskmilllaw_DictPuts_j7 taskmilllaw_DictPuts_j4 taskmillref_F
    simp only [Bool.not_true,cond_false,Bool.not_false,Bool.and_self,cond_true,Option.bind_some,beq_self_eq_true]
    rw [hnil]; rfl
   ·have hsm:=same_dict (D':Int) Q L hsz
    rw [hp]
    simp only [Option.bind_some,bne_self_eq_false,cond_false]
    refine puts_loop hf key value _ _ _ _ _ _ _ _ _ _ _ _ _ _ _ _ ?_
    unfold taskmilllaw_DictPuts_l1
    dsimp only
    rw [nlt_n,cond_false,decide_eq_false hk,decide_eq_false h5]
    simp only [bne_self_eq_false,cond_false]
    rw [hsd,Option.bind_some]
    unfold taskmilllaw_DictPuts_j7 taskmilllaw_DictPuts_j6 taskmilllaw_DictPuts_j5
    simp only [Bool.not_true,cond_false,Bool.not_false,Bool.and_false,cond_true]
    rw [hq]
    simp only [Option.bind_some,beq_self_eq_true,cond_true]
    rw [hsm]; rfl
  ·have hp:dict_Put d key value = some (0,[],false,faultF d,[]):=by
    unfold dict_Put
    rw [hck,Option.bind_some,show ((faultF d).Code != 0) = true from bne_iff_ne.2 hw]; rfl
   have hdr:dict_Drop d key = some (0,false,faultF d,[],[]):=by
    unfold dict_Drop
    rw [hck,Option.bind_some,show ((faultF d).Code != 0) = true from bne_iff_ne.2 hw]; rfl
   rw [hp,hdr]
   simp only [Option.bind_some,show ((faultF d).Code != 0) = true from bne_iff_ne.2 hw,cond_true,beq_self_eq_true,Bool.and_self]
   rw [hnil]
   rfl
end Go.Proofs.Yticigkhhhmiglaa
end
