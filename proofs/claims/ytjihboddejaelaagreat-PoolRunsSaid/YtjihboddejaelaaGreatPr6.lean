/-
  What a crash leaves of a log's files, in plain Lean (1): a log between its acts is safe; Append, Back, a sync keep it so. No program in sight.
-/
import Derived.Test.YtjihboddejaelaaGreatPr5
set_option linter.unusedVariables false
set_option linter.unusedSimpArgs false
namespace Go.Proofs.YtjihboddejaelaaGreat
open Go.RowKit
theorem crashL_none (keep:List Int):∀ (ws:List Ch) (i f:Nat) (l:List UInt8),(∀ c∈ws,c.file≠f)→crashL keep ws i f l=l
 | [],i,f,l,_=>rfl
 | c :: ws,i,f,l,h=>by
   rw [crashL,show crash1 c (howL keep i) l f=l from if_neg (h c (List.mem_cons_self ..))]
   exact crashL_none keep ws (i+1) f l fun d hd=>h d (List.mem_cons_of_mem _ hd)
theorem ix_of {l:List UInt8} {sl N f p:Nat} (hm:l.take 16=markL) (hsl:sl<2) (hN:1≤N∧N≤3) (hs:slotOf l sl=(N,f,p)) (ho:(slotOf l (1-sl)).1=0∨(slotOf l (1-sl)).1 % 3+1=N):slotIx l=sl:=by
 have hg:(slotOf l (1-sl)).1≠0→(slotOf l (1-sl)).1≤3:=fun h=>(slotOf_good h).1
 have hs1:(slotOf l sl).1=N:=by rw [hs]
 unfold slotIx
 obtain rfl | rfl:sl=0∨sl=1:=by omega
 ·rw [show 1-0=1 from rfl] at ho hg
  rw [hs1,if_neg (fun h=>h.elim (fun h2=>h2 hm) (fun h2=>by omega)),if_neg (fun h=>by omega)]
 ·rw [show 1-1=0 from rfl] at ho hg
  rw [hs1,if_neg (fun h=>h.elim (fun h2=>h2 hm) (fun h2=>by omega)),if_pos (by omega)]
theorem unK_beK:∀ (k n:Nat),n<256 ^ k→unK (beK n k)=n
 | 0,n,h=>by have:n=0:=by simpa using h
             subst this;rfl
 | k+1,n,h=>by
   rw [beK,unK_snoc,unK_beK k (n / 256) (by rw [Nat.pow_succ] at h;omega),UInt8.toNat_ofNat']
   omega
theorem unK_beK4 {n:Nat} (h:n<4294967296):unK (beK n 4)=n:=unK_beK 4 n (by omega)
theorem unK_take4 {n:Nat} (r:List UInt8) (hn:n<4294967296):unK ((beK n 4++r).take 4)=n:=by
 rw [List.take_append_of_le_length (by rw [beK_len];omega),List.take_of_length_le (by rw [beK_len];omega)]
 exact unK_beK4 hn
theorem slotOf_slotL {l:List UInt8} {k n f p:Nat} (hl:40+24*k≤l.length) (ht:partL l (16+24*k) 24=slotL n f p) (hn:1≤n∧n≤3) (hf:f<4294967296) (hp:p<4294967296) (hff:f=0∨64+1028*f≤l.length):slotOf l k=(n,f,p):=by
 have e1:unK ((slotL n f p).take 4)=n:=by
  unfold slotL;rw [List.append_assoc,List.append_assoc,List.append_assoc];exact unK_take4 _ (by omega)
 have e2:unK (partL (slotL n f p) 4 4)=f:=by
  unfold partL slotL
  rw [List.append_assoc,List.append_assoc,List.append_assoc,List.drop_append_of_le_length (by rw [beK_len];omega),List.drop_of_length_le (by rw [beK_len];omega),List.nil_append]
  exact unK_take4 _ hf
 have e3:unK (partL (slotL n f p) 8 4)=p:=by
  have h1:slotL n f p=(beK n 4++beK f 4)++(beK p 4++(beK n 4++beK f 4++beK p 4)):=by unfold slotL;simp [List.append_assoc]
  have h2:(beK n 4++beK f 4).length=8:=by simp [beK_len]
  unfold partL
  rw [h1,List.drop_append_of_le_length (by omega),List.drop_of_length_le (by omega),List.nil_append]
  exact unK_take4 _ hp
 rw [slotOf_near (by omega) ht e1 e2 e3,if_pos ⟨rfl,hn.1,hn.2,hff⟩]
def zt (l:List UInt8) (B:Nat):List UInt8:=(zerosTo l B).take B
theorem zerosTo_get2 (l:List UInt8) (n i:Nat):(zerosTo l n)[i]? = if i<l.length then l[i]? else if i<n then some 0 else none:=by
 unfold zerosTo
 rw [List.getElem?_append]
 split
 ·rfl
 ·rename_i h
  rw [List.getElem?_replicate]
  by_cases h2:i<n
  ·rw [if_pos h2,if_pos (by omega)]
  ·rw [if_neg h2,if_neg (by omega)]
theorem zt_get (l:List UInt8) (B i:Nat):(zt l B)[i]? = if i<B then (if i<l.length then l[i]? else some 0) else none:=by
 unfold zt
 rw [List.getElem?_take]
 split
 ·rw [zerosTo_get2]
  split
  ·rfl
  ·first
    | rfl
    | (rename_i h1 h2;rw [if_pos h1])
 ·rfl
theorem zt_put {l t:List UInt8} {a B:Nat} (ha:B≤a):zt (putL l a t) B=zt l B:=by
 refine List.ext_getElem? fun i=>?_
 rw [zt_get,zt_get]
 split
 ·rename_i hi
  have hl:=putL_len l a t
  by_cases h0:i<(putL l a t).length
  ·rw [if_pos h0,putL_get,if_neg (by omega),zerosTo_get2]
   by_cases h1:i<l.length
   ·rw [if_pos h1,if_pos h1]
   ·rw [if_neg h1,if_neg h1,if_pos (by omega)]
  ·rw [if_neg h0,if_neg (by omega)]
 ·rfl
theorem crash1_zt {c:Ch} {how:Int} {f:Nat} {l:List UInt8} {B:Nat} (hc:c.file=f→c.cut=false∧B≤c.at_):zt (crash1 c how l f) B=zt l B∧l.length≤(crash1 c how l f).length:=by
 unfold crash1
 split
 ·rename_i hf
  obtain ⟨h1,h2⟩:=hc hf
  have hp:∀ t:List UInt8,l.length≤(putL l c.at_ t).length:=fun t=>by rw [putL_len];omega
  split
  ·unfold Ch.done
   rw [if_neg (by rw [h1];decide)]
   exact ⟨zt_put h2,hp _⟩
  ·split
   ·unfold Ch.half
    rw [if_neg (by rw [h1];decide)]
    unfold Ch.done
    rw [if_neg (by show ¬ c.cut=true;rw [h1];decide)]
    exact ⟨zt_put h2,hp _⟩
   ·exact ⟨rfl,Nat.le_refl _⟩
 ·exact ⟨rfl,Nat.le_refl _⟩
theorem crashL_zt (keep:List Int):∀ (ws:List Ch) (i f:Nat) (l:List UInt8) (B:Nat),(∀ c∈ws,c.file=f→c.cut=false∧B≤c.at_)→zt (crashL keep ws i f l) B=zt l B∧l.length≤(crashL keep ws i f l).length
 | [],i,f,l,B,_=>⟨rfl,Nat.le_refl _⟩
 | c :: ws,i,f,l,B,h=>by
   obtain ⟨h1,h2⟩:=crash1_zt (how:=howL keep i) (l:=l) (h c (List.mem_cons_self ..))
   obtain ⟨h3,h4⟩:=crashL_zt keep ws (i+1) f (crash1 c (howL keep i) l f) B (fun d hd=>h d (List.mem_cons_of_mem _ hd))
   exact ⟨h3.trans h1,Nat.le_trans h2 h4⟩
theorem partL_zt {l:List UInt8} {B a n:Nat} (hn:a+n≤B) (hl:a+n≤l.length):partL (zt l B) a n=partL l a n:=by
 refine List.ext_getElem? fun i=>?_
 rw [partL_get,partL_get]
 split
 ·rw [zt_get,if_pos (by omega),if_pos (by omega)]
 ·rfl
def OldSlot (t:List UInt8) (N:Nat):Prop:=unK ((t.drop 12).take 4)=0∨(unK ((t.drop 12).take 4)≤3∧unK ((t.drop 12).take 4) % 3+1=N)
theorem old_zeros (N:Nat):OldSlot (List.replicate 24 0) N:=.inl (by decide)
theorem slotL_half (n f p:Nat):(slotL n f p).drop 12=beK n 4++beK f 4++beK p 4:=by
 unfold slotL
 rw [List.drop_append_of_le_length (by simp [beK_len]),List.drop_of_length_le (by simp [beK_len]),List.nil_append]
theorem old_slotL {n f p N:Nat} (n2:n≤3) (n3:n % 3+1=N):OldSlot (slotL n f p) N:=by
 have e:unK (((slotL n f p).drop 12).take 4)=n:=by
  rw [slotL_half,List.append_assoc,List.take_append_of_le_length (by rw [beK_len];omega),List.take_of_length_le (by rw [beK_len];omega),unK_beK4 (by omega)]
 exact .inr (by rw [e];exact ⟨n2,n3⟩)
theorem slotL_parts12 (n f p:Nat):(slotL n f p).take 4=beK n 4:=by
 unfold slotL
 rw [List.append_assoc,List.append_assoc,List.append_assoc,List.take_append_of_le_length (by rw [beK_len];omega),List.take_of_length_le (by rw [beK_len];omega)]
theorem old_told {l:List UInt8} {k N:Nat} (h:OldSlot (zt l (40+24*k) |>.drop (16+24*k)) N):(slotOf l k).1=0∨(slotOf l k).1 % 3+1=N:=by
 by_cases hz:(slotOf l k).1=0
 ·exact .inl hz
 ·have hl:¬ l.length<40+24*k:=fun h2=>hz (by rw [slotOf_far h2])
  have ht:partL l (16+24*k) 24=(zt l (40+24*k)).drop (16+24*k):=by
   rw [← partL_zt (B:=40+24*k) (by omega) (by omega)]
   unfold partL
   rw [List.take_of_length_le]
   rw [List.length_drop]
   unfold zt
   rw [List.length_take];omega
  rw [← ht] at h
  have h1:(slotOf l k).1=unK (((partL l (16+24*k) 24).drop 12).take 4):=by
   unfold slotOf at hz ⊢
   rw [if_neg hl] at hz ⊢
   dsimp only at hz ⊢
   split
   ·rename_i h2;rw [if_pos h2] at hz;exact absurd rfl hz
   ·rename_i h2
    have heq:(partL l (16+24*k) 24).take 12=(partL l (16+24*k) 24).drop 12:=Classical.byContradiction fun h3=>h2 (.inl h3)
    show unK ((partL l (16+24*k) 24).take 4)=_
    rw [← heq,List.take_take];rfl
  rcases h with h | ⟨n2,n3⟩
  ·rw [h1,h] at hz
   exact absurd rfl hz
  ·right
   rw [h1]
   exact n3
structure Safe (L:Lg):Prop where
 ok:L.ok
 mark:L.D.l1.take 16=markL
 num:1≤L.number∧L.number≤3
 slot:partL L.D.l1 (16+24*L.slot) 24=slotL L.number L.kept L.pages
 old:OldSlot ((zt L.D.l1 (40+24*(1-L.slot))).drop (16+24*(1-L.slot))) L.number
 top:L.kept=0∨64+1028*L.kept≤L.D.l1.length
 lies:∀ i f,i<L.kept→L.fs[i]? = some f→partL L.D.l1 (64+1028*i) 1028=f.bytes
 waits1:∀ c∈L.D.waits,c.file=1→c.cut=false∧64+1028*L.kept≤c.at_
 waits0:∀ c∈L.D.waits,c.file≠0
theorem zt_le {l l':List UInt8} {B b:Nat} (h:zt l' B=zt l B) (hb:b≤B):zt l' b=zt l b:=by
 refine List.ext_getElem? fun i=>?_
 have h1:(zt l' B)[i]? = (zt l B)[i]? := by rw [h]
 rw [zt_get,zt_get] at h1
 rw [zt_get,zt_get]
 by_cases hi:i<b
 ·have hB:i<B:=by omega
  rw [if_pos hB,if_pos hB] at h1
  rw [if_pos hi,if_pos hi];exact h1
 ·rw [if_neg hi,if_neg hi]
theorem partL_same {l l':List UInt8} {B a n:Nat} (h:zt l' B=zt l B) (hl:l.length≤l'.length) (hn:a+n≤B) (hln:a+n≤l.length):partL l' a n=partL l a n:=by
 rw [← partL_zt hn (Nat.le_trans hln hl),h,partL_zt hn hln]
theorem frameAt_bytes {l:List UInt8} {i:Nat} {f:Fr} (h:partL l (64+1028*i) 1028=f.bytes) (hn:f.n<4294967296) (ht:f.text.size=1024):frameAt l i=f:=by
 obtain ⟨n,t⟩:=f
 have ht2:t.size=1024:=ht
 unfold frameAt
 have e1:partL l (64+1028*i) 4=beK n 4:=by
  have:=partL_part l (64+1028*i) 1028 0 4 (by omega)
  rw [Nat.add_zero,h] at this
  rw [← this]
  unfold partL Fr.bytes
  rw [List.drop_zero,List.take_append_of_le_length (by rw [beK_len];omega),List.take_of_length_le (by rw [beK_len];omega)]
 have e2:partL l (64+1028*i+4) 1024=t.data.toList:=by
  rw [← partL_part l (64+1028*i) 1028 4 1024 (by omega),h]
  unfold partL Fr.bytes
  rw [List.drop_append_of_le_length (by rw [beK_len];omega),List.drop_of_length_le (by rw [beK_len];omega),List.nil_append,List.take_of_length_le (by rw [Array.length_toList];show t.size≤_;omega)]
 rw [e1,e2,unK_beK4 hn,bsOf_of]
theorem after_crash {L:Lg} (h:Safe L) (keep:List Int) :
 (L.D.crash keep).l0=L.D.l0∧slotIx (L.D.crash keep).l1=L.slot∧slotOf (L.D.crash keep).l1 L.slot=(L.number,L.kept,L.pages)∧framesOf (L.D.crash keep).l1 L.kept=L.fs.take L.kept:=by
 obtain ⟨z,hl⟩:=crashL_zt keep L.D.waits 0 1 L.D.l1 (64+1028*L.kept) h.waits1
 have e0:(L.D.crash keep).l0=L.D.l0:=crashL_none keep L.D.waits 0 0 L.D.l0 h.waits0
 have e1:(L.D.crash keep).l1=crashL keep L.D.waits 0 1 L.D.l1:=rfl
 rw [e1]
 generalize crashL keep L.D.waits 0 1 L.D.l1=l' at *
 have hs2:=h.ok.slot
 have hlen:=h.ok.len
 have hkl:=h.ok.kept
 have hsl:=partL_full h.slot (slotL_len _ _ _) (by omega)
 have h16:16≤L.D.l1.length:=by omega
 have em:l'.take 16=markL:=by
  have:=partL_same (a:=0) (n:=16) z hl (by omega) (by omega)
  rw [partL_zero,partL_zero] at this
  rw [this];exact h.mark
 have es:slotOf l' L.slot=(L.number,L.kept,L.pages) :=
  slotOf_slotL (by omega) ((partL_same z hl (by omega) (by omega)).trans h.slot) h.num (by omega) h.ok.pages (by
   rcases h.top with h2 | h2
   ·exact .inl h2
   ·exact .inr (by omega))
 have eo:=old_told (l:=l') (k:=1-L.slot) (N:=L.number) (by rw [zt_le z (by omega)];exact h.old)
 refine ⟨e0,ix_of em hs2 h.num es eo,es, ?_⟩
 refine List.ext_getElem? fun i=>?_
 rw [List.getElem?_take]
 by_cases hi:i<L.kept
 ·have hil:i<L.fs.length:=by omega
  have hf:=List.getElem?_eq_getElem hil
  have hb:=h.lies i _ hi hf
  have hfr:=h.ok.frames _ (List.getElem_mem hil)
  have hfull:=partL_full hb (Fr.bytes_len _ hfr.2) (by omega)
  have hb2:=(partL_same z hl (by omega) hfull).trans hb
  have hfa:=frameAt_bytes hb2 hfr.1 hfr.2
  rw [if_pos hi,hf]
  have hli:i<(framesOf l' L.kept).length:=by rw [framesOf_len];exact hi
  have hg:=List.getElem?_eq_getElem hli
  rw [hg]
  rw [(framesOf_get _ _ _ _ hg).2,hfa]
 ·rw [if_neg hi,List.getElem?_eq_none (by rw [framesOf_len];omega)]
theorem turn_lasts (D:Dk):D.turn.l0=D.l0∧D.turn.l1=D.l1∧D.turn.waits=D.waits:=by
 unfold Dk.turn;split <;> exact ⟨rfl,rfl,rfl⟩
theorem change_lasts (D:Dk) (c:Ch):(D.change c).l0=D.l0∧(D.change c).l1=D.l1∧((D.change c).waits=D.waits∨(D.change c).waits=D.waits++[c]):=by
 obtain ⟨h1,h2,h3⟩:=turn_lasts D
 unfold Dk.change
 split
 ·exact ⟨h1,h2,.inl h3⟩
 ·exact ⟨h1,h2,.inr rfl⟩
theorem safe_append {L:Lg} (h:Safe L) (n:Int) (t:ByteArray):Safe (L.append n t):=by
 have hok:=append_ok h.ok n t
 by_cases hf:L.fitsA n t∧L.at_+1028≤67108864
 ·have e:L.append n t={ L with D:=L.D.write 1 L.at_ (bsOf (Fr.bytes ⟨n.toNat,t⟩)),fs:=if L.D.stops then L.fs else L.fs++[⟨n.toNat,t⟩] }:=if_pos hf
  rw [e] at hok ⊢
  have hD:(L.D.write 1 L.at_ (bsOf (Fr.bytes ⟨n.toNat,t⟩))).l0=L.D.l0∧(L.D.write 1 L.at_ (bsOf (Fr.bytes ⟨n.toNat,t⟩))).l1=L.D.l1∧∀ c∈(L.D.write 1 L.at_ (bsOf (Fr.bytes ⟨n.toNat,t⟩))).waits,c∈L.D.waits∨(c.file=1∧c.cut=false∧c.at_=L.at_):=by
   unfold Dk.write
   split
   ·obtain ⟨h1,h2,h3⟩:=change_lasts L.D ⟨(1:Int).toNat,(L.at_:Int).toNat,bsOf (Fr.bytes ⟨n.toNat,t⟩),false⟩
    refine ⟨h1,h2,fun c hc=>?_⟩
    rcases h3 with h3 | h3
    ·rw [h3] at hc;exact .inl hc
    ·rw [h3] at hc
     rcases List.mem_append.1 hc with hc | hc
     ·exact .inl hc
     ·rw [List.mem_singleton.1 hc];exact .inr ⟨rfl,rfl,Int.toNat_natCast _⟩
   ·exact ⟨rfl,rfl,fun c hc=>.inl hc⟩
  have hkl:=h.ok.kept
  have hat:L.at_=64+1028*L.fs.length:=rfl
  obtain ⟨d0,d1,dw⟩:=hD
  generalize L.D.write 1 L.at_ (bsOf (Fr.bytes ⟨n.toNat,t⟩))=X at *
  refine ⟨hok, ?_,h.num, ?_, ?_, ?_,fun i f hi hf2=>?_,fun c hc h1=>?_,fun c hc h0=>?_⟩
  ·show X.l1.take 16=_;rw [d1];exact h.mark
  ·show partL X.l1 _ _=_;rw [d1];exact h.slot
  ·show OldSlot ((zt X.l1 _).drop _) _;rw [d1];exact h.old
  ·show _∨_≤X.l1.length;rw [d1];exact h.top
  ·show partL X.l1 _ _=_
   rw [d1]
   refine h.lies i f hi ?_
   have hi2:i<L.kept:=hi
   dsimp only at hf2
   split at hf2
   ·exact hf2
   ·rw [List.getElem?_append_left (by omega)] at hf2;exact hf2
  ·rcases dw c hc with h2 | ⟨h2,h3,h4⟩
   ·exact h.waits1 c h2 h1
   ·exact ⟨h3,by show 64+1028*L.kept≤_;rw [h4];omega⟩
  ·rcases dw c hc with h2 | ⟨h2,_,_⟩
   ·exact h.waits0 c h2 h0
   ·omega
 ·have e:L.append n t=L:=if_neg hf
  rw [e];exact h
theorem safe_back {L:Lg} (h:Safe L):Safe L.back:=by
 have hok:=back_ok h.ok
 refine ⟨hok,h.mark,h.num,h.slot,h.old,h.top,fun i f hi hf=>h.lies i f hi ?_,h.waits1,h.waits0⟩
 have hf2:(L.fs.take L.kept)[i]? = some f:=hf
 have hi2:i<L.kept:=hi
 rw [List.getElem?_take,if_pos hi2] at hf2
 exact hf2
theorem seen_crash:∀ (ws:List Ch) (i f:Nat) (l:List UInt8),crashL [1] ws i f l=seenL ws f l
 | [],i,f,l=>rfl
 | c :: ws,i,f,l=>by
   have hh:howL [1] i=1:=by unfold howL;rw [if_neg (by decide),List.length_singleton,Nat.mod_one];rfl
   rw [crashL,seenL,hh,seen_crash ws (i+1) f]
   congr 1
theorem safe_file {L:Lg} (h:Safe L) {l':List UInt8} (z:zt l' (64+1028*L.kept)=zt L.D.l1 (64+1028*L.kept)) (hl:L.D.l1.length≤l'.length) :
 l'.take 16=markL∧partL l' (16+24*L.slot) 24=slotL L.number L.kept L.pages∧OldSlot ((zt l' (40+24*(1-L.slot))).drop (16+24*(1-L.slot))) L.number∧(L.kept=0∨64+1028*L.kept≤l'.length)∧(∀ (i:Nat) (f:Fr),i<L.kept→L.fs[i]? = some f→partL l' (64+1028*i) 1028=f.bytes):=by
 have hs2:=h.ok.slot
 have hkl:=h.ok.kept
 have hsl:=partL_full h.slot (slotL_len _ _ _) (by omega)
 refine ⟨?_,(partL_same z hl (by omega) (by omega)).trans h.slot,by rw [zt_le z (by omega)];exact h.old,h.top.imp id (fun h2=>by omega),fun i f hi hf=>?_⟩
 ·have:=partL_same (a:=0) (n:=16) z hl (by omega) (by omega)
  rw [partL_zero,partL_zero] at this
  rw [this];exact h.mark
 ·have hfr:=h.ok.frames f (List.mem_of_getElem? hf)
  have hb:=h.lies i f hi hf
  have hfull:=partL_full hb (Fr.bytes_len _ hfr.2) (by omega)
  exact (partL_same z hl (by omega) hfull).trans hb
structure Synced (L:Lg):Prop where
 safe:Safe L
 waits:L.D.waits=[]
theorem sync_lasts {L:Lg} (h:Safe L) (hs:¬ L.D.stops):(L.D.sync 1).l0=L.D.l0∧(L.D.sync 1).l1=L.D.seen 1∧(L.D.sync 1).waits=[]:=by
 have e:L.D.sync 1=L.D.syncT 1:=by
  unfold Dk.sync
  rw [if_pos (by decide),if_neg hs];rfl
 rw [e]
 refine ⟨rfl,rfl, ?_⟩
 show L.D.waits.filter (fun c=>decide (c.file≠1))=[]
 rw [List.filter_eq_nil_iff]
 intro c hc
 have h0:=h.waits0 c hc
 have h1:=(h.ok.disk.waits c hc).1
 have:c.file=1:=by omega
 simp [this]
theorem safe_sync {L:Lg} (h:Safe L) (hs:¬ L.D.stops):Synced ({ L with D:=L.D.sync 1 }:Lg):=by
 obtain ⟨s0,s1,s2⟩:=sync_lasts h hs
 have hok:({ L with D:=L.D.sync 1 }:Lg).ok:=h.ok.same (Dk.sync_ok h.ok.disk 1) (sync_seen L.D 1 (by omega) 1 (by omega))
 obtain ⟨z,hl⟩:=crashL_zt [1] L.D.waits 0 1 L.D.l1 (64+1028*L.kept) h.waits1
 rw [seen_crash] at z hl
 have hseen:seenL L.D.waits 1 L.D.l1=L.D.seen 1:=rfl
 rw [hseen] at z hl
 obtain ⟨f1,f2,f3,f4,f5⟩:=safe_file h z hl
 generalize L.D.sync 1=X at *
 rw [← s1] at f1 f2 f3 f4 f5
 refine ⟨⟨hok,f1,h.num,f2,f3,f4,f5,fun c hc=>?_,fun c hc=>?_⟩,s2⟩
 ·have hc2:c∈X.waits:=hc
  rw [s2] at hc2;cases hc2
 ·have hc2:c∈X.waits:=hc
  rw [s2] at hc2;cases hc2
theorem synced_lies {L:Lg} (h:Synced L) {i:Nat} {f:Fr} (hf:L.fs[i]? = some f):partL L.D.l1 (64+1028*i) 1028=f.bytes:=by
 have h1:=h.safe.ok.lies i f hf
 have e:L.D.seen 1=L.D.l1:=by
  unfold Dk.seen
  rw [h.waits];rfl
 rw [e] at h1
 exact h1
end Go.Proofs.YtjihboddejaelaaGreat
namespace Go.Proofs.YtjihboddejaelaaGreat
open Go.RowKit
def toldL (L:Lg) (f p:Nat):List UInt8:=putL L.D.l1 (16+24*(1-L.slot)) (slotL (L.number % 3+1) f p)
theorem told_file {L:Lg} (h:Synced L) (h64:64≤L.D.l1.length) (f p:Nat) :
 (toldL L f p).length=L.D.l1.length∧(toldL L f p).take 16=markL∧partL (toldL L f p) (16+24*(1-L.slot)) 24=slotL (L.number % 3+1) f p ∧
 partL (toldL L f p) (16+24*L.slot) 24=slotL L.number L.kept L.pages∧∀ a n,64≤a→a+n≤L.D.l1.length→partL (toldL L f p) a n=partL L.D.l1 a n:=by
 have hs:=h.safe.ok.slot
 have hz:=slotL_len (L.number % 3+1) f p
 unfold toldL
 refine ⟨by rw [putL_len,hz];omega, ?_, ?_, ?_,fun a n ha hn=>partL_put hn (.inr (by rw [hz];omega))⟩
 ·have:=partL_put (l:=L.D.l1) (a:=16+24*(1-L.slot)) (t:=slotL (L.number % 3+1) f p) (b:=0) (n:=16) (by omega) (.inl (by omega))
  rw [partL_zero,partL_zero] at this
  rw [this];exact h.safe.mark
 ·have:=partL_put_same L.D.l1 (16+24*(1-L.slot)) (slotL (L.number % 3+1) f p)
  rw [hz] at this
  exact this
 ·rw [partL_put (by omega) (by rw [hz];omega)]
  exact h.safe.slot
theorem synced_seen {L:Lg} (h:Synced L) (k:Nat):L.D.seen k=L.D.lasts k:=by
 unfold Dk.seen
 rw [h.waits];rfl
theorem told_lasts {L:Lg} (h:Synced L) (f p:Nat) (h1:¬ L.D.stops) (h2:¬ (L.tellD f p).stops) :
 ((L.tellD f p).sync 1).l0=L.D.l0∧((L.tellD f p).sync 1).l1=toldL L f p∧((L.tellD f p).sync 1).waits=[]:=by
 have hs:=h.safe.ok.slot
 have hfit:(1<2∧16+24*(1-L.slot)+(bsOf (slotL (L.number % 3+1) f p)).size≤67108864):=⟨by omega,by rw [bsOf_size,slotL_len];omega⟩
 have hD:L.tellD f p=L.D.change ⟨(1:Int).toNat,((16+24*(1-L.slot):Nat):Int).toNat,bsOf (slotL (L.number % 3+1) f p),false⟩:=if_pos (fitsF_iff.2 hfit)
 have hW:(L.tellD f p).waits=[⟨(1:Int).toNat,((16+24*(1-L.slot):Nat):Int).toNat,bsOf (slotL (L.number % 3+1) f p),false⟩]:=by
  rw [hD];unfold Dk.change;rw [if_neg h1]
  show L.D.waits++[_]=_
  rw [h.waits];rfl
 have hL:(L.tellD f p).l0=L.D.l0:=by rw [hD];exact (change_lasts _ _).1
 have hS:(L.tellD f p).seen 1=toldL L f p:=by
  have:=write_seen L.D 1 (16+24*(1-L.slot)) (bsOf (slotL (L.number % 3+1) f p)) 1
  rw [if_pos ⟨hfit,h1,rfl⟩,bsOf_list,synced_seen h] at this
  exact this
 have e:(L.tellD f p).sync 1=(L.tellD f p).syncT 1:=by
  unfold Dk.sync
  rw [if_pos (by decide),if_neg h2];rfl
 rw [e]
 refine ⟨hL,hS, ?_⟩
 show (L.tellD f p).waits.filter (fun c=>decide (c.file≠1))=[]
 rw [hW]
 rfl
theorem safe_tell {L:Lg} (h:Synced L) (h64:64≤L.D.l1.length) {f p:Nat} (hf:f≤L.fs.length) (hp:p<4294967296) (h1:¬ L.D.stops) (h2:¬ (L.tellD f p).stops):Synced (L.tell f p):=by
 obtain ⟨t1,t2,t3,t4,t5⟩:=told_file h h64 f p
 obtain ⟨d0,d1,d2⟩:=told_lasts h f p h1 h2
 have hok:=h.safe.ok.tell hf hp
 have hn:=h.safe.num
 have hs:=h.safe.ok.slot
 have hlen:=h.safe.ok.len
 have e:L.tell f p={ L with D:=(L.tellD f p).sync 1,slot:=1-L.slot,number:=L.number % 3+1,kept:=f,pages:=p }:=(if_neg h1).trans (if_neg h2)
 rw [e] at hok ⊢
 generalize (L.tellD f p).sync 1=X at *
 have hfl:∀ (i:Nat) (g:Fr),L.fs[i]? = some g→64+1028*i+1028≤L.D.l1.length:=fun i g hg=>partL_full (synced_lies h hg) (Fr.bytes_len _ (h.safe.ok.frames g (List.mem_of_getElem? hg)).2) (by omega)
 refine ⟨⟨hok, ?_,⟨by show 1≤L.number % 3+1;omega,by show L.number % 3+1≤3;omega⟩, ?_, ?_, ?_,fun i g hi hg=>?_,fun c hc=>?_,fun c hc=>?_⟩,d2⟩
 ·show X.l1.take 16=_;rw [d1];exact t2
 ·show partL X.l1 _ _=_;rw [d1];exact t3
 ·show OldSlot ((zt X.l1 (40+24*(1-(1-L.slot)))).drop (16+24*(1-(1-L.slot)))) (L.number % 3+1)
  rw [d1,show 1-(1-L.slot)=L.slot by omega]
  have ez:(zt (toldL L f p) (40+24*L.slot)).drop (16+24*L.slot)=partL (toldL L f p) (16+24*L.slot) 24:=by
   rw [← partL_zt (B:=40+24*L.slot) (by omega) (by omega)]
   unfold partL
   rw [List.take_of_length_le]
   rw [List.length_drop]
   unfold zt
   rw [List.length_take];omega
  rw [ez,t4]
  have hk:=h.safe.ok.kept
  exact old_slotL hn.2 rfl
 ·show f=0∨64+1028*f≤X.l1.length
  rw [d1,t1]
  rcases Nat.eq_zero_or_pos f with h0 | h0
  ·exact .inl h0
  ·have hfi:f-1<L.fs.length:=by omega
   have:=hfl (f-1) _ (List.getElem?_eq_getElem hfi)
   exact .inr (by omega)
 ·show partL X.l1 _ _=_
  have hg2:L.fs[i]? = some g:=hg
  rw [d1,t5 _ _ (by omega) (hfl i g hg2)]
  exact synced_lies h hg2
 ·have hc2:c∈X.waits:=hc
  rw [d2] at hc2;cases hc2
 ·have hc2:c∈X.waits:=hc
  rw [d2] at hc2;cases hc2
theorem zt_drop {l:List UInt8} {k:Nat} (h:40+24*k≤l.length):(zt l (40+24*k)).drop (16+24*k)=partL l (16+24*k) 24:=by
 rw [← partL_zt (B:=40+24*k) (by omega) (by omega)]
 unfold partL
 rw [List.take_of_length_le]
 rw [List.length_drop]
 unfold zt
 rw [List.length_take];omega
theorem old_half {t:List UInt8} {N:Nat} (hN:1≤N∧N≤3) (h:OldSlot t N):unK (t.drop 12 |>.take 4)≠N % 3+1:=by
 rcases h with h | ⟨n2,n3⟩
 ·rw [h];omega
 ·omega
def halfL (L:Lg) (f p:Nat):List UInt8:=putL L.D.l1 (16+24*(1-L.slot)) ((slotL (L.number % 3+1) f p).take 12)
theorem half_told {L:Lg} (h:Synced L) (h64:64≤L.D.l1.length) (f p:Nat):(slotOf (halfL L f p) (1-L.slot)).1=0:=by
 have hs:=h.safe.ok.slot
 have hn:=h.safe.num
 have hz:((slotL (L.number % 3+1) f p).take 12).length=12:=by rw [List.length_take,slotL_len];omega
 have hlen:(halfL L f p).length=L.D.l1.length:=by unfold halfL;rw [putL_len,hz];omega
 have hold:=h.safe.old
 rw [zt_drop (by omega)] at hold
 have ho:=old_half hn hold
 refine Classical.byContradiction fun hc=>?_
 unfold slotOf at hc
 rw [if_neg (by omega)] at hc
 dsimp only at hc
 split at hc
 ·exact hc rfl
 ·rename_i hcond
  have heq:(partL (halfL L f p) (16+24*(1-L.slot)) 24).take 12=(partL (halfL L f p) (16+24*(1-L.slot)) 24).drop 12:=Classical.byContradiction fun h3=>hcond (.inl h3)
  have e1:(partL (halfL L f p) (16+24*(1-L.slot)) 24).take 12=(slotL (L.number % 3+1) f p).take 12:=by
   have:=partL_put_same L.D.l1 (16+24*(1-L.slot)) ((slotL (L.number % 3+1) f p).take 12)
   rw [hz] at this
   refine Eq.trans ?_ this
   unfold halfL partL
   rw [List.take_take];rfl
  have e2:(partL (halfL L f p) (16+24*(1-L.slot)) 24).drop 12=(partL L.D.l1 (16+24*(1-L.slot)) 24).drop 12:=by
   refine List.ext_getElem? fun i=>?_
   rw [List.getElem?_drop,List.getElem?_drop,partL_get,partL_get]
   split
   ·unfold halfL
    rw [putL_get,if_neg (by rw [hz];omega),zerosTo_get _ _ _ (by omega)]
   ·rfl
  rw [e1,e2] at heq
  have h4:=congrArg (fun x:List UInt8=>unK (x.take 4)) heq
  rw [List.take_take,show min 4 12=4 from rfl,slotL_parts12,unK_beK4 (by omega)] at h4
  exact ho h4.symm
theorem half_reads {L:Lg} (h:Synced L) (h64:64≤L.D.l1.length) (f p:Nat):slotIx (halfL L f p)=L.slot∧slotOf (halfL L f p) L.slot=(L.number,L.kept,L.pages)∧framesOf (halfL L f p) L.kept=L.fs.take L.kept:=by
 have hs:=h.safe.ok.slot
 have hlenL:=h.safe.ok.len
 have hkl:=h.safe.ok.kept
 have hz:((slotL (L.number % 3+1) f p).take 12).length=12:=by rw [List.length_take,slotL_len];omega
 have hlen:(halfL L f p).length=L.D.l1.length:=by unfold halfL;rw [putL_len,hz];omega
 have hpart:∀ a n,a+n≤L.D.l1.length→(a+n≤16+24*(1-L.slot)∨28+24*(1-L.slot)≤a)→partL (halfL L f p) a n=partL L.D.l1 a n:=fun a n h1 h2=>by
  unfold halfL
  exact partL_put h1 (h2.imp id (fun h3=>by rw [hz];omega))
 have hsl:=partL_full h.safe.slot (slotL_len _ _ _) (by omega)
 have em:(halfL L f p).take 16=markL:=by
  have:=hpart 0 16 (by omega) (.inl (by omega))
  rw [partL_zero,partL_zero] at this
  rw [this];exact h.safe.mark
 have es:slotOf (halfL L f p) L.slot=(L.number,L.kept,L.pages) :=
  slotOf_slotL (by omega) ((hpart _ 24 (by omega) (by omega)).trans h.safe.slot) h.safe.num (by omega) h.safe.ok.pages (by
   rcases h.safe.top with h2 | h2
   ·exact .inl h2
   ·exact .inr (by omega))
 refine ⟨ix_of em hs h.safe.num es (.inl (half_told h h64 f p)),es, ?_⟩
 refine List.ext_getElem? fun i=>?_
 rw [List.getElem?_take]
 by_cases hi:i<L.kept
 ·have hil:i<L.fs.length:=by omega
  have hf:=List.getElem?_eq_getElem hil
  have hb:=synced_lies h hf
  have hfr:=h.safe.ok.frames _ (List.getElem_mem hil)
  have hfull:=partL_full hb (Fr.bytes_len _ hfr.2) (by omega)
  have hfa:=frameAt_bytes ((hpart _ 1028 hfull (.inr (by omega))).trans hb) hfr.1 hfr.2
  rw [if_pos hi,hf]
  have hli:i<(framesOf (halfL L f p) L.kept).length:=by rw [framesOf_len];exact hi
  have hg:=List.getElem?_eq_getElem hli
  rw [hg,(framesOf_get _ _ _ _ hg).2,hfa]
 ·rw [if_neg hi,List.getElem?_eq_none (by rw [framesOf_len];omega)]
theorem told_reads {L:Lg} (h:Synced L) (h64:64≤L.D.l1.length) {f p:Nat} (hf:f≤L.fs.length) (hp:p<4294967296):slotIx (toldL L f p)=1-L.slot∧slotOf (toldL L f p) (1-L.slot)=(L.number % 3+1,f,p)∧framesOf (toldL L f p) f=L.fs.take f:=by
 obtain ⟨t1,t2,t3,t4,t5⟩:=told_file h h64 f p
 have hn:=h.safe.num
 have hs:=h.safe.ok.slot
 have hlen:=h.safe.ok.len
 have hk:=h.safe.ok.kept
 have hfl:∀ (i:Nat) (g:Fr),L.fs[i]? = some g→64+1028*i+1028≤L.D.l1.length:=fun i g hg=>partL_full (synced_lies h hg) (Fr.bytes_len _ (h.safe.ok.frames g (List.mem_of_getElem? hg)).2) (by omega)
 have es:slotOf (toldL L f p) (1-L.slot)=(L.number % 3+1,f,p):=slotOf_slotL (by omega) t3 (by omega) (by omega) hp (by
  rcases Nat.eq_zero_or_pos f with h0 | h0
  ·exact .inl h0
  ·have hfi:f-1<L.fs.length:=by omega
   have:=hfl (f-1) _ (List.getElem?_eq_getElem hfi)
   exact .inr (by omega))
 have eo:=old_told (l:=toldL L f p) (k:=L.slot) (N:=L.number % 3+1) (by
  rw [zt_drop (by omega),t4]
  exact old_slotL hn.2 rfl)
 refine ⟨ix_of t2 (by omega) (by omega) es (by rw [show 1-(1-L.slot)=L.slot by omega];exact eo),es, ?_⟩
 refine List.ext_getElem? fun i=>?_
 rw [List.getElem?_take]
 by_cases hi:i<f
 ·have hil:i<L.fs.length:=by omega
  have hfi:=List.getElem?_eq_getElem hil
  have hfr:=h.safe.ok.frames _ (List.getElem_mem hil)
  have hfa:=frameAt_bytes ((t5 _ 1028 (by omega) (hfl i _ hfi)).trans (synced_lies h hfi)) hfr.1 hfr.2
  rw [if_pos hi,hfi]
  have hli:i<(framesOf (toldL L f p) f).length:=by rw [framesOf_len];exact hi
  have hg:=List.getElem?_eq_getElem hli
  rw [hg,(framesOf_get _ _ _ _ hg).2,hfa]
 ·rw [if_neg hi,List.getElem?_eq_none (by rw [framesOf_len];omega)]
def zpg (l:List UInt8) (n:Nat):List UInt8:=partL (zt l 6144) (1024*n) 1024
def zeroPage:ByteArray:=bsOf (List.replicate 1024 0)
def LiesP (l0:List UInt8) (fs:List Fr) (n:Nat) (o:Option ByteArray):Prop :=
 if lastAt fs n≠0 then (fs[lastAt fs n-1]?).map (·.text)=o
 else bsOf (zpg l0 n)=o.getD zeroPage∧(o≠none→1024*n+1024≤l0.length)
def Holds (l0:List UInt8) (fs:List Fr) (K:Nat→Option ByteArray):Prop:=∀ n,n<6→LiesP l0 fs n (K n)
theorem zt_len {l:List UInt8} {B:Nat}:(zt l B).length=B:=by
 unfold zt
 rw [List.length_take,zerosTo_len];omega
def PgCh (F:Nat→Prop) (c:Ch):Prop:=c.file=0∧((c.cut=true∧c.at_=6144)∨(c.cut=false∧∃ m,m<6∧F m∧c.at_=1024*m∧c.text.size=1024))
theorem LiesP.grow {l l':List UInt8} {fs:List Fr} {n:Nat} {o:Option ByteArray} (h:LiesP l fs n o) (hl:l.length≤l'.length) (hz:lastAt fs n=0→zpg l' n=zpg l n):LiesP l' fs n o:=by
 unfold LiesP at h ⊢
 by_cases hk:lastAt fs n≠0
 ·rw [if_pos hk] at h ⊢;exact h
 ·rw [if_neg hk] at h ⊢
  rw [hz (Classical.byContradiction hk)]
  exact ⟨h.1,fun ho=>Nat.le_trans (h.2 ho) hl⟩
structure Wet (F:Nat→Prop) (D0 D:Dk):Prop where
 l0:D.l0=D0.l0
 l1:D.l1=D0.l1
 waits:∃ ws,D.waits=D0.waits++ws∧∀ c∈ws,PgCh F c
theorem Wet.refl (F:Nat→Prop) (D:Dk):Wet F D D:=⟨rfl,rfl,[],by simp,fun c hc=>by cases hc⟩
theorem Wet.turn {F:Nat→Prop} {D0 D:Dk} (h:Wet F D0 D):Wet F D0 D.turn:=by
 obtain ⟨a,b,c⟩:=turn_lasts D
 exact ⟨a.trans h.l0,b.trans h.l1,by rw [c];exact h.waits⟩
theorem Wet.change {F:Nat→Prop} {D0 D:Dk} (h:Wet F D0 D) {c:Ch} (hc:PgCh F c):Wet F D0 (D.change c):=by
 obtain ⟨a,b,e⟩:=change_lasts D c
 refine ⟨a.trans h.l0,b.trans h.l1, ?_⟩
 obtain ⟨ws,h1,h2⟩:=h.waits
 rcases e with e | e
 ·exact ⟨ws,e.trans h1,h2⟩
 ·refine ⟨ws++[c],by rw [e,h1,List.append_assoc],fun d hd=>?_⟩
  rcases List.mem_append.1 hd with hd | hd
  ·exact h2 d hd
  ·rw [List.mem_singleton.1 hd];exact hc
def Framed (L:Lg) (n:Nat):Prop:=lastAt L.fs n≠0
def textOf (L:Lg) (m:Nat):ByteArray:=((L.fs[lastAt L.fs m-1]?).map (·.text)).getD ⟨#[]⟩
theorem textOf_size {L:Lg} (h:L.ok) {m:Nat} (hm:Framed L m):(textOf L m).size=1024∧(L.fs[lastAt L.fs m-1]?).map (·.text)=some (textOf L m):=by
 obtain ⟨f,hf,_⟩:=lastAt_get L.fs m hm
 unfold textOf
 rw [hf]
 exact ⟨(h.frames f (List.mem_of_getElem? hf)).2,rfl⟩
theorem put1_bare {L:Lg} (D:Dk) {m:Nat} (hf:¬ Framed L m):L.put1 D m=D∧L.put1E D m=0:=⟨if_neg hf,if_neg hf⟩
theorem stops_down {D:Dk} (h:D.turnE≠0):D.stops∧D.turn.down=true:=by
 have hs:D.stops:=Classical.byContradiction fun h2=>h ((turnE_zero D).2 h2)
 refine ⟨hs, ?_⟩
 unfold Dk.turn
 rw [if_pos hs]
theorem change_down {D:Dk} {c:Ch} (h:D.turnE≠0):(D.change c).down=true:=by
 obtain ⟨h1,h2⟩:=stops_down h
 unfold Dk.change
 rw [if_pos h1];exact h2
end Go.Proofs.YtjihboddejaelaaGreat
namespace Go.Proofs.YtjihboddejaelaaGreat
open Go.RowKit
def TellsL (l0 l1:List UInt8) (K:Nat→Option ByteArray):Prop:=slotIx l1≠2∧Holds l0 (framesOf l1 (slotOf l1 (slotIx l1)).2.1) K
theorem TellsL.of {l0 l1:List UInt8} {K:Nat→Option ByteArray} {sl N f p:Nat} {fs:List Fr} (h:slotIx l1=sl∧slotOf l1 sl=(N,f,p)∧framesOf l1 f=fs) (hs:sl<2) (hk:Holds l0 fs K):TellsL l0 l1 K:=by
 obtain ⟨h1,h2,h3⟩:=h
 unfold TellsL
 rw [h1,h2,h3]
 exact ⟨by omega,hk⟩
theorem mid_one {L:Lg} (h:Synced L) (h64:64≤L.D.l1.length) {f p:Nat} (hf:f≤L.fs.length) (hp:p<4294967296) (how:Int) :
 (slotIx (crash1 ⟨1,16+24*(1-L.slot),bsOf (slotL (L.number % 3+1) f p),false⟩ how L.D.l1 1)=L.slot∧slotOf (crash1 ⟨1,16+24*(1-L.slot),bsOf (slotL (L.number % 3+1) f p),false⟩ how L.D.l1 1) L.slot=(L.number,L.kept,L.pages)∧framesOf (crash1 ⟨1,16+24*(1-L.slot),bsOf (slotL (L.number % 3+1) f p),false⟩ how L.D.l1 1) L.kept=L.fs.take L.kept) ∨
  (slotIx (crash1 ⟨1,16+24*(1-L.slot),bsOf (slotL (L.number % 3+1) f p),false⟩ how L.D.l1 1)=1-L.slot∧slotOf (crash1 ⟨1,16+24*(1-L.slot),bsOf (slotL (L.number % 3+1) f p),false⟩ how L.D.l1 1) (1-L.slot)=(L.number % 3+1,f,p)∧framesOf (crash1 ⟨1,16+24*(1-L.slot),bsOf (slotL (L.number % 3+1) f p),false⟩ how L.D.l1 1) f=L.fs.take f):=by
 unfold crash1
 rw [if_pos rfl]
 by_cases k1:how=1
 ·rw [if_pos k1]
  have e2:Ch.done ⟨1,16+24*(1-L.slot),bsOf (slotL (L.number % 3+1) f p),false⟩ L.D.l1=toldL L f p:=by
   unfold Ch.done toldL
   rw [if_neg (show ¬ (false=true) by decide),bsOf_list]
  rw [e2]
  exact .inr (told_reads h h64 hf hp)
 ·rw [if_neg k1]
  by_cases k2:how=2
  ·rw [if_pos k2]
   have e2:Ch.done (Ch.half ⟨1,16+24*(1-L.slot),bsOf (slotL (L.number % 3+1) f p),false⟩) L.D.l1=halfL L f p:=by
    unfold Ch.half
    rw [if_neg (show ¬ (false=true) by decide)]
    unfold Ch.done halfL
    rw [if_neg (by show ¬ (false=true);decide)]
    show putL L.D.l1 (16+24*(1-L.slot)) ((bsOf (slotL (L.number % 3+1) f p)).extract 0 ((bsOf (slotL (L.number % 3+1) f p)).size / 2)).data.toList=_
    rw [bsOf_size,slotL_len,extr_part,bsOf_list,bsOf_list]
    rfl
   rw [e2]
   exact .inl (half_reads h h64 f p)
  ·rw [if_neg k2]
   have:=after_crash h.safe []
   have e3:(L.D.crash []).l1=L.D.l1:=by
    show crashL [] L.D.waits 0 1 L.D.l1=_
    rw [h.waits];rfl
   rw [e3] at this
   exact .inl ⟨this.2.1,this.2.2.1,this.2.2.2⟩
def Lg.settle (L:Lg) (l:List UInt8):Lg:={ L with D:={ L.D with l1:=l,waits:=[] } }
theorem settle_synced {L:Lg} (h:Safe L) (hfull:L.fs.length=L.kept) {l:List UInt8} (z:zt l (64+1028*L.kept)=zt L.D.l1 (64+1028*L.kept)) (hl:L.D.l1.length≤l.length) (hm:l.length≤67108864):Synced (L.settle l):=by
 obtain ⟨f1,f2,f3,f4,f5⟩:=safe_file h z hl
 have hok:(L.settle l).ok:=by
  refine ⟨⟨h.ok.disk.l0,hm,fun c hc=>(by cases hc),h.ok.disk.fails⟩,h.ok.frames,fun i f hf=>?_,h.ok.top,h.ok.kept,h.ok.pages,h.ok.slot,h.ok.number⟩
  have hf2:L.fs[i]? = some f:=hf
  have hi:i<L.fs.length:=(List.getElem?_eq_some_iff.1 hf2).1
  exact f5 i f (by omega) hf2
 exact ⟨⟨hok,f1,h.num,f2,f3,f4,f5,fun c hc=>(by cases hc),fun c hc=>(by cases hc)⟩,rfl⟩
theorem settle_crash {L:Lg} (h:Safe L) (hfull:L.fs.length=L.kept) (keep:List Int):Synced (L.settle (L.D.crash keep).l1):=by
 obtain ⟨z,hl⟩:=crashL_zt keep L.D.waits 0 1 L.D.l1 (64+1028*L.kept) h.waits1
 exact settle_synced h hfull z hl (Dk.crash_ok h.ok.disk keep).l1
theorem chsync {D:Dk} (hw:∀ c∈D.waits,c.file=1) {c:Ch} (hc:c.file=1) (h1:¬ D.stops) (h2:¬ (D.change c).stops) :
 (D.change c).sync 1=⟨D.l0,c.done (D.seen 1),[],(D.change c).turn.fails,(D.change c).turn.down,(D.change c).turn.count⟩:=by
 have e:(D.change c).sync 1=(D.change c).syncT 1:=by
  unfold Dk.sync
  rw [if_pos (by decide),if_neg h2];rfl
 have hs:(D.change c).seen 1=c.done (D.seen 1):=by
  rw [Dk.change_seen _ _ h1,if_pos hc]
 have hW:(D.change c).waits=D.waits++[c]:=by
  unfold Dk.change
  rw [if_neg h1]
 have hf:(D.change c).waits.filter (fun c=>decide (c.file≠1))=[]:=by
  rw [hW,List.filter_eq_nil_iff]
  intro d hd
  have:d.file=1:=by
   rcases List.mem_append.1 hd with hd | hd
   ·exact hw d hd
   ·rw [List.mem_singleton.1 hd];exact hc
  simp [this]
 rw [e]
 show Dk.mk (if 1=0 then _ else (D.change c).l0) (if 1=0 then _ else (D.change c).seen 1) ((D.change c).waits.filter (fun c=>decide (c.file≠1))) _ _ _=_
 rw [if_neg (by decide),if_neg (by decide),hs,hf,(change_lasts D c).1]
theorem turn_parts {D E:Dk} (h1:D.fails=E.fails) (h2:D.down=E.down) (h3:D.count=E.count):(D.stops↔E.stops)∧D.turn.fails=E.turn.fails∧D.turn.down=E.turn.down∧D.turn.count=E.turn.count:=by
 have hs:D.stops↔E.stops:=by unfold Dk.stops;rw [h1,h2]
 refine ⟨hs, ?_⟩
 unfold Dk.turn
 by_cases h:D.stops
 ·rw [if_pos h,if_pos (hs.1 h)];exact ⟨h1,rfl,h3⟩
 ·rw [if_neg h,if_neg (fun h4=>h (hs.2 h4))]
  exact ⟨by show (if 0<D.fails then _ else _)=(if 0<E.fails then _ else _);rw [h1],h2,by show D.count+1=E.count+1;rw [h3]⟩
theorem change_parts {D E:Dk} (c:Ch) (h1:D.fails=E.fails) (h2:D.down=E.down) (h3:D.count=E.count):(D.change c).fails=(E.change c).fails∧(D.change c).down=(E.change c).down∧(D.change c).count=(E.change c).count:=by
 obtain ⟨hs,t⟩:=turn_parts h1 h2 h3
 unfold Dk.change
 by_cases h:D.stops
 ·rw [if_pos h,if_pos (hs.1 h)];exact t
 ·rw [if_neg h,if_neg (fun h4=>h (hs.2 h4))];exact t
def tellCh (L:Lg) (f p:Nat):Ch:=⟨1,16+24*(1-L.slot),bsOf (slotL (L.number % 3+1) f p),false⟩
theorem tellD_eq {L:Lg} (hs:L.slot<2) (f p:Nat):L.tellD f p=L.D.change (tellCh L f p):=by
 have hfit:(1<2∧16+24*(1-L.slot)+(bsOf (slotL (L.number % 3+1) f p)).size≤67108864):=⟨by omega,by rw [bsOf_size,slotL_len];omega⟩
 have hD:L.tellD f p=L.D.change ⟨(1:Int).toNat,((16+24*(1-L.slot):Nat):Int).toNat,bsOf (slotL (L.number % 3+1) f p),false⟩:=if_pos (fitsF_iff.2 hfit)
 rw [hD,Int.toNat_natCast];rfl
theorem Safe.all1 {L:Lg} (h:Safe L):∀ c∈L.D.waits,c.file=1:=fun c hc=>by
 have h0:=h.waits0 c hc
 have h1:=(h.ok.disk.waits c hc).1
 omega
theorem tell_settle {L:Lg} (h:Safe L) (f p:Nat) (h1:¬ L.D.stops) (h2:¬ (L.tellD f p).stops) :
 L.tell f p=(L.settle (L.D.seen 1)).tell f p∧¬ (L.settle (L.D.seen 1)).D.stops∧¬ ((L.settle (L.D.seen 1)).tellD f p).stops:=by
 have hs:=h.ok.slot
 have e1:=tellD_eq hs f p
 have e2:(L.settle (L.D.seen 1)).tellD f p=(L.settle (L.D.seen 1)).D.change (tellCh L f p):=tellD_eq (L:=L.settle (L.D.seen 1)) hs f p
 obtain ⟨t0,_⟩:=turn_parts (D:=L.D) (E:=(L.settle (L.D.seen 1)).D) rfl rfl rfl
 obtain ⟨c1,c2,c3⟩:=change_parts (D:=L.D) (E:=(L.settle (L.D.seen 1)).D) (tellCh L f p) rfl rfl rfl
 obtain ⟨u0,u1,u2,u3⟩:=turn_parts c1 c2 c3
 have k1:¬ (L.settle (L.D.seen 1)).D.stops:=fun h3=>h1 (t0.2 h3)
 have h2':¬ (L.D.change (tellCh L f p)).stops:=by rw [← e1];exact h2
 have k2':¬ ((L.settle (L.D.seen 1)).D.change (tellCh L f p)).stops:=fun h3=>h2' (u0.2 h3)
 have k2:¬ ((L.settle (L.D.seen 1)).tellD f p).stops:=by rw [e2];exact k2'
 have a:L.tell f p={ L with D:=(L.tellD f p).sync 1,slot:=1-L.slot,number:=L.number % 3+1,kept:=f,pages:=p }:=(if_neg h1).trans (if_neg h2)
 have b:(L.settle (L.D.seen 1)).tell f p={ L with D:=((L.settle (L.D.seen 1)).tellD f p).sync 1,slot:=1-L.slot,number:=L.number % 3+1,kept:=f,pages:=p }:=(if_neg k1).trans (if_neg k2)
 refine ⟨?_,k1,k2⟩
 rw [a,b,e1,e2,chsync h.all1 rfl h1 h2',chsync (fun c hc=>by cases hc) rfl k1 k2',u1,u2,u3]
 rfl
theorem crash_turn (D:Dk) (keep:List Int):(D.turn.crash keep).l0=(D.crash keep).l0∧(D.turn.crash keep).l1=(D.crash keep).l1:=by
 obtain ⟨a,b,c⟩:=turn_lasts D
 constructor
 ·show crashL keep D.turn.waits 0 0 D.turn.l0=crashL keep D.waits 0 0 D.l0
  rw [a,c]
 ·show crashL keep D.turn.waits 0 1 D.turn.l1=crashL keep D.waits 0 1 D.l1
  rw [b,c]
structure Inv (L:Lg) (K N:Nat→Option ByteArray):Prop where
 safe:Safe L
 l0:L.D.l0.length≤6144
 six:L.kept≠0→L.pages=6
 kept:Holds L.D.l0 (L.fs.take L.kept) K
 now:Holds L.D.l0 L.fs N
section
variable {L:Lg} {K N:Nat→Option ByteArray}
theorem synced_crash {L:Lg} (h:Synced L) (keep:List Int):L.settle (L.D.crash keep).l1=L∧(L.D.crash keep).l1=L.D.l1:=by
 have e:(L.D.crash keep).l1=L.D.l1:=by
  show crashL keep L.D.waits 0 1 L.D.l1=_
  rw [h.waits];rfl
 refine ⟨?_,e⟩
 rw [e]
 have hw:=h.waits
 obtain ⟨⟨a,b,c,d,e2,f⟩,fs,k,p,s,u⟩:=L
 have hw2:c=[]:=hw
 subst hw2
 rfl
end
theorem turnE_two (D:Dk):D.turnE=0∨D.turnE=2:=by
 unfold Dk.turnE;split
 ·exact .inr rfl
 ·exact .inl rfl
theorem safe_nofs {L:Lg} (h:Safe L) (hk:L.kept=0):Safe ({ L with fs:=[] }:Lg) :=
 ⟨⟨h.ok.disk,fun f hf=>(by cases hf),fun i f hf=>(by cases hf),.inr rfl,by show L.kept≤0;omega,h.ok.pages,h.ok.slot,h.ok.number⟩,
   h.mark,h.num,h.slot,h.old,h.top,fun i f hi hf=>(by cases hf),h.waits1,h.waits0⟩
theorem safe_disk {L:Lg} (h:Safe L) {D3:Dk} (hok3:D3.ok) (y1:D3.l1=L.D.l1) (y2:D3.waits=L.D.waits) (y3:D3.seen 1=L.D.seen 1):Safe ({ L with D:=D3 }:Lg):=by
 refine ⟨h.ok.same hok3 y3, ?_,h.num, ?_, ?_, ?_, ?_, ?_, ?_⟩
 ·show D3.l1.take 16=markL;rw [y1];exact h.mark
 ·show partL D3.l1 _ 24=_;rw [y1];exact h.slot
 ·show OldSlot ((zt D3.l1 _).drop _) _;rw [y1];exact h.old
 ·show _∨_≤D3.l1.length;rw [y1];exact h.top
 ·show ∀ i f,i<L.kept→L.fs[i]? = some f→partL D3.l1 (64+1028*i) 1028=f.bytes;rw [y1];exact h.lies
 ·show ∀ c∈D3.waits,_;rw [y2];exact h.waits1
 ·show ∀ c∈D3.waits,_;rw [y2];exact h.waits0
theorem tellE_two (L:Lg) (f p:Nat):L.tellE f p=0∨L.tellE f p=2:=by
 unfold Lg.tellE
 split
 ·exact .inr rfl
 ·exact turnE_two _
def plainD (a b:List UInt8) (f:Int) (n:Nat):Dk:=⟨a,b,[],f,false,n⟩
def nothing:Nat→Option ByteArray:=fun _=>none
theorem zpg_nil (n:Nat) (hn:n<6):zpg [] n=List.replicate 1024 0:=by
 refine List.ext_getElem? fun i=>?_
 unfold zpg
 rw [partL_get,List.getElem?_replicate]
 split
 ·rw [zt_get,if_pos (by omega),if_neg (by simp)]
 ·rfl
theorem holds_nothing:Holds [] [] nothing:=fun n hn=>by
 unfold LiesP
 rw [if_neg (show ¬ lastAt [] n≠0 from fun h2=>h2 rfl),zpg_nil n hn]
 exact ⟨rfl,fun h=>absurd rfl h⟩
theorem putL_nil (t:List UInt8):putL [] 0 t=t:=by
 refine List.ext_getElem? fun i=>?_
 rw [putL_get,zerosTo_get2]
 by_cases h:i<t.length
 ·rw [if_pos (by omega)];rfl
 ·rw [if_neg (by omega),if_neg (by simp),if_neg (by omega),List.getElem?_eq_none (by omega)]
def firstL:List UInt8:=markL++slotL 1 0 0
theorem firstL_len:firstL.length=40:=by decide
theorem anew_new (n:Nat):(anewD (plainD [] [] (-1) n)).l0=[]∧(anewD (plainD [] [] (-1) n)).l1=firstL∧(anewD (plainD [] [] (-1) n)).waits=[]∧(anewD (plainD [] [] (-1) n)).fails = -1∧(anewD (plainD [] [] (-1) n)).down=false:=by
 have hc:Ch.done ⟨1,0,⟨#[]⟩,true⟩ []=[]:=rfl
 have e1:(plainD [] [] (-1) n).cutD 1 0=⟨[],[],[⟨1,0,⟨#[]⟩,true⟩], -1,false,n+1⟩:=rfl
 have e2:(⟨[],[],[⟨1,0,⟨#[]⟩,true⟩], -1,false,n+1⟩:Dk).sync 1=⟨[],[],[], -1,false,n+1+1⟩:=rfl
 have hs:(bsOf (markL++slotL 1 0 ((([]:List UInt8)).length / 1024))).size=40:=by rw [bsOf_size];exact firstL_len
 have e3:(⟨[],[],[], -1,false,n+1+1⟩:Dk).write 1 0 (bsOf (markL++slotL 1 0 ((([]:List UInt8)).length / 1024)))=⟨[],[],[⟨1,0,bsOf (markL++slotL 1 0 ((([]:List UInt8)).length / 1024)),false⟩], -1,false,n+1+1+1⟩:=by
  refine (if_pos ?_).trans ?_
  ·rw [hs];decide
  ·rfl
 have e0:anewD (plainD [] [] (-1) n)=((((plainD [] [] (-1) n).cutD 1 0).sync 1).write 1 0 (bsOf (markL++slotL 1 0 ((([]:List UInt8)).length / 1024)))).sync 1:=rfl
 have e4:anewD (plainD [] [] (-1) n)=⟨[],putL [] 0 (bsOf firstL).data.toList,[], -1,false,n+1+1+1+1⟩:=by
  rw [e0,e1,e2,e3];rfl
 rw [e4]
 exact ⟨rfl,by show putL [] 0 (bsOf firstL).data.toList=_;rw [bsOf_list,putL_nil],rfl,rfl,rfl⟩
theorem slotIx_nil:slotIx []=2:=by decide
theorem start_eq (n:Nat):Lg.opened (plainD [] [] (-1) n)=⟨anewD (plainD [] [] (-1) n),[],0,0,0,1⟩:=(if_pos (c:=slotIx ((plainD [] [] (-1) n).seen 1)=2) slotIx_nil).trans (by rw [show ((plainD [] [] (-1) n).seen 0).length / 1024=0 from by show 0 / 1024=0;decide])
theorem inv_start (n:Nat):Inv (Lg.opened (plainD [] [] (-1) n)) nothing nothing:=by
 obtain ⟨h0,h1,h2,h3,h4⟩:=anew_new n
 have hok:(Lg.opened (plainD [] [] (-1) n)).ok:=opened_ok ⟨by simp [plainD],by simp [plainD],fun c hc=>(by cases hc),(by show -1≤(-1:Int)∧(-1:Int)≤9223372036854775807;decide)⟩
 rw [start_eq] at hok ⊢
 generalize anewD (plainD [] [] (-1) n)=D at *
 have hz:(zt firstL (40+24*(1-0))).drop (16+24*(1-0))=List.replicate 24 0:=by decide
 refine ⟨⟨hok, ?_,⟨Nat.le_refl _,(by show 1≤3;decide)⟩, ?_, ?_,.inl rfl,fun i f hi hf=>(by cases hf),fun c hc=>?_,fun c hc=>?_⟩, ?_,fun h=>absurd rfl h, ?_, ?_⟩
 ·show D.l1.take 16=markL;rw [h1];decide
 ·show partL D.l1 (16+24*0) 24=slotL 1 0 0;rw [h1];decide
 ·show OldSlot ((zt D.l1 (40+24*(1-0))).drop (16+24*(1-0))) 1;rw [h1,hz];exact old_zeros 1
 ·have hc2:c∈D.waits:=hc
  rw [h2] at hc2;cases hc2
 ·have hc2:c∈D.waits:=hc
  rw [h2] at hc2;cases hc2
 ·show D.l0.length≤6144;rw [h0];exact Nat.zero_le _
 ·show Holds D.l0 _ _;rw [h0];exact holds_nothing
 ·show Holds D.l0 _ _;rw [h0];exact holds_nothing
end Go.Proofs.YtjihboddejaelaaGreat
namespace Go.Proofs.YtjihboddejaelaaGreat
open Go.RowKit
def SafeF (l1:List UInt8):Prop:=∀ D:Dk,D.ok→D.l1=l1→D.waits=[]→Safe (Lg.opened D)
theorem opened_of {L:Lg} (h:Safe L) (keep:List Int) {D:Dk} (e1:D.l1=(L.D.crash keep).l1) (hw:D.waits=[]):Lg.opened D=⟨D,L.fs.take L.kept,L.kept,L.pages,L.slot,L.number⟩:=by
 obtain ⟨a0,a1,a2,a3⟩:=after_crash h keep
 have hs:=h.ok.slot
 have s1:D.seen 1=(L.D.crash keep).l1:=by
  rw [← e1];unfold Dk.seen;rw [hw];rfl
 have hx:slotIx (D.seen 1)≠2:=by rw [s1,a1];omega
 have e:Lg.opened D=⟨D,framesOf (D.seen 1) (slotOf (D.seen 1) (slotIx (D.seen 1))).2.1,(slotOf (D.seen 1) (slotIx (D.seen 1))).2.1,(slotOf (D.seen 1) (slotIx (D.seen 1))).2.2,slotIx (D.seen 1),(slotOf (D.seen 1) (slotIx (D.seen 1))).1⟩:=if_neg hx
 rw [e,s1,a1,a2,a3]
theorem seen_none {D:Dk} (hw:D.waits=[]):D.seen 1=D.l1:=by unfold Dk.seen;rw [hw];rfl
theorem safeF_crash {L:Lg} (h:Safe L) (keep:List Int):SafeF (L.D.crash keep).l1:=fun D hok e1 hw=>by
 rw [opened_of h keep e1 hw]
 have hk:=h.ok.kept
 have S:=(settle_crash (safe_back h) (show (L.fs.take L.kept).length=L.kept by rw [List.length_take];omega) keep)
 have hw2:=S.waits
 have:=safe_disk S.safe (D3:=D) hok e1 (hw.trans hw2.symm) (by rw [seen_none hw,seen_none hw2];exact e1)
 exact this
theorem safeF_synced {L:Lg} (h:Synced L):SafeF L.D.l1:=by
 have:=safeF_crash h.safe []
 rwa [(synced_crash h []).2] at this
theorem safeF_told {L:Lg} (h:Synced L) (h64:64≤L.D.l1.length) {f p:Nat} (hf:f≤L.fs.length) (hp:p<4294967296):SafeF (toldL L f p):=by
 have hok:({ L.D with fails:=-1,down:=false }:Dk).ok:=⟨h.safe.ok.disk.l0,h.safe.ok.disk.l1,h.safe.ok.disk.waits,by show -1≤(-1:Int)∧(-1:Int)≤9223372036854775807;omega⟩
 have h':Synced ({ L with D:={ L.D with fails:=-1,down:=false } }:Lg):=⟨safe_disk h.safe hok rfl rfl rfl,h.waits⟩
 have n1:¬ ({ L.D with fails:=-1,down:=false }:Dk).stops:=fun hx=>by
  rcases hx with hx | hx
  ·cases hx
  ·exact absurd (show (-1:Int)=0 from hx) (by decide)
 have n2:¬ (({ L with D:={ L.D with fails:=-1,down:=false } }:Lg).tellD f p).stops:=fun hx=>by
  have e:=tellD_eq h'.safe.ok.slot f p
  rw [e] at hx
  unfold Dk.change at hx
  rw [if_neg n1] at hx
  unfold Dk.turn at hx
  rw [if_neg n1] at hx
  rcases hx with hx | hx
  ·cases hx
  ·exact absurd (show (if (0:Int) < -1 then (-1:Int)-1 else -1)=0 from hx) (by decide)
 have S:=safe_tell h' h64 hf hp n1 n2
 have e:(({ L with D:={ L.D with fails:=-1,down:=false } }:Lg).tell f p).D.l1=toldL L f p:=by
  have e2:({ L with D:={ L.D with fails:=-1,down:=false } }:Lg).tell f p={ ({ L with D:={ L.D with fails:=-1,down:=false } }:Lg) with D:=(({ L with D:={ L.D with fails:=-1,down:=false } }:Lg).tellD f p).sync 1,slot:=1-L.slot,number:=L.number % 3+1,kept:=f,pages:=p }:=(if_neg n1).trans (if_neg n2)
  rw [e2]
  exact (told_lasts h' f p n1 n2).2.1
 rw [← e]
 exact safeF_synced S
theorem safeF_half {L:Lg} (h:Synced L) (h64:64≤L.D.l1.length) (f p:Nat):SafeF (halfL L f p):=by
 have hs:=h.safe.ok.slot
 have hk:=h.safe.ok.kept
 have hz:((slotL (L.number % 3+1) f p).take 12).length=12:=by rw [List.length_take,slotL_len];omega
 have hlen:(halfL L f p).length=L.D.l1.length:=by unfold halfL;rw [putL_len,hz];omega
 have far:∀ a n,64≤a→a+n≤L.D.l1.length→partL (halfL L f p) a n=partL L.D.l1 a n:=fun a n ha hn=>partL_put hn (.inr (by rw [hz];omega))
 have near:∀ a n,a+n≤16+24*(1-L.slot)→partL (halfL L f p) a n=partL L.D.l1 a n:=fun a n hn=>partL_put (by omega) (.inl hn)
 have lies:∀ i g,L.fs[i]? = some g→partL (halfL L f p) (64+1028*i) 1028=g.bytes:=fun i g hg=>by
  have hl:=synced_lies h hg
  have hfl:=partL_full hl (Fr.bytes_len _ (h.safe.ok.frames g (List.mem_of_getElem? hg)).2) (by omega)
  rw [far _ _ (by omega) hfl];exact hl
 have sub:∀ i g,(L.fs.take L.kept)[i]? = some g→L.fs[i]? = some g:=fun i g hg=>by
  rw [List.getElem?_take] at hg
  split at hg
  ·exact hg
  ·cases hg
 have hok:(L.back.settle (halfL L f p)).ok:=by
  refine ⟨⟨h.safe.ok.disk.l0,by show (halfL L f p).length≤_;rw [hlen];exact h.safe.ok.disk.l1,fun c hc=>(by cases hc),h.safe.ok.disk.fails⟩,fun g hg=>h.safe.ok.frames g (List.mem_of_mem_take hg),fun i g hg=>?_,(safe_back h.safe).ok.top,(safe_back h.safe).ok.kept,h.safe.ok.pages,h.safe.ok.slot,h.safe.ok.number⟩
  exact lies i g (sub i g hg)
 have S:Synced (L.back.settle (halfL L f p)):=by
  refine ⟨⟨hok, ?_,h.safe.num, ?_, ?_, ?_,fun i g hi hg=>lies i g (sub i g hg),fun c hc=>(by cases hc),fun c hc=>(by cases hc)⟩,rfl⟩
  ·show (halfL L f p).take 16=markL
   have:=near 0 16 (by omega)
   rw [partL_zero,partL_zero] at this
   rw [this];exact h.safe.mark
  ·show partL (halfL L f p) (16+24*L.slot) 24=slotL L.number L.kept L.pages
   rcases (show L.slot=0∨L.slot=1 by omega) with e | e
   ·rw [near _ _ (by omega)];exact h.safe.slot
   ·have:=h.safe.slot
    rw [e] at this ⊢
    rw [← this]
    exact partL_put (by omega) (.inr (by rw [hz,e];omega))
  ·show OldSlot ((zt (halfL L f p) (40+24*(1-L.slot))).drop (16+24*(1-L.slot))) L.number
   have ho:=h.safe.old
   rw [zt_drop (by omega)] at ho ⊢
   have e2:(partL (halfL L f p) (16+24*(1-L.slot)) 24).drop 12=(partL L.D.l1 (16+24*(1-L.slot)) 24).drop 12:=by
    refine List.ext_getElem? fun i=>?_
    rw [List.getElem?_drop,List.getElem?_drop,partL_get,partL_get]
    split
    ·unfold halfL
     rw [putL_get,if_neg (by rw [hz];omega),zerosTo_get _ _ _ (by omega)]
    ·rfl
   unfold OldSlot at ho ⊢
   rw [e2];exact ho
  ·show L.kept=0∨64+1028*L.kept≤(halfL L f p).length
   rw [hlen];exact h.safe.top
 exact safeF_synced S
theorem mid_safeF {L:Lg} (h:Synced L) (h64:64≤L.D.l1.length) {f p:Nat} (hf:f≤L.fs.length) (hp:p<4294967296) (how:Int) :
 SafeF (crash1 ⟨1,16+24*(1-L.slot),bsOf (slotL (L.number % 3+1) f p),false⟩ how L.D.l1 1):=by
 unfold crash1
 rw [if_pos rfl]
 by_cases k1:how=1
 ·rw [if_pos k1]
  have e2:Ch.done ⟨1,16+24*(1-L.slot),bsOf (slotL (L.number % 3+1) f p),false⟩ L.D.l1=toldL L f p:=by
   unfold Ch.done toldL
   rw [if_neg (show ¬ (false=true) by decide),bsOf_list]
  rw [e2]
  exact safeF_told h h64 hf hp
 ·rw [if_neg k1]
  by_cases k2:how=2
  ·rw [if_pos k2]
   have e2:Ch.done (Ch.half ⟨1,16+24*(1-L.slot),bsOf (slotL (L.number % 3+1) f p),false⟩) L.D.l1=halfL L f p:=by
    unfold Ch.half
    rw [if_neg (show ¬ (false=true) by decide)]
    unfold Ch.done halfL
    rw [if_neg (by show ¬ (false=true);decide)]
    show putL L.D.l1 (16+24*(1-L.slot)) ((bsOf (slotL (L.number % 3+1) f p)).extract 0 ((bsOf (slotL (L.number % 3+1) f p)).size / 2)).data.toList=_
    rw [bsOf_size,slotL_len,extr_part,bsOf_list,bsOf_list]
    rfl
   rw [e2]
   exact safeF_half h h64 f p
  ·rw [if_neg k2]
   exact safeF_synced h
end Go.Proofs.YtjihboddejaelaaGreat
namespace Go.Proofs.YtjihboddejaelaaGreat
open Go.RowKit
theorem go_down {D:Dk} (h:¬ D.stops):D.down=false:=by
 cases hd:D.down with
 | false=>rfl
 | true=>exact absurd (.inl hd) h
theorem change_up {D:Dk} {c:Ch} (h:¬ D.stops):(D.change c).down=false:=by
 unfold Dk.change Dk.turn
 rw [if_neg h,if_neg h]
 exact go_down (D:=D) h
theorem sync_up {D:Dk} {f:Nat} (hf:f<2) (h:¬ D.stops):(D.sync f).down=false:=by
 unfold Dk.sync
 rw [if_pos (by omega),if_neg h]
 show D.turn.down=false
 unfold Dk.turn
 rw [if_neg h]
 exact go_down (D:=D) h
theorem tell_live {L:Lg} {f p:Nat} (h:L.tellE f p=0):(L.tell f p).D.down=false:=by
 unfold Lg.tellE at h
 by_cases h1:L.D.stops
 ·rw [if_pos h1] at h;cases h
 ·rw [if_neg h1] at h
  have h2:=(turnE_zero _).1 h
  unfold Lg.tell
  rw [if_neg h1,if_neg h2]
  exact sync_up (f:=1) (by omega) h2
theorem check3_no {L:Lg} {D:Dk}:(L.check3 D).2≠11:=fun he=>by
 unfold Lg.check3 at he
 by_cases h1:D.cutE 0 (1024*L.pages:Nat)≠0
 ·rw [if_pos h1] at he
  dsimp only at he
  unfold Dk.cutE at he
  split at he
  ·rcases turnE_two D with h | h
   ·rw [h] at he;cases he
   ·rw [h] at he;cases he
  ·cases he
 ·rw [if_neg h1] at he
  by_cases h2:(D.cutD 0 (1024*L.pages:Nat)).stops
  ·rw [if_pos h2] at he;cases he
  ·rw [if_neg h2] at he
   dsimp only at he
   rcases tellE_two ({ L with D:=(D.cutD 0 (1024*L.pages:Nat)).sync 0 }:Lg) 0 L.pages with h | h
   ·rw [if_pos h] at he;cases he
   ·rw [if_neg (by rw [h];decide)] at he
    dsimp only at he
    rw [h] at he;cases he
end Go.Proofs.YtjihboddejaelaaGreat
