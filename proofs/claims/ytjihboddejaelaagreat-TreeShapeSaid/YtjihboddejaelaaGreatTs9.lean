/-
  A pool over a log with checkpoints, in plain Lean: Alloc, Write, Free, Commit, Rollback, Checkpoint, Pin, Unpin; page 0 tells the first free page. No program in sight.
-/
import Derived.Test.YtjihboddejaelaaGreatTs8
import Derived.Test.YtjihboddejaelaaGreatTs2
import Derived.Test.YtjihboddejaelaaGreatTs1
import Derived.Test.YtjihboddejaelaaGreatTs3
import Derived.Test.YtjihboddejaelaaGreatTs5
import Derived.Deep.RegionHeld3
set_option linter.unusedVariables false
set_option linter.unusedSimpArgs false
set_option maxRecDepth 100000
set_option maxHeartbeats 100000000
namespace Go.Proofs.YtjihboddejaelaaGreat
open Go.RowKit
variable {mf:Nat}
structure Root (N:Bk) (free:Nat):Prop where
 pos:1≤N.q
 text:N.K 0=Dc 4 free []
 le:free≤2147483647
theorem ML0 {l:Nat} (hl:l≤2147483647):Hr (Dc 4 l [])=some (4,l,[]):=by
 have h:1≤4∧4≤5∧l≤2147483647∧Be []≤1012:=⟨by omega,by omega,hl,by decide⟩
 exact Ju.2 ⟨h.1,h.2.1,h.2.2.1,h.2.2.2,(Oh h).symm⟩
theorem ZU0 {l:Nat} (hl:l≤2147483647):(Dc 4 l []).size=1024:=Og (K:=4) (by omega) (by omega) hl (by decide)
theorem DR0 {l:Nat} (hl:l≤2147483647):(Dc 3 l []).size=1024:=Og (K:=3) (by omega) (by omega) hl (by decide)
theorem Root.put {N:Bk} {free:Nat} (h:Root N free) {x:Nat} (hx:x≠0) (s:ByteArray):Root (N.put x s) free :=
 ⟨h.pos,by show (if 0=x then s else N.K 0)=_;rw [if_neg (Ne.symm hx)];exact h.text,h.le⟩
theorem AK1 {N:Bk} {n:Nat} (h:1≤N.q) (hn:n≤2147483647):Root (N.put 0 (Dc 4 n [])) n:=⟨h,rfl,hn⟩
section
variable {P:Pl} {B N:Bk} {W:Nat}
theorem PIn.GP0 (h:PIn mf P B N) {n:Nat} (hn:n≤2147483647):PIn mf { P with free:=n } B N :=
 ⟨⟨h.ok.log,h.ok.names,h.ok.pages,h.ok.size,h.ok.most,h.ok.full,h.ok.few,hn,h.ok.turnd,h.ok.turns⟩,h.log,h.pages,h.ring,h.lies,h.same,h.le⟩
theorem BB1 (h:PIn mf P B N) (r:Root N P.free) (hw:wt P≤60000) (x:Int):PIn mf (P.get x).1 B N∧Root N (P.get x).1.free∧wt (P.get x).1≤wt P:=by
 obtain ⟨g1,g2,_⟩:=US0 h hw x
 exact ⟨g1,by rw [(HV0 x).2.2.1];exact r,g2⟩
end
end Go.Proofs.YtjihboddejaelaaGreat
namespace Go.Proofs.YtjihboddejaelaaGreat
open Go.RowKit
variable {mf:Nat}
section
variable {P:Pl} {B N:Bk}
end
end Go.Proofs.YtjihboddejaelaaGreat
namespace Go.Proofs.YtjihboddejaelaaGreat
open Go.RowKit Go.BigFrame

section
variable {w w':World} {b:List (Option Nat)} {r:Nat} {D:Dk} {t:TypeId} {a0 a1 a2 a3 a4 a5:Value}
end

section
variable {w w':World} {b b' c c':List (Option Nat)} {rd r:Nat} {L L':Lg}
end
end Go.Proofs.YtjihboddejaelaaGreat
