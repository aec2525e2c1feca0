/- electionmake.Contest: some contest. -/
import Derived.Test.YtaobaaaihgahfaaGreatNamesV
namespace Go.Proofs.YtaobaaaihgahfaaGreat
open Go.RowKit Go.Mk Go.Pil
/-- A contest's cells. -/
def conC (nm : ByteArray) (ac : Option Addr) (n cc : Nat) (cm s ra d t ov sk : Int) : List Value := [.string nm, .slice ac n cc, .int .i64 cm, .int .i64 s, .int .i64 ra, .int .i64 d, .int .i64 t, .int .i64 ov, .int .i64 sk]
end Go.Proofs.YtaobaaaihgahfaaGreat
