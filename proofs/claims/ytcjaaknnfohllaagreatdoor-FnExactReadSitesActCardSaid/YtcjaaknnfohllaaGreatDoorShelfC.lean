/- The contracts lie in ShelfM. -/
import Derived.Test.YtcjaaknnfohllaaGreatDoorShelfM
